/- The statement RtoSteady: of times that are always the same one comes to wait little more than that, within the bounds; and what none waits; for any conf and any time. -/
import Derived.Test.YtcfomapeiaobaaaRtoWorks
import Derived.Test.YtcfomapeiaobaaaStructs
import Derived.StillTailTactics
set_option linter.unusedVariables false
set_option linter.unusedSimpArgs false
namespace Go.Proofs.Ytcfomapeiaobaaa.rtoSteady
open Go.ChangeShapes Go.WideShapes Go.ChangeAt Go.RowKit
open Go.ChangeMaps (open_string shut_string)

/-- the most that the variation can be behind n + 1 equal samples -/
def bnd : Nat → Int
  | 0 => 131070
  | n + 1 => bnd n - bnd n / 4
/-- behind k equal samples -/
def Steady (c : RCf) (t : Int) (k : Nat) (st : RSt) : Prop :=
  (k = 0 ∧ st.some_ = false) ∨ (1 ≤ k ∧ st.some_ = true ∧ st.sm = 8 * t ∧ 0 ≤ st.va ∧ st.va ≤ bnd (k - 1) ∧ st.wait = rWait c (8 * t) st.va)
theorem steady_step {c : RCf} {t : Int} {k : Nat} {st : RSt} (h : Steady c t k st) (t0 : 0 ≤ t) (t1 : t ≤ 65535) : Steady c t (k + 1) (rSample c st t) := by
  rcases h with ⟨rfl, h⟩ | ⟨hk, h1, h2, h3, h4, h5⟩
  · refine .inr ⟨by omega, ?_⟩
    unfold rSample
    rw [if_pos h]
    refine ⟨rfl, rfl, ?_, ?_, rfl⟩
    · show 0 ≤ 2 * t; omega
    · show 2 * t ≤ 131070; omega
  · refine .inr ⟨by omega, ?_⟩
    unfold rSample
    rw [if_neg (by simp [h1])]
    have e1 : st.sm - st.sm / 8 + t = 8 * t := by rw [h2]; omega
    have e2 : t - st.sm / 8 = 0 := by rw [h2]; omega
    have e3 : rAbs (0 : Int) = 0 := by decide
    have e4 : bnd (k + 1 - 1) = bnd (k - 1) - bnd (k - 1) / 4 := by
      obtain ⟨m, rfl⟩ : ∃ m, k = m + 1 := ⟨k - 1, by omega⟩
      rfl
    simp only [e1, e2, e3, e4]
    refine ⟨h1, trivial, ?_, ?_, trivial⟩
    · omega
    · omega
theorem steady_end {c : RCf} {t : Int} {st : RSt} (h : Steady c t 100 st) (t0 : 0 ≤ t) :
    min (max t c.least) c.most ≤ st.wait ∧ st.wait ≤ min (max (t + t / 8 + 8) c.least) c.most := by
  rcases h with ⟨h, _⟩ | ⟨_, _, _, h3, h4, h5⟩
  · omega
  · have e : bnd (100 - 1) = 3 := by decide +kernel
    rw [e] at h4
    rw [h5]
    unfold rWait
    rw [Int.mul_ediv_cancel_left _ (by decide)]
    omega

set_option maxRecDepth 100000 in
set_option maxHeartbeats 4000000 in
theorem walk (a0_0 a0_1 a0_2 a0_3 a1 : Int) (w : World) (w0_0 : (Lit.int .i64 a0_0).wf = true) (w0_1 : (Lit.int .i64 a0_1).wf = true) (w0_2 : (Lit.int .i64 a0_2).wf = true) (w0_3 : (Lit.int .i64 a0_3).wf = true)
    (w1 : (Lit.int .u16 a1).wf = true) :
    Calls Try.prog 5 #[.agg #[.int .i64 a0_0, .int .i64 a0_1, .int .i64 a0_2, .int .i64 a0_3], .int .u16 a1] w fun e w' => e = .returned (.bool true) ∧ Below w.heap.size w w' := by
  obtain ⟨l3, g3⟩ := bounds_i64 w0_3
  obtain ⟨t0, t1⟩ := bounds_u16 w1
  clear w0_0 w0_1 w0_2 w0_3 w1
  have hbox := Blk.new w 23 #[.int .i64 a0_0, .int .i64 a0_1, .int .i64 a0_2, .int .i64 a0_3]
  have hal : Below w.heap.size w (w.alloc (.cells #[.int .i64 a0_0, .int .i64 a0_1, .int .i64 a0_2, .int .i64 a0_3] 23)) := (Below.refl _ _).alloc (Nat.le_refl _) _
  have Hbox := Lib.hid hbox
  clear hbox
  have Hal := Lib.hid hal
  clear hal
  by_cases hc : (⟨a0_0, a0_1, a0_2, a0_3⟩ : RCf).ok
  · have hd := hc
    have Hc := Lib.hid hc
    clear hc
    obtain ⟨d1, d2, d3, d4, d5, d6⟩ := hd
    simp only at d1 d2 d3 d4 d5 d6
    have hnb : ¬ rBad a1 := by unfold rBad; omega
    have Hnb := Lib.hid hnb
    clear hnb
    go_enter Try.func5, Try.ntmps5
    go_wp2_with fail
    (with_reducible refine (new_okv a0_0 a0_1 a0_2 a0_3 _ Hc.out).mono ?_)
    rintro e w2 ⟨rfl, hr, hb⟩
    have hb2 : Below w.heap.size w w2 := Hal.out.trans (hb.mono (by simp))
    have hr2 : RAt w2 72 (w.heap.size + 1 + 1) ⟨a0_0, a0_1, a0_2, a0_3⟩ ⟨false, 0, 0, a0_0, 0⟩ := by simpa using hr
    have hbx : Blk w2 w.heap.size 23 #[.int .i64 a0_0, .int .i64 a0_1, .int .i64 a0_2, .int .i64 a0_3] := Blk.below Hbox.out hb (by simp)
    clear hr hb
    have Hb2 := Lib.hid hb2
    clear hb2
    have Hr2 := Lib.hid hr2
    clear hr2
    have Hbx := Lib.hid hbx
    clear hbx
    go_wp2
    go_loopw [7] (fun i wr => ∃ (k : Nat) (st : RSt), k ≤ 100 ∧ i = .int .i64 k ∧ RAt wr 72 (w.heap.size + 1 + 1) ⟨a0_0, a0_1, a0_2, a0_3⟩ st ∧ st.ok ⟨a0_0, a0_1, a0_2, a0_3⟩ ∧ Steady ⟨a0_0, a0_1, a0_2, a0_3⟩ a1 k st ∧
        Blk wr w.heap.size 23 #[.int .i64 a0_0, .int .i64 a0_1, .int .i64 a0_2, .int .i64 a0_3] ∧ Below w.heap.size w wr) (fun i _ => 100 - (intOf i).toNat)
    case atStart => exact ⟨0, _, Nat.zero_le _, rfl, Hr2.out, rStart_ok Hc.out, .inl ⟨rfl, rfl⟩, Hbx.out, Hb2.out⟩
    case round =>
      obtain ⟨k, st, hk, rfl, hr, ho, hs, hx, hb⟩ := hrel
      have Hr := Lib.hid hr
      clear hr
      have Ho := Lib.hid ho
      clear ho
      have Hs := Lib.hid hs
      clear hs
      have Hx := Lib.hid hx
      clear hx
      have Hb := Lib.hid hb
      clear hb
      by_cases hlt : k < 100
      · go_wp2_with fail
        (with_reducible refine (sample_core _ ⟨a0_0, a0_1, a0_2, a0_3⟩ st a1 _ Hr.out Hc.out Ho.out Hnb.out).mono ?_)
        rintro e w3 ⟨rfl, hr3, hg3⟩
        have ho3 := rSample_ok Hc.out Ho.out Hnb.out
        have hs3 := steady_step Hs.out t0 t1
        have hx3 := Blk.grown Hx.out hg3 (by simp; omega)
        have hb3 : Below w.heap.size w w3 := below_only Hb.out hg3 (by omega) Hb.out.size
        clear hg3
        have Hr3 := Lib.hid hr3
        clear hr3
        have Ho3 := Lib.hid ho3
        clear ho3
        have Hs3 := Lib.hid hs3
        clear hs3
        have Hx3 := Lib.hid hx3
        clear hx3
        have Hb3 := Lib.hid hb3
        clear hb3
        go_wp2
        go_roundw
        case rel => exact ⟨k + 1, _, by omega, by go_num, Hr3.out, Ho3.out, Hs3.out, Hx3.out, Hb3.out⟩
        case measure => simp [intOf]; omega
      · obtain rfl : k = 100 := by omega
        obtain ⟨q1, q2⟩ := steady_end Hs.out t0
        simp only at q1 q2
        have e1 : decide (min (max a1 a0_1) a0_2 ≤ st.wait) = true := decide_eq_true q1
        have e2 : decide (st.wait ≤ min (max (a1 + a1 / 8 + 8) a0_1) a0_2) = true := decide_eq_true q2
        clear q1 q2 hlt hk
        go_wp2_with fail
        (with_reducible refine (fresh_nil _).mono ?_)
        rintro e w' ⟨rfl, rfl⟩
        go_wp2_with fail
        (with_reducible refine (sample_nil 1 _).mono ?_)
        rintro e w' ⟨rfl, rfl⟩
        go_wp2_with fail
        (with_reducible refine (wait_nil _).mono ?_)
        rintro e w' ⟨rfl, rfl⟩
        go_wp2_with fail
        refine (back_nil _).mono ?_
        rintro e w' ⟨rfl, nb, rfl⟩
        go_wp2_with fail
        (with_reducible refine (tries_nil _).mono ?_)
        rintro e w' ⟨rfl, rfl⟩
        go_wp2
        have hr3 := Hr.out.drewN nb
        have hx3 := Blk.drewN Hx.out nb
        have hb3 := below_drewN Hb.out nb
        have Hr3 := Lib.hid hr3
        clear hr3
        have Hx3 := Lib.hid hx3
        clear hx3
        have Hb3 := Lib.hid hb3
        clear hb3
        generalize wr.drewN nb = W at *
        have y1 := Blk.cell Hx3.out 1
        have y2 := Blk.cell Hx3.out 2
        simp at y1 y2
        have hcw : Calls Try.prog 22 #[.pointer (some ⟨w.heap.size + 1 + 1, 0, none⟩)] W.drew fun r w' => r = .returned (.int .i64 st.wait) ∧ w' = W.drew := (wait_core _ ⟨a0_0, a0_1, a0_2, a0_3⟩ st _ Hr3.out.drew).mono fun _ _ h => ⟨h.1, h.2.symm⟩
        have Hcw := Lib.hid hcw
        clear hcw
        refine wp_region_still_tail 23 (by kernel_rfl) (by kernel_rfl) ?_
        simp only [List.take_succ_cons, List.take_zero, List.drop_succ_cons, List.drop_zero]
        repeat still_step
        still_call Hcw.out
        repeat still_step
        still_call Hcw.out
        repeat still_step
        try refine wpStill_nil ?_
        go_wp2_with fail
        (with_reducible refine (works_rto _).mono ?_)
        rintro e w4 ⟨rfl, hb4⟩
        go_wp2
        go_ret
        exact ⟨rfl, (Hb3.out.drew).trans (hb4.mono (by simpa using Hb3.out.size))⟩
  · have Hc := Lib.hid hc
    clear hc
    go_enter Try.func5, Try.ntmps5
    go_wp2_with fail
    (with_reducible refine (new_badv a0_0 a0_1 a0_2 a0_3 _ Hc.out (by omega) (by omega)).mono ?_)
    rintro e w2 ⟨rfl, hb⟩
    have hb2 : Below w.heap.size w w2 := Hal.out.trans (hb.mono (by simp))
    clear hb
    have Hb2 := Lib.hid hb2
    clear hb2
    go_wp2_with fail
    (with_reducible refine (works_rto _).mono ?_)
    rintro e w3 ⟨rfl, hb3⟩
    go_wp2
    go_ret
    exact ⟨rfl, Hb2.out.trans (hb3.mono Hb2.out.size)⟩

theorem own : ownKnob Try.prog.godebug = none := by kernel_rfl
theorem laidOut : laidOutB Try.prog = true := by kernel_rfl
set_option maxRecDepth 100000 in
theorem lifted (os : Os) (started : os.Started) (H : Type) (enc : TypeId × Value → H) :
    ReturnsInHanded {} Try.checked os 5 .any (Rows.rtoSteadySpec.pre6 enc Try.prog Try.f5 Rows.rtoSteadyRow.domain false) (Rows.rtoSteadySpec.post enc Try.prog Try.f5 false true false false) := by
  refine returnsInHanded_of_change (C := Try.checked) own started (by kernel_rfl) Try.func5
    (ChangeSpec.witness6 (enc := enc) (C := Try.checked) false ⟨#[], #[.agg #[.int .i64 0, .int .i64 0, .int .i64 0, .int .i64 0], .int .u16 0], []⟩ 8 (by kernel_rfl) (by kernel_rfl) (by kernel_rfl) (by kernel_rfl)) ?_
  intro W base args ds gs before hval0 hW hcnd _
  have hval : ∀ (j : Nat) t v, Try.f5.params[j]? = some t → args[j]? = some v → Value.okWide Try.prog W .any base t v := hval0
  have hW' := hW
  obtain ⟨p, q, hA0, hV, rfl, hfz, hnd⟩ := hW
  have hA : DataW.TrodAll enc Try.prog W 0 (fun _ => true) true Try.f5.params.toList args.toList ds p := hA0
  rw [Try.params5] at hA hval
  obtain ⟨v0, vs0, d0, ds0, p0, q0, hargs, rfl, rfl, h0, r0⟩ := trodAll_cons hA
  obtain ⟨v1, vs1, d1, ds1, p1, q1, rfl, rfl, rfl, h1, r1⟩ := trodAll_cons r0
  obtain ⟨rfl, rfl, rfl⟩ := trodAll_nil r1
  obtain rfl : args = #[v0, v1] := by cases args; simp_all
  obtain ⟨rfl, rfl⟩ := trodVars_none hV
  have k0 := h0
  have lt0 : ∀ x ∈ p0, x.block < W.heap.size := by obtain ⟨m, hm⟩ := k0; exact DataW.trod_lt m _ _ _ hm
  obtain ⟨c0_0, c0_1, c0_2, c0_3, y0_0, y0_1, y0_2, y0_3, m0, rfl, rfl, rfl, hy0_0, hy0_1, hy0_2, hy0_3⟩ := Go.Joins.open_agg4 Try.underlying23 (by kernel_rfl) (by kernel_rfl) (hval 0 23 v0 rfl rfl) h0
  obtain ⟨a0_0, e0_0, rfl, w0_0⟩ := DataW.trod_int Try.underlying2 hy0_0
  simp at e0_0
  subst e0_0
  obtain ⟨a0_1, e0_1, rfl, w0_1⟩ := DataW.trod_int Try.underlying2 hy0_1
  simp at e0_1
  subst e0_1
  obtain ⟨a0_2, e0_2, rfl, w0_2⟩ := DataW.trod_int Try.underlying2 hy0_2
  simp at e0_2
  subst e0_2
  obtain ⟨a0_3, e0_3, rfl, w0_3⟩ := DataW.trod_int Try.underlying3 hy0_3
  simp at e0_3
  subst e0_3
  obtain ⟨a1, rfl, rfl, rfl, w1⟩ := open_int Try.underlying40 (hval 1 40 v1 rfl rfl) h1
  clear hA0 hval0
  refine (walk a0_0 a0_1 a0_2 a0_3 a1 W w0_0 w0_1 w0_2 w0_3 w1).mono fun e W' ⟨he, bel⟩ => ?_
  subst he
  exact ⟨_, rfl, _, _, _, [], _, [], hW', trodAll_mk1 (shut_bool Try.underlying4 _), (trodAll_cons_mk (Below.trod laidOut (by kernel_rfl) (of_decide_eq_true (by kernel_rfl)) k0 bel lt0) (trodAll_cons_mk (shut_int Try.underlying40 w1) trodAll_mk0)), rfl, bel.frame _, fun h => by cases h⟩

theorem over : Rows.rtoSteadyRow.holds Try.pinned (OpenSpec.ofChange Rows.rtoSteadySpec) :=
  OpenClaim.holds_of_wide 5 Try.f5 rfl rfl rfl rfl rfl rfl rfl ⟨rfl, rfl, rfl, rfl, rfl⟩ rfl rfl rfl rfl rfl (by kernel_rfl) Try.func5 (by kernel_rfl)
    (of_decide_eq_true (by kernel_rfl)) (by unfold Func.isWrapper; first | (rw [if_pos (by decide +kernel)]; kernel_rfl) | (rw [if_neg (by decide +kernel)]; exact ⟨rfl, rfl⟩))
    (fun os started H enc _ => lifted os started H enc)

/-- THE STATEMENT -/
theorem proved : Rows.RtoSteadySaid := over
#print axioms proved
end Go.Proofs.Ytcfomapeiaobaaa.rtoSteady
