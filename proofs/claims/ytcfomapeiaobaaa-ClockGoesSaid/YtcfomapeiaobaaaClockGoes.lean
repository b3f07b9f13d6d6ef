/- The statement ClockGoes: what a clock tells, by whatever it goes on; for any time, any steps, any time that is asked for. -/
import Derived.Test.YtcfomapeiaobaaaClockLeast
set_option linter.unusedVariables false
set_option linter.unusedSimpArgs false
namespace Go.Proofs.Ytcfomapeiaobaaa.clockGoes
open Go.ChangeShapes Go.WideShapes Go.ChangeAt Go.RowKit
open Go.ChangeMaps (open_string shut_string)

set_option maxHeartbeats 1000000 in
theorem walk (a0 : Int) (a1 : Option Addr) (len1 cap1 : Nat) (z1 : List Int) (a2 : Int) (w : World) (w0 : (Lit.int .i64 a0).wf = true) (w1 : IsRow .i64 w a1 len1 cap1 z1) (w2 : (Lit.int .i64 a2).wf = true) :
    Calls Try.prog 8 #[.int .i64 a0, .slice a1 len1 cap1, .int .i64 a2] w fun e w' => e = .returned (.bool true) ∧ Below w.heap.size w w' := by
  obtain ⟨l0, g0⟩ := bounds_i64 w0
  obtain ⟨l2, g2⟩ := bounds_i64 w2
  clear w0 w2
  obtain ⟨xs, hlx, hlm, hr, hwf⟩ := w1.reads_
  clear w1
  by_cases hn : 500 < len1
  · go_enter Try.func8, Try.ntmps8
    go_wp2_with fail
    (with_reducible refine (works_clock _).mono ?_)
    rintro e w1 ⟨rfl, hb1⟩
    go_wp2
    go_ret
    exact ⟨rfl, hb1⟩
  by_cases hm : cMay a0 = true
  · have hab := cMay_true.1 hm
    have HL := Lib.hid hlx
    have HR := Lib.hid hr
    have HW := Lib.hid hwf
    have HM := Lib.hid hm
    clear hlx hr hwf hm
    go_enter Try.func8, Try.ntmps8
    go_wp2_with fail
    (with_reducible refine (clk_new a0 _ (by omega) (by omega) HM.out).mono ?_)
    rintro e w1 ⟨rfl, hc1, hb1⟩
    have Hc1 := Lib.hid hc1
    clear hc1
    have Hb1 := Lib.hid hb1
    clear hb1
    go_wp2_with fail
    (with_reducible refine (ref_may_v a0 true HM.out _ (by omega) (by omega)).mono ?_)
    rintro e w' ⟨rfl, rfl⟩
    go_wp2
    go_loopw [9, 10] (fun t i wr => ∃ (k : Nat) (now : Int), k ≤ len1 ∧ i = .int .i64 k ∧ t = .int .i64 now ∧ 0 ≤ now ∧ now ≤ 17592186044416 ∧ Clk wr w.heap.size now ∧ Below w.heap.size w wr) (fun _ i _ => len1 - (intOf i).toNat)
    case atStart => exact ⟨0, a0, Nat.zero_le _, rfl, rfl, hab.1, hab.2, Hc1.out, Hb1.out⟩
    case round =>
      obtain ⟨k, now, hk, rfl, rfl, n0, n1, hc, hb⟩ := hrel
      have hr := HR.out.below hb
      have HC := Lib.hid hc
      have HB := Lib.hid hb
      clear hc hb
      by_cases hlt : k < len1
      · obtain ⟨ad, u, rfl, _, hx, hcell⟩ := hr.at_ hlt
        clear hr
        have hk' : k < xs.length := by rw [HL.out]; exact hlt
        rw [List.getElem?_map, List.getElem?_eq_getElem hk'] at hx
        simp only [Option.map_some, Option.some.injEq] at hx
        subst hx
        obtain ⟨b1, b2⟩ := bounds_i64 (HW.out xs[k] (List.getElem_mem hk'))
        generalize xs[k] = b at *
        obtain ⟨x, e, hx⟩ : ∃ x e, cAdd now b = (x, e) := ⟨_, _, rfl⟩
        obtain ⟨x0, x1⟩ := cAdd_bounds now b
        have HX := Lib.hid hx
        rw [hx] at x0 x1
        simp only at x0 x1
        clear hx
        by_cases he : e = 0
        · subst he
          by_cases ha : x < a2
          · go_wp2_with fail
            (with_reducible refine (ref_add_any now b x 0 HX.out _ (by omega) (by omega) (by omega) (by omega)).mono ?_)
            rintro e w' ⟨rfl, rfl⟩
            go_wp2_with fail
            (with_reducible refine (clk_go _ now b _ HC.out (by omega) (by omega) (by omega) (by omega) x 0 HX.out x (by rw [if_pos rfl])).mono ?_)
            rintro e w2 ⟨rfl, hc2, hg2⟩
            have hb2 : Below w.heap.size w w2 := below_only HB.out hg2 (Nat.le_refl _) HB.out.size
            have Hg2 := Lib.hid hg2
            clear hg2
            have Hb2 := Lib.hid hb2
            clear hb2
            go_wp2_with fail
            (with_reducible refine (clk_now _ x _ hc2).mono ?_)
            rintro e w' ⟨rfl, rfl⟩
            go_wp2_with fail
            (with_reducible refine (clk_left _ x a2 _ hc2 (by omega) (by omega) (by omega) (by omega) (a2 - x) (by rw [if_pos ha])).mono ?_)
            rintro e w' ⟨rfl, rfl⟩
            have HC2 := Lib.hid hc2
            clear hc2
            go_wp2
            go_roundw
            case rel => exact ⟨k + 1, x, by omega, by go_num, rfl, by omega, by omega, HC2.out, Hb2.out⟩
            case measure => simp [intOf]; omega
          · go_wp2_with fail
            (with_reducible refine (ref_add_any now b x 0 HX.out _ (by omega) (by omega) (by omega) (by omega)).mono ?_)
            rintro e w' ⟨rfl, rfl⟩
            go_wp2_with fail
            (with_reducible refine (clk_go _ now b _ HC.out (by omega) (by omega) (by omega) (by omega) x 0 HX.out x (by rw [if_pos rfl])).mono ?_)
            rintro e w2 ⟨rfl, hc2, hg2⟩
            have hb2 : Below w.heap.size w w2 := below_only HB.out hg2 (Nat.le_refl _) HB.out.size
            have Hg2 := Lib.hid hg2
            clear hg2
            have Hb2 := Lib.hid hb2
            clear hb2
            go_wp2_with fail
            (with_reducible refine (clk_now _ x _ hc2).mono ?_)
            rintro e w' ⟨rfl, rfl⟩
            go_wp2_with fail
            (with_reducible refine (clk_left _ x a2 _ hc2 (by omega) (by omega) (by omega) (by omega) 0 (by rw [if_neg (by omega)])).mono ?_)
            rintro e w' ⟨rfl, rfl⟩
            have HC2 := Lib.hid hc2
            clear hc2
            go_wp2
            go_roundw
            case rel => exact ⟨k + 1, x, by omega, by go_num, rfl, by omega, by omega, HC2.out, Hb2.out⟩
            case measure => simp [intOf]; omega
        · have he' : (e == 0) = false := by simpa using he
          by_cases ha : now < a2
          · have HE := Lib.hid he
            clear he
            go_wp2_with fail
            (with_reducible refine (ref_add_any now b x e HX.out _ (by omega) (by omega) (by omega) (by omega)).mono ?_)
            rintro e w' ⟨rfl, rfl⟩
            go_wp2_with fail
            (with_reducible refine (clk_go _ now b _ HC.out (by omega) (by omega) (by omega) (by omega) x e HX.out now (by rw [if_neg HE.out])).mono ?_)
            rintro e w2 ⟨rfl, hc2, hg2⟩
            have hb2 : Below w.heap.size w w2 := below_only HB.out hg2 (Nat.le_refl _) HB.out.size
            have Hg2 := Lib.hid hg2
            clear hg2
            have Hb2 := Lib.hid hb2
            clear hb2
            go_wp2_with fail
            (with_reducible refine (clk_now _ now _ hc2).mono ?_)
            rintro e w' ⟨rfl, rfl⟩
            go_wp2_with fail
            (with_reducible refine (clk_left _ now a2 _ hc2 (by omega) (by omega) (by omega) (by omega) (a2 - now) (by rw [if_pos ha])).mono ?_)
            rintro e w' ⟨rfl, rfl⟩
            have HC2 := Lib.hid hc2
            clear hc2
            go_wp2
            go_roundw
            case rel => exact ⟨k + 1, now, by omega, by go_num, rfl, by omega, by omega, HC2.out, Hb2.out⟩
            case measure => simp [intOf]; omega
          · have HE := Lib.hid he
            clear he
            go_wp2_with fail
            (with_reducible refine (ref_add_any now b x e HX.out _ (by omega) (by omega) (by omega) (by omega)).mono ?_)
            rintro e w' ⟨rfl, rfl⟩
            go_wp2_with fail
            (with_reducible refine (clk_go _ now b _ HC.out (by omega) (by omega) (by omega) (by omega) x e HX.out now (by rw [if_neg HE.out])).mono ?_)
            rintro e w2 ⟨rfl, hc2, hg2⟩
            have hb2 : Below w.heap.size w w2 := below_only HB.out hg2 (Nat.le_refl _) HB.out.size
            have Hg2 := Lib.hid hg2
            clear hg2
            have Hb2 := Lib.hid hb2
            clear hb2
            go_wp2_with fail
            (with_reducible refine (clk_now _ now _ hc2).mono ?_)
            rintro e w' ⟨rfl, rfl⟩
            go_wp2_with fail
            (with_reducible refine (clk_left _ now a2 _ hc2 (by omega) (by omega) (by omega) (by omega) 0 (by rw [if_neg (by omega)])).mono ?_)
            rintro e w' ⟨rfl, rfl⟩
            have HC2 := Lib.hid hc2
            clear hc2
            go_wp2
            go_roundw
            case rel => exact ⟨k + 1, now, by omega, by go_num, rfl, by omega, by omega, HC2.out, Hb2.out⟩
            case measure => simp [intOf]; omega
      · clear hr
        go_wp2_with fail
        refine (works_clock _).mono ?_
        rintro e w2 ⟨rfl, hb2⟩
        go_wp2
        go_ret
        exact ⟨rfl, HB.out.trans (hb2.mono HB.out.size)⟩
  · have hm' : cMay a0 = false := by simpa using hm
    have HM := Lib.hid hm'
    clear hm hm'
    go_enter Try.func8, Try.ntmps8
    go_wp2_with fail
    (with_reducible refine (clk_none a0 _ (by omega) (by omega) HM.out).mono ?_)
    rintro e w' ⟨rfl, rfl⟩
    go_wp2_with fail
    (with_reducible refine (ref_may_v a0 false HM.out _ (by omega) (by omega)).mono ?_)
    rintro e w' ⟨rfl, rfl⟩
    go_wp2_with fail
    (with_reducible refine (works_clock _).mono ?_)
    rintro e w2 ⟨rfl, hb2⟩
    go_wp2
    go_ret
    exact ⟨rfl, hb2⟩

theorem own : ownKnob Try.prog.godebug = none := by kernel_rfl
theorem laidOut : laidOutB Try.prog = true := by kernel_rfl
set_option maxRecDepth 100000 in
theorem lifted (os : Os) (started : os.Started) (H : Type) (enc : TypeId × Value → H) :
    ReturnsInHanded {} Try.checked os 8 .any (Rows.clockGoesSpec.pre6 enc Try.prog Try.f8 Rows.clockGoesRow.domain false) (Rows.clockGoesSpec.post enc Try.prog Try.f8 false true false false) := by
  refine returnsInHanded_of_change (C := Try.checked) own started (by kernel_rfl) Try.func8
    (ChangeSpec.witness6 (enc := enc) (C := Try.checked) false ⟨#[], #[.int .i64 0, .slice none 0 0, .int .i64 0], []⟩ 8 (by kernel_rfl) (by kernel_rfl) (by kernel_rfl) (by kernel_rfl)) ?_
  intro W base args ds gs before hval0 hW hcnd _
  have hval : ∀ (j : Nat) t v, Try.f8.params[j]? = some t → args[j]? = some v → Value.okWide Try.prog W .any base t v := hval0
  have hW' := hW
  obtain ⟨p, q, hA0, hV, rfl, hfz, hnd⟩ := hW
  have hA : DataW.TrodAll enc Try.prog W 0 (fun _ => true) true Try.f8.params.toList args.toList ds p := hA0
  rw [Try.params8] at hA hval
  obtain ⟨v0, vs0, d0, ds0, p0, q0, hargs, rfl, rfl, h0, r0⟩ := trodAll_cons hA
  obtain ⟨v1, vs1, d1, ds1, p1, q1, rfl, rfl, rfl, h1, r1⟩ := trodAll_cons r0
  obtain ⟨v2, vs2, d2, ds2, p2, q2, rfl, rfl, rfl, h2, r2⟩ := trodAll_cons r1
  obtain ⟨rfl, rfl, rfl⟩ := trodAll_nil r2
  obtain rfl : args = #[v0, v1, v2] := by cases args; simp_all
  obtain ⟨rfl, rfl⟩ := trodVars_none hV
  obtain ⟨a0, rfl, rfl, rfl, w0⟩ := open_int Try.underlying2 (hval 0 2 v0 rfl rfl) h0
  obtain ⟨a1, len1, cap1, rfl⟩ := okWide_slice Try.underlying45 (hval 1 45 v1 rfl rfl)
  have k1 := h1
  have lt1 : ∀ x ∈ p1, x.block < W.heap.size := by obtain ⟨m, hm⟩ := k1; exact DataW.trod_lt m _ _ _ hm
  obtain ⟨z1, w1⟩ : ∃ zs, IsRow .i64 W a1 len1 cap1 zs := by
    obtain ⟨fuel, hf⟩ := h1
    rcases open_ints Try.underlying45 Try.underlying2 (by kernel_rfl) hf with ⟨hcs, _⟩ | ⟨x, l, c, zs, hcs, _, hl, hm, hz, _, hcell, hwz⟩
    · simp [Value.cells] at hcs
      obtain ⟨rfl, rfl, rfl⟩ := hcs
      exact ⟨[], .inl ⟨rfl, rfl, rfl, rfl⟩⟩
    · simp [Value.cells] at hcs
      obtain ⟨rfl, rfl, rfl⟩ := hcs
      exact ⟨zs, .inr ⟨_, rfl, hl, hm, by simpa using hz, hcell, hwz⟩⟩
  obtain ⟨a2, rfl, rfl, rfl, w2⟩ := open_int Try.underlying2 (hval 2 2 v2 rfl rfl) h2
  clear hA0 hval0
  refine (walk a0 a1 len1 cap1 z1 a2 W w0 w1 w2).mono fun e W' ⟨he, bel⟩ => ?_
  subst he
  exact ⟨_, rfl, _, _, _, [], _, [], hW', trodAll_mk1 (shut_bool Try.underlying4 _), (trodAll_cons_mk (shut_int Try.underlying2 w0) (trodAll_cons_mk (Below.trod laidOut (by kernel_rfl) (of_decide_eq_true (by kernel_rfl)) k1 bel lt1) (trodAll_cons_mk (shut_int Try.underlying2 w2) trodAll_mk0))), rfl, bel.frame _, fun h => by cases h⟩

theorem over : Rows.clockGoesRow.holds Try.pinned (OpenSpec.ofChange Rows.clockGoesSpec) :=
  OpenClaim.holds_of_wide 8 Try.f8 rfl rfl rfl rfl rfl rfl rfl ⟨rfl, rfl, rfl, rfl, rfl⟩ rfl rfl rfl rfl rfl (by kernel_rfl) Try.func8 (by kernel_rfl)
    (of_decide_eq_true (by kernel_rfl)) (by unfold Func.isWrapper; first | (rw [if_pos (by decide +kernel)]; kernel_rfl) | (rw [if_neg (by decide +kernel)]; exact ⟨rfl, rfl⟩))
    (fun os started H enc _ => lifted os started H enc)

/-- THE STATEMENT -/
theorem proved : Rows.ClockGoesSaid := over
#print axioms proved
end Go.Proofs.Ytcfomapeiaobaaa.clockGoes
