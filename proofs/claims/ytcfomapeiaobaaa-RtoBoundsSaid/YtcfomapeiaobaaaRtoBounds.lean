/- The statement RtoBounds: one always waits from the least to the most, trying anew never makes it less, and one tries as often as one may; for any conf and any script. -/
import Derived.Test.YtcfomapeiaobaaaRtoWorks
import Derived.Test.YtcfomapeiaobaaaStructs
set_option linter.unusedVariables false
set_option linter.unusedSimpArgs false
namespace Go.Proofs.Ytcfomapeiaobaaa.rtoBounds
open Go.ChangeShapes Go.WideShapes Go.ChangeAt Go.RowKit
open Go.ChangeMaps (open_string shut_string)

set_option maxRecDepth 100000 in
set_option maxHeartbeats 4000000 in
theorem walk (a0_0 a0_1 a0_2 a0_3 : Int) (a1 : Option Addr) (len1 cap1 : Nat) (w : World) (w0_0 : (Lit.int .i64 a0_0).wf = true) (w0_1 : (Lit.int .i64 a0_1).wf = true) (w0_2 : (Lit.int .i64 a0_2).wf = true) (w0_3 : (Lit.int .i64 a0_3).wf = true)
    (w1 : StrRows w [.inl .i64, .inl .i64] a1 len1) :
    Calls Try.prog 4 #[.agg #[.int .i64 a0_0, .int .i64 a0_1, .int .i64 a0_2, .int .i64 a0_3], .slice a1 len1 cap1] w fun e w' => e = .returned (.bool true) ∧ Below w.heap.size w w' := by
  obtain ⟨l3, g3⟩ := bounds_i64 w0_3
  clear w0_0 w0_1 w0_2 w0_3
  have hlm := w1.1
  unfold maxLen at hlm
  have hbox := Blk.new w 23 #[.int .i64 a0_0, .int .i64 a0_1, .int .i64 a0_2, .int .i64 a0_3]
  have hal : Below w.heap.size w (w.alloc (.cells #[.int .i64 a0_0, .int .i64 a0_1, .int .i64 a0_2, .int .i64 a0_3] 23)) := (Below.refl _ _).alloc (Nat.le_refl _) _
  have W1 := Lib.hid w1
  clear w1
  have Hbox := Lib.hid hbox
  clear hbox
  have Hal := Lib.hid hal
  clear hal
  by_cases hc : (⟨a0_0, a0_1, a0_2, a0_3⟩ : RCf).ok
  · have hd := hc
    have Hc := Lib.hid hc
    clear hc
    obtain ⟨d1, d2, d3, d4, d5, d6⟩ := hd
    simp only at d1 d2 d3 d4 d5 d6
    by_cases hn : 500 < len1
    · go_enter Try.func4, Try.ntmps4
      go_wp2_with fail
      (with_reducible refine (new_okv a0_0 a0_1 a0_2 a0_3 _ Hc.out).mono ?_)
      rintro e w2 ⟨rfl, hr, hb⟩
      have hb2 : Below w.heap.size w w2 := Hal.out.trans (hb.mono (by simp))
      clear hr hb
      have Hb2 := Lib.hid hb2
      clear hb2
      go_wp2_with fail
      (with_reducible refine (works_rto _).mono ?_)
      rintro e w3 ⟨rfl, hb3⟩
      go_wp2
      go_ret
      exact ⟨rfl, Hb2.out.trans (hb3.mono Hb2.out.size)⟩
    · go_enter Try.func4, Try.ntmps4
      go_wp2_with fail
      (with_reducible refine (new_okv a0_0 a0_1 a0_2 a0_3 _ Hc.out).mono ?_)
      rintro e w2 ⟨rfl, hr, hb⟩
      have hb2 : Below w.heap.size w w2 := Hal.out.trans (hb.mono (by simp))
      have hr2 : RAt w2 72 (w.heap.size + 1 + 1) ⟨a0_0, a0_1, a0_2, a0_3⟩ ⟨false, 0, 0, a0_0, 0⟩ := by simpa using hr
      have hbx : Blk w2 w.heap.size 23 #[.int .i64 a0_0, .int .i64 a0_1, .int .i64 a0_2, .int .i64 a0_3] := Blk.below Hbox.out hb (by simp)
      clear hr hb
      have Hb2 := Lib.hid hb2
      clear hb2
      have Hr2 := Lib.hid hr2
      clear hr2
      have Hbx := Lib.hid hbx
      clear hbx
      go_wp2
      go_loopw [7, 8] (fun tr i wr => ∃ (k : Nat) (st : RSt), k ≤ len1 ∧ i = .int .i64 k ∧ tr = .int .i64 st.tried ∧ RAt wr 72 (w.heap.size + 1 + 1) ⟨a0_0, a0_1, a0_2, a0_3⟩ st ∧ st.ok ⟨a0_0, a0_1, a0_2, a0_3⟩ ∧
          Blk wr w.heap.size 23 #[.int .i64 a0_0, .int .i64 a0_1, .int .i64 a0_2, .int .i64 a0_3] ∧ Below w.heap.size w wr) (fun _ i _ => len1 - (intOf i).toNat)
      case atStart => exact ⟨0, _, Nat.zero_le _, rfl, rfl, Hr2.out, rStart_ok Hc.out, Hbx.out, Hb2.out⟩
      case round =>
        obtain ⟨k, st, hk, rfl, rfl, hr, ho, hx, hb⟩ := hrel
        have hrows := W1.out.below hb
        have Hr := Lib.hid hr
        clear hr
        have Ho := Lib.hid ho
        clear ho
        have Hx := Lib.hid hx
        clear hx
        have Hb := Lib.hid hb
        clear hb
        by_cases hlt : k < len1
        · obtain ⟨xb, xo, rfl, hxl, hcell⟩ := hrows.2 k hlt
          obtain ⟨v0, q0, d, rfl, hd⟩ := hcell 0 _ rfl
          obtain ⟨v1, q1, t, rfl, ht⟩ := hcell 1 _ rfl
          obtain ⟨t1, t2⟩ := bounds_i64 ht
          clear hrows hcell hd ht hxl
          simp only [List.length_cons, List.length_nil, Nat.zero_add, Nat.reduceAdd] at q0 q1
          rw [Nat.add_zero] at q0
          by_cases h0 : d = 0
          · subst h0
            go_wp2_with fail
            (with_reducible refine (wait_core _ ⟨a0_0, a0_1, a0_2, a0_3⟩ st _ Hr.out).mono ?_)
            rintro e w' ⟨rfl, rfl⟩
            by_cases hbad : rBad t
            · go_wp2_with fail
              (with_reducible refine (sample_bad _ ⟨a0_0, a0_1, a0_2, a0_3⟩ st t _ Hr.out Hc.out hbad (by omega) (by omega)).mono ?_)
              rintro e w' ⟨rfl, rfl⟩
              clear hbad
              have g1 : decide (st.wait < a0_1) = false := by rw [decide_eq_false_iff_not]; have := Ho.out.2.2.2.2.1; simp only at this; omega
              have g2 : decide (a0_2 < st.wait) = false := by rw [decide_eq_false_iff_not]; have := Ho.out.2.2.2.2.2.1; simp only at this; omega
              have x1 := Blk.cell Hx.out 1
              have x2 := Blk.cell Hx.out 2
              simp at x1 x2
              go_wp2
              go_quiet (first | (go_at_call 22; exact quiet_left (wait_core _ ⟨a0_0, a0_1, a0_2, a0_3⟩ st _ (Hr.out.drewN _))) | (go_at_call 23; exact quiet_left (tries_core _ ⟨a0_0, a0_1, a0_2, a0_3⟩ st _ (Hr.out.drewN _))))
              go_wp2
              go_roundw
              case rel => exact ⟨k + 1, st, by omega, by go_num, rfl, Hr.out.drewN _, Ho.out, Blk.drewN Hx.out _, below_drewN Hb.out _⟩
              case measure => simp [intOf]; omega
            · go_wp2_with fail
              (with_reducible refine (sample_core _ ⟨a0_0, a0_1, a0_2, a0_3⟩ st t _ Hr.out Hc.out Ho.out hbad).mono ?_)
              rintro e w3 ⟨rfl, hr3, hg3⟩
              have ho3 := rSample_ok Hc.out Ho.out hbad
              have hx3 := Blk.grown Hx.out hg3 (by simp; omega)
              have hb3 : Below w.heap.size w w3 := below_only Hb.out hg3 (by omega) Hb.out.size
              have htr : (rSample ⟨a0_0, a0_1, a0_2, a0_3⟩ st t).tried = st.tried := by unfold rSample; split <;> rfl
              clear hbad hg3
              generalize rSample ⟨a0_0, a0_1, a0_2, a0_3⟩ st t = st2 at *
              rw [← htr]
              have Hr3 := Lib.hid hr3
              clear hr3
              have Ho3 := Lib.hid ho3
              clear ho3
              have Hx3 := Lib.hid hx3
              clear hx3
              have Hb3 := Lib.hid hb3
              clear hb3
              clear htr
              have g1 : decide (st2.wait < a0_1) = false := by rw [decide_eq_false_iff_not]; have := Ho3.out.2.2.2.2.1; simp only at this; omega
              have g2 : decide (a0_2 < st2.wait) = false := by rw [decide_eq_false_iff_not]; have := Ho3.out.2.2.2.2.2.1; simp only at this; omega
              have x1 := Blk.cell Hx3.out 1
              have x2 := Blk.cell Hx3.out 2
              simp at x1 x2
              go_wp2
              go_quiet (first | (go_at_call 22; exact quiet_left (wait_core _ ⟨a0_0, a0_1, a0_2, a0_3⟩ st2 _ (Hr3.out.drewN _))) | (go_at_call 23; exact quiet_left (tries_core _ ⟨a0_0, a0_1, a0_2, a0_3⟩ st2 _ (Hr3.out.drewN _))))
              go_wp2
              go_roundw
              case rel => exact ⟨k + 1, st2, by omega, by go_num, rfl, Hr3.out.drewN _, Ho3.out, Blk.drewN Hx3.out _, below_drewN Hb3.out _⟩
              case measure => simp [intOf]; omega
          · by_cases h1 : d = 1
            · subst h1
              go_wp2_with fail
              (with_reducible refine (wait_core _ ⟨a0_0, a0_1, a0_2, a0_3⟩ st _ Hr.out).mono ?_)
              rintro e w' ⟨rfl, rfl⟩
              have x3 := Blk.cell Hx.out 3
              have x2 := Blk.cell Hx.out 2
              simp at x2 x3
              by_cases htt : st.tried < a0_3
              · go_wp2_with fail
                (with_reducible refine (back_core _ ⟨a0_0, a0_1, a0_2, a0_3⟩ st _ Hr.out Hc.out Ho.out htt).mono ?_)
                rintro e w3 ⟨rfl, hr3, hg3⟩
                have ho3 := rBack_ok Hc.out Ho.out htt
                have hx3 := Blk.grown Hx.out hg3 (by simp; omega)
                have hb3 : Below w.heap.size w w3 := below_only Hb.out hg3 (by omega) Hb.out.size
                have hw := Ho.out.2.2.2.2
                simp only at hw
                obtain ⟨hw1, hw2, hw3, hw4⟩ := hw
                have e1 : decide (st.tried < a0_3) = true := decide_eq_true htt
                have eb : (rBack ⟨a0_0, a0_1, a0_2, a0_3⟩ st).wait = min (st.wait * 2) a0_2 := rfl
                have e2 : decide ((rBack ⟨a0_0, a0_1, a0_2, a0_3⟩ st).wait < st.wait) = false := by rw [decide_eq_false_iff_not, eb]; omega
                have e3 : decide ((rBack ⟨a0_0, a0_1, a0_2, a0_3⟩ st).wait < min (2 * st.wait) a0_2) = false := by rw [decide_eq_false_iff_not, eb]; omega
                have e4 : IntKind.i64.wrap (2 * st.wait) = 2 * st.wait := IntWalk.i64_in _ (by omega)
                have y3 := Blk.cell hx3 3
                have y2 := Blk.cell hx3 2
                simp at y2 y3
                clear x2 x3 eb hg3
                have Hr3 := Lib.hid hr3
                clear hr3
                have Ho3 := Lib.hid ho3
                clear ho3
                have Hx3 := Lib.hid hx3
                clear hx3
                have Hb3 := Lib.hid hb3
                clear hb3
                go_wp2
                go_quiet (first | (go_at_call 22; exact quiet_left (wait_core _ ⟨a0_0, a0_1, a0_2, a0_3⟩ (rBack ⟨a0_0, a0_1, a0_2, a0_3⟩ st) _ (Hr3.out.drewN _))))
                go_wp2
                have hr4 := Hr3.out.drewN nq
                have hx4 := Blk.drewN Hx3.out nq
                have hb4 := below_drewN Hb3.out nq
                have Hr4 := Lib.hid hr4
                clear hr4
                have Hx4 := Lib.hid hx4
                clear hx4
                have Hb4 := Lib.hid hb4
                clear hb4
                clear e1 e2 e3 e4 y2 y3 htt
                generalize w3.drewN nq = W4 at *
                have y1 := Blk.cell Hx4.out 1
                have y2 := Blk.cell Hx4.out 2
                simp at y1 y2
                have g1 : decide ((rBack ⟨a0_0, a0_1, a0_2, a0_3⟩ st).wait < a0_1) = false := by rw [decide_eq_false_iff_not]; have := Ho3.out.2.2.2.2.1; simp only at this; omega
                have g2 : decide (a0_2 < (rBack ⟨a0_0, a0_1, a0_2, a0_3⟩ st).wait) = false := by rw [decide_eq_false_iff_not]; have := Ho3.out.2.2.2.2.2.1; simp only at this; omega
                go_wp2
                have e5 : ((rBack ⟨a0_0, a0_1, a0_2, a0_3⟩ st).tried != st.tried + 1) = false := by simp [rBack]
                go_quiet (first | (go_at_call 22; exact quiet_left (wait_core _ ⟨a0_0, a0_1, a0_2, a0_3⟩ (rBack ⟨a0_0, a0_1, a0_2, a0_3⟩ st) _ (Hr4.out.drewN _))) | (go_at_call 23; exact quiet_left (tries_core _ ⟨a0_0, a0_1, a0_2, a0_3⟩ (rBack ⟨a0_0, a0_1, a0_2, a0_3⟩ st) _ (Hr4.out.drewN _))))
                go_wp2
                go_roundw
                case rel => exact ⟨k + 1, (rBack ⟨a0_0, a0_1, a0_2, a0_3⟩ st), by omega, by go_num, rfl, Hr4.out.drewN _, Ho3.out, Blk.drewN Hx4.out _, below_drewN Hb4.out _⟩
                case measure => simp [intOf]; omega
              · go_wp2_with fail
                refine (back_no _ ⟨a0_0, a0_1, a0_2, a0_3⟩ st _ Hr.out (Int.not_lt.2 htt)).mono ?_
                rintro e w' ⟨rfl, nb, rfl⟩
                have hw := Ho.out.2.2.2.2
                simp only at hw
                obtain ⟨hw1, hw2, hw3, hw4⟩ := hw
                have hr3 := Hr.out.drewN nb
                have hx3 := Blk.drewN Hx.out nb
                have hb3 := below_drewN Hb.out nb
                clear x2 x3 q0 q1
                have Hr3 := Lib.hid hr3
                clear hr3
                have Hx3 := Lib.hid hx3
                clear hx3
                have Hb3 := Lib.hid hb3
                clear hb3
                generalize wr.drewN nb = w3 at *
                have e1 : decide (st.tried < a0_3) = false := decide_eq_false (Int.not_lt.2 htt)
                have e2 : decide (st.wait < st.wait) = false := decide_eq_false (by omega)
                have y3 := Blk.cell Hx3.out 3
                have y2 := Blk.cell Hx3.out 2
                simp at y2 y3
                go_wp2
                go_quiet (first | (go_at_call 22; exact quiet_left (wait_core _ ⟨a0_0, a0_1, a0_2, a0_3⟩ st _ (Hr3.out.drewN _))))
                go_wp2
                have hr4 := Hr3.out.drewN nq
                have hx4 := Blk.drewN Hx3.out nq
                have hb4 := below_drewN Hb3.out nq
                have Hr4 := Lib.hid hr4
                clear hr4
                have Hx4 := Lib.hid hx4
                clear hx4
                have Hb4 := Lib.hid hb4
                clear hb4
                clear e1 e2 y2 y3 htt
                generalize w3.drewN nq = W4 at *
                have y1 := Blk.cell Hx4.out 1
                have y2 := Blk.cell Hx4.out 2
                simp at y1 y2
                have g1 : decide (st.wait < a0_1) = false := by rw [decide_eq_false_iff_not]; have := Ho.out.2.2.2.2.1; simp only at this; omega
                have g2 : decide (a0_2 < st.wait) = false := by rw [decide_eq_false_iff_not]; have := Ho.out.2.2.2.2.2.1; simp only at this; omega
                go_wp2
                go_quiet (first | (go_at_call 22; exact quiet_left (wait_core _ ⟨a0_0, a0_1, a0_2, a0_3⟩ st _ (Hr4.out.drewN _))) | (go_at_call 23; exact quiet_left (tries_core _ ⟨a0_0, a0_1, a0_2, a0_3⟩ st _ (Hr4.out.drewN _))))
                go_wp2
                go_roundw
                case rel => exact ⟨k + 1, st, by omega, by go_num, rfl, Hr4.out.drewN _, Ho.out, Blk.drewN Hx4.out _, below_drewN Hb4.out _⟩
                case measure => simp [intOf]; omega
            · by_cases h2 : d = 2
              · subst h2
                go_wp2_with fail
                (with_reducible refine (wait_core _ ⟨a0_0, a0_1, a0_2, a0_3⟩ st _ Hr.out).mono ?_)
                rintro e w' ⟨rfl, rfl⟩
                go_wp2_with fail
                (with_reducible refine (fresh_core _ ⟨a0_0, a0_1, a0_2, a0_3⟩ st _ Hr.out).mono ?_)
                rintro e w3 ⟨rfl, hr3, hg3⟩
                have ho3 := rFresh_ok Hc.out Ho.out
                have hx3 := Blk.grown Hx.out hg3 (by simp; omega)
                have hb3 : Below w.heap.size w w3 := below_only Hb.out hg3 (by omega) Hb.out.size
                clear hg3
                have Hr3 := Lib.hid hr3
                clear hr3
                have Ho3 := Lib.hid ho3
                clear ho3
                have Hx3 := Lib.hid hx3
                clear hx3
                have Hb3 := Lib.hid hb3
                clear hb3
                have g1 : decide ((rFresh st).wait < a0_1) = false := by rw [decide_eq_false_iff_not]; have := Ho3.out.2.2.2.2.1; simp only at this; omega
                have g2 : decide (a0_2 < (rFresh st).wait) = false := by rw [decide_eq_false_iff_not]; have := Ho3.out.2.2.2.2.2.1; simp only at this; omega
                have x1 := Blk.cell Hx3.out 1
                have x2 := Blk.cell Hx3.out 2
                simp at x1 x2
                go_wp2
                go_quiet (first | (go_at_call 22; exact quiet_left (wait_core _ ⟨a0_0, a0_1, a0_2, a0_3⟩ (rFresh st) _ (Hr3.out.drewN _))) | (go_at_call 23; exact quiet_left (tries_core _ ⟨a0_0, a0_1, a0_2, a0_3⟩ (rFresh st) _ (Hr3.out.drewN _))))
                go_wp2
                go_roundw
                case rel => exact ⟨k + 1, (rFresh st), by omega, by go_num, rfl, Hr3.out.drewN _, Ho3.out, Blk.drewN Hx3.out _, below_drewN Hb3.out _⟩
                case measure => simp [intOf]; omega
              · have e0 : (d == 0) = false := by rw [beq_eq_false_iff_ne]; exact h0
                have e1 : (d == 1) = false := by rw [beq_eq_false_iff_ne]; exact h1
                have e2 : (d == 2) = false := by rw [beq_eq_false_iff_ne]; exact h2
                clear h0 h1 h2
                go_wp2_with fail
                (with_reducible refine (wait_core _ ⟨a0_0, a0_1, a0_2, a0_3⟩ st _ Hr.out).mono ?_)
                rintro e w' ⟨rfl, rfl⟩
                have g1 : decide (st.wait < a0_1) = false := by rw [decide_eq_false_iff_not]; have := Ho.out.2.2.2.2.1; simp only at this; omega
                have g2 : decide (a0_2 < st.wait) = false := by rw [decide_eq_false_iff_not]; have := Ho.out.2.2.2.2.2.1; simp only at this; omega
                have x1 := Blk.cell Hx.out 1
                have x2 := Blk.cell Hx.out 2
                simp at x1 x2
                go_wp2
                go_quiet (first | (go_at_call 22; exact quiet_left (wait_core _ ⟨a0_0, a0_1, a0_2, a0_3⟩ st _ (Hr.out.drewN _))) | (go_at_call 23; exact quiet_left (tries_core _ ⟨a0_0, a0_1, a0_2, a0_3⟩ st _ (Hr.out.drewN _))))
                go_wp2
                go_roundw
                case rel => exact ⟨k + 1, st, by omega, by go_num, rfl, Hr.out.drewN _, Ho.out, Blk.drewN Hx.out _, below_drewN Hb.out _⟩
                case measure => simp [intOf]; omega
        · clear hrows
          go_wp2_with fail
          (with_reducible refine (works_rto _).mono ?_)
          rintro e w3 ⟨rfl, hb3⟩
          go_wp2
          go_ret
          exact ⟨rfl, Hb.out.trans (hb3.mono Hb.out.size)⟩
  · have Hc := Lib.hid hc
    clear hc
    go_enter Try.func4, Try.ntmps4
    go_wp2_with fail
    (with_reducible refine (new_badv a0_0 a0_1 a0_2 a0_3 _ Hc.out (by omega) (by omega)).mono ?_)
    rintro e w2 ⟨rfl, hb⟩
    have hb2 : Below w.heap.size w w2 := Hal.out.trans (hb.mono (by simp))
    clear hb
    have Hb2 := Lib.hid hb2
    clear hb2
    by_cases hn : 500 < len1
    all_goals
      go_wp2_with fail
      (with_reducible refine (works_rto _).mono ?_)
      rintro e w3 ⟨rfl, hb3⟩
      go_wp2
      go_ret
      exact ⟨rfl, Hb2.out.trans (hb3.mono Hb2.out.size)⟩

theorem own : ownKnob Try.prog.godebug = none := by kernel_rfl
theorem laidOut : laidOutB Try.prog = true := by kernel_rfl
set_option maxRecDepth 100000 in
theorem lifted (os : Os) (started : os.Started) (H : Type) (enc : TypeId × Value → H) :
    ReturnsInHanded {} Try.checked os 4 .any (Rows.rtoBoundsSpec.pre6 enc Try.prog Try.f4 Rows.rtoBoundsRow.domain false) (Rows.rtoBoundsSpec.post enc Try.prog Try.f4 false true false false) := by
  refine returnsInHanded_of_change (C := Try.checked) own started (by kernel_rfl) Try.func4
    (ChangeSpec.witness6 (enc := enc) (C := Try.checked) false ⟨#[], #[.agg #[.int .i64 0, .int .i64 0, .int .i64 0, .int .i64 0], .slice none 0 0], []⟩ 8 (by kernel_rfl) (by kernel_rfl) (by kernel_rfl) (by kernel_rfl)) ?_
  intro W base args ds gs before hval0 hW hcnd _
  have hval : ∀ (j : Nat) t v, Try.f4.params[j]? = some t → args[j]? = some v → Value.okWide Try.prog W .any base t v := hval0
  have hW' := hW
  obtain ⟨p, q, hA0, hV, rfl, hfz, hnd⟩ := hW
  have hA : DataW.TrodAll enc Try.prog W 0 (fun _ => true) true Try.f4.params.toList args.toList ds p := hA0
  rw [Try.params4] at hA hval
  obtain ⟨v0, vs0, d0, ds0, p0, q0, hargs, rfl, rfl, h0, r0⟩ := trodAll_cons hA
  obtain ⟨v1, vs1, d1, ds1, p1, q1, rfl, rfl, rfl, h1, r1⟩ := trodAll_cons r0
  obtain ⟨rfl, rfl, rfl⟩ := trodAll_nil r1
  obtain rfl : args = #[v0, v1] := by cases args; simp_all
  obtain ⟨rfl, rfl⟩ := trodVars_none hV
  have k0 := h0
  have lt0 : ∀ x ∈ p0, x.block < W.heap.size := by obtain ⟨m, hm⟩ := k0; exact DataW.trod_lt m _ _ _ hm
  obtain ⟨c0_0, c0_1, c0_2, c0_3, y0_0, y0_1, y0_2, y0_3, m0, rfl, rfl, rfl, hy0_0, hy0_1, hy0_2, hy0_3⟩ := Go.Joins.open_agg4 Try.underlying23 (by kernel_rfl) (by kernel_rfl) (hval 0 23 v0 rfl rfl) h0
  obtain ⟨a0_0, e0_0, rfl, w0_0⟩ := DataW.trod_int Try.underlying2 hy0_0
  simp at e0_0
  subst e0_0
  obtain ⟨a0_1, e0_1, rfl, w0_1⟩ := DataW.trod_int Try.underlying2 hy0_1
  simp at e0_1
  subst e0_1
  obtain ⟨a0_2, e0_2, rfl, w0_2⟩ := DataW.trod_int Try.underlying2 hy0_2
  simp at e0_2
  subst e0_2
  obtain ⟨a0_3, e0_3, rfl, w0_3⟩ := DataW.trod_int Try.underlying3 hy0_3
  simp at e0_3
  subst e0_3
  obtain ⟨a1, len1, cap1, rfl⟩ := okWide_slice Try.underlying24 (hval 1 24 v1 rfl rfl)
  have k1 := h1
  have lt1 : ∀ x ∈ p1, x.block < W.heap.size := by obtain ⟨m, hm⟩ := k1; exact DataW.trod_lt m _ _ _ hm
  have w1 : StrRows W [.inl .i64, .inl .i64] a1 len1 := str_rows Try.underlying24 Try.underlying35 (by kernel_rfl) (by kernel_rfl) (by kernel_rfl) (by decide) h1
  clear hA0 hval0
  refine (walk a0_0 a0_1 a0_2 a0_3 a1 len1 cap1 W w0_0 w0_1 w0_2 w0_3 w1).mono fun e W' ⟨he, bel⟩ => ?_
  subst he
  exact ⟨_, rfl, _, _, _, [], _, [], hW', trodAll_mk1 (shut_bool Try.underlying4 _), (trodAll_cons_mk (Below.trod laidOut (by kernel_rfl) (of_decide_eq_true (by kernel_rfl)) k0 bel lt0) (trodAll_cons_mk (Below.trod laidOut (by kernel_rfl) (of_decide_eq_true (by kernel_rfl)) k1 bel lt1) trodAll_mk0)), rfl, bel.frame _, fun h => by cases h⟩

theorem over : Rows.rtoBoundsRow.holds Try.pinned (OpenSpec.ofChange Rows.rtoBoundsSpec) :=
  OpenClaim.holds_of_wide 4 Try.f4 rfl rfl rfl rfl rfl rfl rfl ⟨rfl, rfl, rfl, rfl, rfl⟩ rfl rfl rfl rfl rfl (by kernel_rfl) Try.func4 (by kernel_rfl)
    (of_decide_eq_true (by kernel_rfl)) (by unfold Func.isWrapper; first | (rw [if_pos (by decide +kernel)]; kernel_rfl) | (rw [if_neg (by decide +kernel)]; exact ⟨rfl, rfl⟩))
    (fun os started H enc _ => lifted os started H enc)

/-- THE STATEMENT -/
theorem proved : Rows.RtoBoundsSaid := over
#print axioms proved
end Go.Proofs.Ytcfomapeiaobaaa.rtoBounds
