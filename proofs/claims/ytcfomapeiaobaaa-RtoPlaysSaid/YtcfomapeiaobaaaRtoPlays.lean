/- The statement RtoPlays: which confs may be, and what one waits, behind any samples and tries, is as the document says; for any conf and any script. -/
import Derived.Test.YtcfomapeiaobaaaRtoRef2
import Derived.Deep.RegionHeld3
import Derived.Test.YtcfomapeiaobaaaStructs
import Derived.StillTailTactics
set_option linter.unusedVariables false
set_option linter.unusedSimpArgs false
namespace Go.Proofs.Ytcfomapeiaobaaa.rtoPlays
open Go.ChangeShapes Go.WideShapes Go.ChangeAt Go.RowKit
open Go.ChangeMaps (open_string shut_string)

set_option maxRecDepth 100000 in
set_option maxHeartbeats 4000000 in
theorem walk (a0_0 a0_1 a0_2 a0_3 : Int) (a1 : Option Addr) (len1 cap1 : Nat) (w : World) (w0_0 : (Lit.int .i64 a0_0).wf = true) (w0_1 : (Lit.int .i64 a0_1).wf = true) (w0_2 : (Lit.int .i64 a0_2).wf = true) (w0_3 : (Lit.int .i64 a0_3).wf = true)
    (w1 : StrRows w [.inl .i64, .inl .i64] a1 len1) :
    Calls Try.prog 3 #[.agg #[.int .i64 a0_0, .int .i64 a0_1, .int .i64 a0_2, .int .i64 a0_3], .slice a1 len1 cap1] w fun e w' => e = .returned (.bool true) ∧ Below w.heap.size w w' := by
  obtain ⟨l3, g3⟩ := bounds_i64 w0_3
  clear w0_0 w0_1 w0_2 w0_3
  have hlm := w1.1
  unfold maxLen at hlm
  have hbox := Blk.new w 23 #[.int .i64 a0_0, .int .i64 a0_1, .int .i64 a0_2, .int .i64 a0_3]
  have hal : Below w.heap.size w (w.alloc (.cells #[.int .i64 a0_0, .int .i64 a0_1, .int .i64 a0_2, .int .i64 a0_3] 23)) := (Below.refl _ _).alloc (Nat.le_refl _) _
  have W1 := Lib.hid w1
  clear w1
  have Hbox := Lib.hid hbox
  clear hbox
  have Hal := Lib.hid hal
  clear hal
  by_cases hn : 500 < len1
  · go_enter Try.func3, Try.ntmps3
    go_wp2_with fail
    (with_reducible refine (works_rto _).mono ?_)
    rintro e w3 ⟨rfl, hb3⟩
    go_wp2
    go_ret
    exact ⟨rfl, Hal.out.trans (hb3.mono (by simp))⟩
  by_cases hc : (⟨a0_0, a0_1, a0_2, a0_3⟩ : RCf).ok
  · have Hc := Lib.hid hc
    clear hc
    go_enter Try.func3, Try.ntmps3
    go_wp2_with fail
    (with_reducible refine (new_okv a0_0 a0_1 a0_2 a0_3 _ Hc.out).mono ?_)
    rintro e w3 ⟨rfl, hr, hb⟩
    have hb3 : Below w.heap.size w w3 := Hal.out.trans (hb.mono (by simp))
    have hr3 : RAt w3 72 (w.heap.size + 1 + 1) ⟨a0_0, a0_1, a0_2, a0_3⟩ ⟨false, 0, 0, a0_0, 0⟩ := by simpa using hr
    have hbx : Blk w3 w.heap.size 23 #[.int .i64 a0_0, .int .i64 a0_1, .int .i64 a0_2, .int .i64 a0_3] := Blk.below Hbox.out hb (by simp)
    have hl3 := hr3.lt
    clear hr hb
    have c0 := Blk.cell hbx 0
    have c1 := Blk.cell hbx 1
    have c2 := Blk.cell hbx 2
    have c3 := Blk.cell hbx 3
    simp at c0 c1 c2 c3
    have Hb3 := Lib.hid hb3
    clear hb3
    have Hr3 := Lib.hid hr3
    clear hr3
    have Hbx := Lib.hid hbx
    clear hbx
    have Hl3 := Lib.hid hl3
    clear hl3
    go_wp2_with fail
    (with_reducible refine (may_okv a0_0 a0_1 a0_2 a0_3 _ Hc.out).mono ?_)
    rintro e w4 ⟨rfl, hb⟩
    have hb4 : Below w.heap.size w w4 := Hb3.out.trans (hb.mono Hb3.out.size)
    have ha4 := Hr3.out.below hb Hl3.out
    have hbx4 : Blk w4 w.heap.size 23 #[.int .i64 a0_0, .int .i64 a0_1, .int .i64 a0_2, .int .i64 a0_3] := Blk.below Hbx.out hb (by have := Hl3.out; omega)
    have hl4 := ha4.lt
    clear hb c0 c1 c2 c3
    have c0 := Blk.cell hbx4 0
    have c1 := Blk.cell hbx4 1
    have c2 := Blk.cell hbx4 2
    have c3 := Blk.cell hbx4 3
    simp at c0 c1 c2 c3
    have Hb4 := Lib.hid hb4
    clear hb4
    have Ha4 := Lib.hid ha4
    clear ha4
    have Hl4 := Lib.hid hl4
    clear hl4
    have Hbx4 := Lib.hid hbx4
    clear hbx4
    go_wp2
    have hx5 := Blk.new w4 33 #[.int .i64 a0_0, .int .i64 a0_1, .int .i64 a0_2, .int .i64 a0_3, .bool false, .int .i64 0, .int .i64 0, .int .i64 a0_0, .int .i64 0]
    have hr5 := Ha4.out.below (((Below.refl w4.heap.size w4)).alloc (Nat.le_refl _) (.cells #[.int .i64 a0_0, .int .i64 a0_1, .int .i64 a0_2, .int .i64 a0_3, .bool false, .int .i64 0, .int .i64 0, .int .i64 a0_0, .int .i64 0] 33)) Hl4.out
    have hb5 := Hb4.out.alloc Hb4.out.size (.cells #[.int .i64 a0_0, .int .i64 a0_1, .int .i64 a0_2, .int .i64 a0_3, .bool false, .int .i64 0, .int .i64 0, .int .i64 a0_0, .int .i64 0] 33)
    obtain ⟨g2, hg2⟩ : ∃ g, g = w4.heap.size := ⟨_, rfl⟩
    have hgl : w.heap.size + 1 + 1 < g2 := by rw [hg2]; exact Hl4.out
    rw [← hg2] at hx5 ⊢
    clear hg2 c0 c1 c2 c3
    have Hx5 := Lib.hid hx5
    clear hx5
    have Hr5 := Lib.hid hr5
    clear hr5
    have Hb5 := Lib.hid hb5
    clear hb5
    have Hgl := Lib.hid hgl
    clear hgl
    go_loopw [8] (fun i wr => ∃ (k : Nat) (st : RSt), k ≤ len1 ∧ i = .int .i64 k ∧ RAt wr 72 (w.heap.size + 1 + 1) ⟨a0_0, a0_1, a0_2, a0_3⟩ st ∧ RAt wr 33 g2 ⟨a0_0, a0_1, a0_2, a0_3⟩ st ∧ st.ok ⟨a0_0, a0_1, a0_2, a0_3⟩ ∧ Below w.heap.size w wr) (fun i _ => len1 - (intOf i).toNat)
    case atStart => exact ⟨0, ⟨false, 0, 0, a0_0, 0⟩, Nat.zero_le _, rfl, Hr5.out, Hx5.out, rStart_ok Hc.out, Hb5.out⟩
    case round =>
      obtain ⟨k, st, hk, rfl, hra, hrb, ho, hb⟩ := hrel
      have hrows := W1.out.below hb
      have Hra := Lib.hid hra
      clear hra
      have Hrb := Lib.hid hrb
      clear hrb
      have Ho := Lib.hid ho
      clear ho
      have Hb := Lib.hid hb
      clear hb
      by_cases hlt : k < len1
      · obtain ⟨xb, xo, rfl, hxl, hcell⟩ := hrows.2 k hlt
        obtain ⟨v0, q0, d, rfl, hd⟩ := hcell 0 _ rfl
        obtain ⟨v1, q1, t, rfl, ht⟩ := hcell 1 _ rfl
        obtain ⟨t1, t2⟩ := bounds_i64 ht
        clear hrows hcell hd ht hxl
        simp only [List.length_cons, List.length_nil, Nat.zero_add, Nat.reduceAdd] at q0 q1
        rw [Nat.add_zero] at q0
        by_cases h0 : d = 0
        · subst h0
          go_wp2
          by_cases hbad : rBad t
          · go_region_held3 (fun w' => w'.cell? ⟨xb, xo + k * 2 + 1, none⟩ = some (.int .i64 t)) (first | assumption) (first
              | (go_at_call 17; refine (sample_bad _ ⟨a0_0, a0_1, a0_2, a0_3⟩ st t _ (by first | exact Hra.out | exact Hra.out.drew) Hc.out hbad (by omega) (by omega)).mono ?_; rintro e w' ⟨rfl, rfl⟩)
              | (go_at_call 18; refine (ref_sample_bad _ ⟨a0_0, a0_1, a0_2, a0_3⟩ st t _ (by first | exact Hrb.out | exact Hrb.out.drew) Hc.out hbad (by omega) (by omega)).mono ?_; rintro e w' ⟨rfl, rfl⟩))
            have hr7 := Hra.out.drew
            have hq7 := Blk.drew Hrb.out
            have hb7 := Hb.out.drew
            have hq7' : RAt wr.drew 33 g2 ⟨a0_0, a0_1, a0_2, a0_3⟩ st := hq7
            clear hq7 hbad q0 q1
            have Hr7 := Lib.hid hr7
            clear hr7
            have Hb7 := Lib.hid hb7
            clear hb7
            have Hq7 := Lib.hid hq7'
            clear hq7'
            generalize wr.drew = w7 at *
            have e1 : (st.wait != st.wait) = false := by simp
            have e2 : (st.tried != st.tried) = false := by simp
            have z4 := Blk.cell Hq7.out 7
            have z5 := Blk.cell Hq7.out 8
            simp [rCells] at z4 z5
            go_wp2
            go_quiet (first | (go_at_call 22; exact quiet_left (wait_core _ ⟨a0_0, a0_1, a0_2, a0_3⟩ st _ (Hr7.out.drewN _))) | (go_at_call 23; exact quiet_left (tries_core _ ⟨a0_0, a0_1, a0_2, a0_3⟩ st _ (Hr7.out.drewN _))))
            go_wp2
            go_roundw
            case rel => exact ⟨k + 1, st, by omega, by go_num, Hr7.out.drewN _, Hq7.out.drewN _, Ho.out, below_drewN Hb7.out _⟩
            case measure => simp [intOf]; omega
          · obtain ⟨xb', xo', hxe, hxw, _⟩ := W1.out.2 k hlt
            have hxe' : xb = xb' := by injection hxe with h1; injection h1
            have hxw' : xb < w.heap.size := by rw [hxe']; exact hxw
            have hcl := cell_lt q1
            clear hxe hxe' hxw
            have Hxw' := Lib.hid hxw'
            clear hxw'
            have Hcl := Lib.hid hcl
            clear hcl
            have hrad := Hra.out.drew
            have hrbd := Hrb.out.drew
            have hbd := Hb.out.drew
            have Hrad := Lib.hid hrad
            clear hrad
            have Hrbd := Lib.hid hrbd
            clear hrbd
            have Hbd := Lib.hid hbd
            clear hbd
            go_region_held3 (fun w' => w'.cell? ⟨xb, xo + k * 2 + 1, none⟩ = some (.int .i64 t)) (first | assumption | (exact (World.cell?_of_block (hg7.block xb (Nat.lt_of_lt_of_le Hcl.out hg6.size) (by have := Hxw'.out; have := Hgl.out; simp; omega))).trans ((World.cell?_of_block (hg6.block xb Hcl.out (by have := Hxw'.out; simp; omega))).trans q1)) | (exact (World.cell?_of_block (hg6.block xb Hcl.out (by have := Hxw'.out; simp; omega))).trans q1)) (first
              | (go_at_call 17; refine (sample_core _ ⟨a0_0, a0_1, a0_2, a0_3⟩ st t _ Hrad.out Hc.out Ho.out hbad).mono ?_; rintro e w6 ⟨rfl, hr6, hg6⟩)
              | (go_at_call 18; refine (ref_sample_core _ ⟨a0_0, a0_1, a0_2, a0_3⟩ st t _ (Hrbd.out.grown hg6 (by have := Hgl.out; simp; omega)) Hc.out Ho.out hbad).mono ?_; rintro e w7 ⟨rfl, hr7, hg7⟩))
            have ho7 := rSample_ok Hc.out Ho.out hbad
            have hq7 := hr6.grown hg7 (by have := Hgl.out; simp; omega)
            have hb6 : Below w.heap.size w w6 := below_only Hbd.out hg6 (by omega) Hbd.out.size
            have hb7 : Below w.heap.size w w7 := below_only hb6 hg7 (by have := Hgl.out; omega) hb6.size
            clear hg6 hg7 hbad q0 q1 hr6 hb6
            generalize rSample ⟨a0_0, a0_1, a0_2, a0_3⟩ st t = st2 at *
            have Hr7 := Lib.hid hr7
            clear hr7
            have Hq7 := Lib.hid hq7
            clear hq7
            have Hb7 := Lib.hid hb7
            clear hb7
            have Ho7 := Lib.hid ho7
            clear ho7
            have e1 : (st2.wait != st2.wait) = false := by simp
            have e2 : (st2.tried != st2.tried) = false := by simp
            have z4 := Blk.cell Hr7.out 7
            have z5 := Blk.cell Hr7.out 8
            simp [rCells] at z4 z5
            go_wp2
            go_quiet (first | (go_at_call 22; exact quiet_left (wait_core _ ⟨a0_0, a0_1, a0_2, a0_3⟩ st2 _ (Hq7.out.drewN _))) | (go_at_call 23; exact quiet_left (tries_core _ ⟨a0_0, a0_1, a0_2, a0_3⟩ st2 _ (Hq7.out.drewN _))))
            go_wp2
            go_roundw
            case rel => exact ⟨k + 1, st2, by omega, by go_num, Hq7.out.drewN _, Hr7.out.drewN _, Ho7.out, below_drewN Hb7.out _⟩
            case measure => simp [intOf]; omega
        · by_cases h1 : d = 1
          · subst h1
            by_cases htt : st.tried < a0_3
            · go_wp2_with fail
              (with_reducible refine (back_core _ ⟨a0_0, a0_1, a0_2, a0_3⟩ st _ Hra.out Hc.out Ho.out htt).mono ?_)
              rintro e w6 ⟨rfl, hr6, hg6⟩
              have hq6 := Hrb.out.grown hg6 (by have := Hgl.out; simp; omega)
              have ho6 := rBack_ok Hc.out Ho.out htt
              have hb6 : Below w.heap.size w w6 := below_only Hb.out hg6 (by omega) Hb.out.size
              clear hg6
              have Hr6 := Lib.hid hr6
              clear hr6
              have Hq6 := Lib.hid hq6
              clear hq6
              have Ho6 := Lib.hid ho6
              clear ho6
              have Hb6 := Lib.hid hb6
              clear hb6
              go_wp2_with fail
              (with_reducible refine (ref_back_core _ ⟨a0_0, a0_1, a0_2, a0_3⟩ st _ Hq6.out Hc.out Ho.out htt).mono ?_)
              rintro e w7 ⟨rfl, hr7, hg7⟩
              have hq7 := Hr6.out.grown hg7 (by have := Hgl.out; simp; omega)
              have hb7 : Below w.heap.size w w7 := below_only Hb6.out hg7 (by have := Hgl.out; omega) Hb6.out.size
              clear hg7 htt
              generalize rBack ⟨a0_0, a0_1, a0_2, a0_3⟩ st = st2 at *
              have Hr7 := Lib.hid hr7
              clear hr7
              have Hq7 := Lib.hid hq7
              clear hq7
              have Hb7 := Lib.hid hb7
              clear hb7
              have e1 : (st2.wait != st2.wait) = false := by simp
              have e2 : (st2.tried != st2.tried) = false := by simp
              have z4 := Blk.cell Hr7.out 7
              have z5 := Blk.cell Hr7.out 8
              simp [rCells] at z4 z5
              go_wp2
              go_quiet (first | (go_at_call 22; exact quiet_left (wait_core _ ⟨a0_0, a0_1, a0_2, a0_3⟩ st2 _ (Hq7.out.drewN _))) | (go_at_call 23; exact quiet_left (tries_core _ ⟨a0_0, a0_1, a0_2, a0_3⟩ st2 _ (Hq7.out.drewN _))))
              go_wp2
              go_roundw
              case rel => exact ⟨k + 1, st2, by omega, by go_num, Hq7.out.drewN _, Hr7.out.drewN _, Ho6.out, below_drewN Hb7.out _⟩
              case measure => simp [intOf]; omega
            · go_wp2_with fail
              refine (back_no _ ⟨a0_0, a0_1, a0_2, a0_3⟩ st _ Hra.out (Int.not_lt.2 htt)).mono ?_
              rintro e w' ⟨rfl, nb, rfl⟩
              go_wp2_with fail
              refine (ref_back_no _ ⟨a0_0, a0_1, a0_2, a0_3⟩ st _ (Hrb.out.drewN nb) (by simp only; omega)).mono ?_
              rintro e w' ⟨rfl, nc, rfl⟩
              have hr7 := (Hra.out.drewN nb).drewN nc
              have hq7 := (Hrb.out.drewN nb).drewN nc
              have hb7 := below_drewN (below_drewN Hb.out nb) nc
              rw [World.drewN_drewN] at hr7 hq7 hb7
              clear htt q0 q1
              have Hr7 := Lib.hid hr7
              clear hr7
              have Hq7 := Lib.hid hq7
              clear hq7
              have Hb7 := Lib.hid hb7
              clear hb7
              try rw [World.drewN_drewN]
              generalize wr.drewN (nb + nc) = w7 at *
              have e1 : (st.wait != st.wait) = false := by simp
              have e2 : (st.tried != st.tried) = false := by simp
              have z4 := Blk.cell Hq7.out 7
              have z5 := Blk.cell Hq7.out 8
              simp [rCells] at z4 z5
              go_wp2
              go_quiet (first | (go_at_call 22; exact quiet_left (wait_core _ ⟨a0_0, a0_1, a0_2, a0_3⟩ st _ (Hr7.out.drewN _))) | (go_at_call 23; exact quiet_left (tries_core _ ⟨a0_0, a0_1, a0_2, a0_3⟩ st _ (Hr7.out.drewN _))))
              go_wp2
              go_roundw
              case rel => exact ⟨k + 1, st, by omega, by go_num, Hr7.out.drewN _, Hq7.out.drewN _, Ho.out, below_drewN Hb7.out _⟩
              case measure => simp [intOf]; omega
          · by_cases h2 : d = 2
            · subst h2
              go_wp2_with fail
              (with_reducible refine (fresh_core _ ⟨a0_0, a0_1, a0_2, a0_3⟩ st _ Hra.out).mono ?_)
              rintro e w6 ⟨rfl, hr6, hg6⟩
              have hq6 := Hrb.out.grown hg6 (by have := Hgl.out; simp; omega)
              have ho6 := rFresh_ok Hc.out Ho.out
              have hb6 : Below w.heap.size w w6 := below_only Hb.out hg6 (by omega) Hb.out.size
              have z8 := Blk.cell hq6 8
              have f8 := Blk.frozen hq6 8
              simp [rCells] at z8
              have hq7 : RAt (w6.setCell ⟨g2, 8, none⟩ (.int .i64 0)) 33 g2 ⟨a0_0, a0_1, a0_2, a0_3⟩ (rFresh st) := blk9_8 hq6 (.int .i64 0)
              have hr7 : RAt (w6.setCell ⟨g2, 8, none⟩ (.int .i64 0)) 72 (w.heap.size + 1 + 1) ⟨a0_0, a0_1, a0_2, a0_3⟩ (rFresh st) := Blk.far hr6 (by have := Hgl.out; simp; omega) _
              have hb7 := hb6.setCell (p := ⟨g2, 8, none⟩) (by have := Hgl.out; simp; omega) (.int .i64 0)
              clear hg6
              have Hq7 := Lib.hid hq7
              clear hq7
              have Hr7 := Lib.hid hr7
              clear hr7
              have Hb7 := Lib.hid hb7
              clear hb7
              have Ho6 := Lib.hid ho6
              clear ho6
              have Hr6 := Lib.hid hr6
              clear hr6
              have Hq6 := Lib.hid hq6
              clear hq6
              have Hb6 := Lib.hid hb6
              clear hb6
              go_wp2_with fail
              generalize w6.setCell ⟨g2, 8, none⟩ (.int .i64 0) = w7 at *
              clear z8 f8
              have e1 : ((rFresh st).wait != (rFresh st).wait) = false := by simp
              have e2 : ((rFresh st).tried != (rFresh st).tried) = false := by simp
              have z4 := Blk.cell Hq7.out 7
              have z5 := Blk.cell Hq7.out 8
              simp [rCells] at z4 z5
              go_wp2
              go_quiet (first | (go_at_call 22; exact quiet_left (wait_core _ ⟨a0_0, a0_1, a0_2, a0_3⟩ (rFresh st) _ (Hr7.out.drewN _))) | (go_at_call 23; exact quiet_left (tries_core _ ⟨a0_0, a0_1, a0_2, a0_3⟩ (rFresh st) _ (Hr7.out.drewN _))))
              go_wp2
              go_roundw
              case rel => exact ⟨k + 1, (rFresh st), by omega, by go_num, Hr7.out.drewN _, Hq7.out.drewN _, Ho6.out, below_drewN Hb7.out _⟩
              case measure => simp [intOf]; omega
            · have e0 : (d == 0) = false := by rw [beq_eq_false_iff_ne]; exact h0
              have e1' : (d == 1) = false := by rw [beq_eq_false_iff_ne]; exact h1
              have e2' : (d == 2) = false := by rw [beq_eq_false_iff_ne]; exact h2
              clear h0 h1 h2
              have e1 : (st.wait != st.wait) = false := by simp
              have e2 : (st.tried != st.tried) = false := by simp
              have z4 := Blk.cell Hrb.out 7
              have z5 := Blk.cell Hrb.out 8
              simp [rCells] at z4 z5
              go_wp2
              go_quiet (first | (go_at_call 22; exact quiet_left (wait_core _ ⟨a0_0, a0_1, a0_2, a0_3⟩ st _ (Hra.out.drewN _))) | (go_at_call 23; exact quiet_left (tries_core _ ⟨a0_0, a0_1, a0_2, a0_3⟩ st _ (Hra.out.drewN _))))
              go_wp2
              go_roundw
              case rel => exact ⟨k + 1, st, by omega, by go_num, Hra.out.drewN _, Hrb.out.drewN _, Ho.out, below_drewN Hb.out _⟩
              case measure => simp [intOf]; omega
      · clear hrows
        go_wp2_with fail
        (with_reducible refine (works_rto _).mono ?_)
        rintro e w5 ⟨rfl, hb5⟩
        go_wp2
        go_ret
        exact ⟨rfl, Hb.out.trans (hb5.mono Hb.out.size)⟩
  · have Hc := Lib.hid hc
    clear hc
    go_enter Try.func3, Try.ntmps3
    go_wp2_with fail
    (with_reducible refine (new_badv a0_0 a0_1 a0_2 a0_3 _ Hc.out (by omega) (by omega)).mono ?_)
    rintro e w3 ⟨rfl, hb⟩
    have hb3 : Below w.heap.size w w3 := Hal.out.trans (hb.mono (by simp))
    have hbx : Blk w3 w.heap.size 23 #[.int .i64 a0_0, .int .i64 a0_1, .int .i64 a0_2, .int .i64 a0_3] := Blk.below Hbox.out hb (by simp)
    clear hb
    have c0 := Blk.cell hbx 0
    have c1 := Blk.cell hbx 1
    have c2 := Blk.cell hbx 2
    have c3 := Blk.cell hbx 3
    simp at c0 c1 c2 c3
    have Hb3 := Lib.hid hb3
    clear hb3
    have Hbx := Lib.hid hbx
    clear hbx
    go_wp2_with fail
    (with_reducible refine (may_badv a0_0 a0_1 a0_2 a0_3 _ Hc.out (by omega) (by omega)).mono ?_)
    rintro e w4 ⟨rfl, hb⟩
    have hb4 : Below w.heap.size w w4 := Hb3.out.trans (hb.mono Hb3.out.size)
    clear hb c0 c1 c2 c3
    have Hb4 := Lib.hid hb4
    clear hb4
    go_wp2_with fail
    (with_reducible refine (works_rto _).mono ?_)
    rintro e w5 ⟨rfl, hb5⟩
    go_wp2
    go_ret
    exact ⟨rfl, Hb4.out.trans (hb5.mono Hb4.out.size)⟩

theorem own : ownKnob Try.prog.godebug = none := by kernel_rfl
theorem laidOut : laidOutB Try.prog = true := by kernel_rfl
set_option maxRecDepth 100000 in
theorem lifted (os : Os) (started : os.Started) (H : Type) (enc : TypeId × Value → H) :
    ReturnsInHanded {} Try.checked os 3 .any (Rows.rtoPlaysSpec.pre6 enc Try.prog Try.f3 Rows.rtoPlaysRow.domain false) (Rows.rtoPlaysSpec.post enc Try.prog Try.f3 false true false false) := by
  refine returnsInHanded_of_change (C := Try.checked) own started (by kernel_rfl) Try.func3
    (ChangeSpec.witness6 (enc := enc) (C := Try.checked) false ⟨#[], #[.agg #[.int .i64 0, .int .i64 0, .int .i64 0, .int .i64 0], .slice none 0 0], []⟩ 8 (by kernel_rfl) (by kernel_rfl) (by kernel_rfl) (by kernel_rfl)) ?_
  intro W base args ds gs before hval0 hW hcnd _
  have hval : ∀ (j : Nat) t v, Try.f3.params[j]? = some t → args[j]? = some v → Value.okWide Try.prog W .any base t v := hval0
  have hW' := hW
  obtain ⟨p, q, hA0, hV, rfl, hfz, hnd⟩ := hW
  have hA : DataW.TrodAll enc Try.prog W 0 (fun _ => true) true Try.f3.params.toList args.toList ds p := hA0
  rw [Try.params3] at hA hval
  obtain ⟨v0, vs0, d0, ds0, p0, q0, hargs, rfl, rfl, h0, r0⟩ := trodAll_cons hA
  obtain ⟨v1, vs1, d1, ds1, p1, q1, rfl, rfl, rfl, h1, r1⟩ := trodAll_cons r0
  obtain ⟨rfl, rfl, rfl⟩ := trodAll_nil r1
  obtain rfl : args = #[v0, v1] := by cases args; simp_all
  obtain ⟨rfl, rfl⟩ := trodVars_none hV
  have k0 := h0
  have lt0 : ∀ x ∈ p0, x.block < W.heap.size := by obtain ⟨m, hm⟩ := k0; exact DataW.trod_lt m _ _ _ hm
  obtain ⟨c0_0, c0_1, c0_2, c0_3, y0_0, y0_1, y0_2, y0_3, m0, rfl, rfl, rfl, hy0_0, hy0_1, hy0_2, hy0_3⟩ := Go.Joins.open_agg4 Try.underlying23 (by kernel_rfl) (by kernel_rfl) (hval 0 23 v0 rfl rfl) h0
  obtain ⟨a0_0, e0_0, rfl, w0_0⟩ := DataW.trod_int Try.underlying2 hy0_0
  simp at e0_0
  subst e0_0
  obtain ⟨a0_1, e0_1, rfl, w0_1⟩ := DataW.trod_int Try.underlying2 hy0_1
  simp at e0_1
  subst e0_1
  obtain ⟨a0_2, e0_2, rfl, w0_2⟩ := DataW.trod_int Try.underlying2 hy0_2
  simp at e0_2
  subst e0_2
  obtain ⟨a0_3, e0_3, rfl, w0_3⟩ := DataW.trod_int Try.underlying3 hy0_3
  simp at e0_3
  subst e0_3
  obtain ⟨a1, len1, cap1, rfl⟩ := okWide_slice Try.underlying24 (hval 1 24 v1 rfl rfl)
  have k1 := h1
  have lt1 : ∀ x ∈ p1, x.block < W.heap.size := by obtain ⟨m, hm⟩ := k1; exact DataW.trod_lt m _ _ _ hm
  have w1 : StrRows W [.inl .i64, .inl .i64] a1 len1 := str_rows Try.underlying24 Try.underlying35 (by kernel_rfl) (by kernel_rfl) (by kernel_rfl) (by decide) h1
  clear hA0 hval0
  refine (walk a0_0 a0_1 a0_2 a0_3 a1 len1 cap1 W w0_0 w0_1 w0_2 w0_3 w1).mono fun e W' ⟨he, bel⟩ => ?_
  subst he
  exact ⟨_, rfl, _, _, _, [], _, [], hW', trodAll_mk1 (shut_bool Try.underlying4 _), (trodAll_cons_mk (Below.trod laidOut (by kernel_rfl) (of_decide_eq_true (by kernel_rfl)) k0 bel lt0) (trodAll_cons_mk (Below.trod laidOut (by kernel_rfl) (of_decide_eq_true (by kernel_rfl)) k1 bel lt1) trodAll_mk0)), rfl, bel.frame _, fun h => by cases h⟩

theorem over : Rows.rtoPlaysRow.holds Try.pinned (OpenSpec.ofChange Rows.rtoPlaysSpec) :=
  OpenClaim.holds_of_wide 3 Try.f3 rfl rfl rfl rfl rfl rfl rfl ⟨rfl, rfl, rfl, rfl, rfl⟩ rfl rfl rfl rfl rfl (by kernel_rfl) Try.func3 (by kernel_rfl)
    (of_decide_eq_true (by kernel_rfl)) (by unfold Func.isWrapper; first | (rw [if_pos (by decide +kernel)]; kernel_rfl) | (rw [if_neg (by decide +kernel)]; exact ⟨rfl, rfl⟩))
    (fun os started H enc _ => lifted os started H enc)

/-- THE STATEMENT -/
theorem proved : Rows.RtoPlaysSaid := over
#print axioms proved
end Go.Proofs.Ytcfomapeiaobaaa.rtoPlays
