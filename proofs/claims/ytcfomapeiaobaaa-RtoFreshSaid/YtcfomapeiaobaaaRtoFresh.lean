/- The statement RtoFresh: what one waits behind a sample hangs on the samples alone, not on how often one tried in between; for any conf, any times, any tries. -/
import Derived.Test.YtcfomapeiaobaaaRtoWorks
import Derived.Test.YtcfomapeiaobaaaStructs
import Derived.StillTailTactics
set_option linter.unusedVariables false
set_option linter.unusedSimpArgs false
namespace Go.Proofs.Ytcfomapeiaobaaa.rtoFresh
open Go.ChangeShapes Go.WideShapes Go.ChangeAt Go.RowKit
open Go.ChangeMaps (open_string shut_string)

def Alike (a b : RSt) : Prop := a.some_ = b.some_ ∧ a.sm = b.sm ∧ a.va = b.va
theorem alike_sample {c : RCf} {a b : RSt} (h : Alike a b) (t : Int) : Alike (rSample c a t) (rSample c b t) ∧ (rSample c a t).wait = (rSample c b t).wait := by
  obtain ⟨h1, h2, h3⟩ := h
  unfold rSample
  rw [h1, h2, h3]
  split
  · exact ⟨⟨rfl, rfl, rfl⟩, rfl⟩
  · exact ⟨⟨rfl, rfl, rfl⟩, rfl⟩
theorem alike_back {c : RCf} {a b : RSt} (h : Alike a b) : Alike a (rBack c b) := h

/-- one try: Back, whatever it answers -/
theorem back_any (g : Nat) (c : RCf) (s : RSt) (w : World) (h : RAt w 72 g c s) (hc : c.ok) (hs : s.ok c) :
    Calls Try.prog 19 #[.pointer (some ⟨g, 0, none⟩)] w fun r w' => ∃ (v : Bool) (s' : RSt), r = .returned (.bool v) ∧ RAt w' 72 g c s' ∧ s'.ok c ∧ (∀ a, Alike a s → Alike a s') ∧ w.grownBy w' (some g) := by
  by_cases ht : s.tried < c.tries
  · exact (back_core g c s w h hc hs ht).mono fun _ _ ⟨h1, h2, h3⟩ => ⟨true, rBack c s, h1, h2, rBack_ok hc hs ht, fun _ ha => ha, h3⟩
  · refine (back_no g c s w h ht).mono ?_
    rintro e w' ⟨h1, n, rfl⟩
    exact ⟨false, s, h1, h.drewN n, hs, fun _ ha => ha, only_drewN (World.grownBy.refl _ _) n⟩

set_option maxRecDepth 100000 in
set_option maxHeartbeats 4000000 in
theorem walk (a0_0 a0_1 a0_2 a0_3 : Int) (a1 : Option Addr) (len1 cap1 : Nat) (z1 : List Int) (a2 : Option Addr) (len2 cap2 : Nat) (z2 : List Int) (w : World) (w0_0 : (Lit.int .i64 a0_0).wf = true) (w0_1 : (Lit.int .i64 a0_1).wf = true) (w0_2 : (Lit.int .i64 a0_2).wf = true) (w0_3 : (Lit.int .i64 a0_3).wf = true)
    (w1 : IsRow .u16 w a1 len1 cap1 z1) (w2 : IsRow .u8 w a2 len2 cap2 z2) :
    Calls Try.prog 6 #[.agg #[.int .i64 a0_0, .int .i64 a0_1, .int .i64 a0_2, .int .i64 a0_3], .slice a1 len1 cap1, .slice a2 len2 cap2] w fun e w' => e = .returned (.bool true) ∧ Below w.heap.size w w' := by
  obtain ⟨l3, g3⟩ := bounds_i64 w0_3
  clear w0_0 w0_1 w0_2 w0_3
  obtain ⟨xs, hlx, hlm, hrx, hwx⟩ := w1.reads_
  obtain ⟨ys, hly, hlm2, hry, hwy⟩ := w2.reads_
  clear w1 w2
  have hbox := Blk.new w 23 #[.int .i64 a0_0, .int .i64 a0_1, .int .i64 a0_2, .int .i64 a0_3]
  have hal : Below w.heap.size w (w.alloc (.cells #[.int .i64 a0_0, .int .i64 a0_1, .int .i64 a0_2, .int .i64 a0_3] 23)) := (Below.refl _ _).alloc (Nat.le_refl _) _
  have Hbox := Lib.hid hbox
  clear hbox
  have Hal := Lib.hid hal
  clear hal
  have Hlx := Lib.hid hlx
  clear hlx
  have Hrx := Lib.hid hrx
  clear hrx
  have Hwx := Lib.hid hwx
  clear hwx
  have Hly := Lib.hid hly
  clear hly
  have Hry := Lib.hid hry
  clear hry
  have Hwy := Lib.hid hwy
  clear hwy
  by_cases hc : (⟨a0_0, a0_1, a0_2, a0_3⟩ : RCf).ok
  · have Hc := Lib.hid hc
    clear hc
    go_enter Try.func6, Try.ntmps6
    go_wp2_with fail
    (with_reducible refine (new_okv a0_0 a0_1 a0_2 a0_3 _ Hc.out).mono ?_)
    rintro e w3 ⟨rfl, hr, hb⟩
    have hb3 : Below w.heap.size w w3 := Hal.out.trans (hb.mono (by simp))
    have hr3 : RAt w3 72 (w.heap.size + 1 + 1) ⟨a0_0, a0_1, a0_2, a0_3⟩ ⟨false, 0, 0, a0_0, 0⟩ := by simpa using hr
    have hbx : Blk w3 w.heap.size 23 #[.int .i64 a0_0, .int .i64 a0_1, .int .i64 a0_2, .int .i64 a0_3] := Blk.below Hbox.out hb (by simp)
    have hl3 := hr3.lt
    clear hr hb
    have c0 := Blk.cell hbx 0
    have c1 := Blk.cell hbx 1
    have c2 := Blk.cell hbx 2
    have c3 := Blk.cell hbx 3
    simp at c0 c1 c2 c3
    have Hb3 := Lib.hid hb3
    clear hb3
    have Hr3 := Lib.hid hr3
    clear hr3
    have Hbx := Lib.hid hbx
    clear hbx
    have Hl3 := Lib.hid hl3
    clear hl3
    go_wp2_with fail
    (with_reducible refine (new_okv a0_0 a0_1 a0_2 a0_3 _ Hc.out).mono ?_)
    rintro e w4 ⟨rfl, hr4, hb⟩
    have hb4 : Below w.heap.size w w4 := Hb3.out.trans (hb.mono Hb3.out.size)
    have ha4 := Hr3.out.below hb Hl3.out
    clear hb c0 c1 c2 c3
    obtain ⟨g2, hg2⟩ : ∃ g, g = w3.heap.size + 1 := ⟨_, rfl⟩
    rw [← hg2] at hr4 ⊢
    have hgl : w.heap.size + 1 + 1 < g2 := by have := Hl3.out; omega
    clear hg2
    have Hb4 := Lib.hid hb4
    clear hb4
    have Hr4 := Lib.hid hr4
    clear hr4
    have Ha4 := Lib.hid ha4
    clear ha4
    have Hgl := Lib.hid hgl
    clear hgl
    by_cases hn : 100 < len1
    · go_wp2_with fail
      (with_reducible refine (works_rto _).mono ?_)
      rintro e w5 ⟨rfl, hb5⟩
      go_wp2
      go_ret
      exact ⟨rfl, Hb4.out.trans (hb5.mono Hb4.out.size)⟩
    by_cases hn2 : 200 < len2
    · go_wp2_with fail
      (with_reducible refine (works_rto _).mono ?_)
      rintro e w5 ⟨rfl, hb5⟩
      go_wp2
      go_ret
      exact ⟨rfl, Hb4.out.trans (hb5.mono Hb4.out.size)⟩
    go_wp2
    go_loopw [11] (fun i wr => ∃ (k : Nat) (sa sb : RSt), k ≤ len1 ∧ i = .int .i64 k ∧ RAt wr 72 (w.heap.size + 1 + 1) ⟨a0_0, a0_1, a0_2, a0_3⟩ sa ∧ RAt wr 72 g2 ⟨a0_0, a0_1, a0_2, a0_3⟩ sb ∧ sa.ok ⟨a0_0, a0_1, a0_2, a0_3⟩ ∧ sb.ok ⟨a0_0, a0_1, a0_2, a0_3⟩ ∧ Alike sa sb ∧ Below w.heap.size w wr) (fun i _ => len1 - (intOf i).toNat)
    case atStart => exact ⟨0, _, _, Nat.zero_le _, rfl, Ha4.out, Hr4.out, rStart_ok Hc.out, rStart_ok Hc.out, ⟨rfl, rfl, rfl⟩, Hb4.out⟩
    case round =>
      obtain ⟨k, sa, sb, hk, rfl, hra, hrb, hoa, hob, hal2, hb⟩ := hrel
      have Hra := Lib.hid hra
      clear hra
      have Hrb := Lib.hid hrb
      clear hrb
      have Hoa := Lib.hid hoa
      clear hoa
      have Hob := Lib.hid hob
      clear hob
      have Hal2 := Lib.hid hal2
      clear hal2
      have Hb := Lib.hid hb
      clear hb
      by_cases hlt : k < len1
      · by_cases hlt2 : k < len2
        · obtain ⟨wo, rfl⟩ : ∃ wo : World, wo = wr := ⟨_, rfl⟩
          have hk2 : k < ys.length := by rw [Hly.out]; exact hlt2
          obtain ⟨y0, y1⟩ := bounds_u8 (Hwy.out ys[k] (List.getElem_mem hk2))
          obtain ⟨y, hY⟩ : ∃ y, y = ys[k] := ⟨_, rfl⟩
          rw [← hY] at y0 y1
          have HY := Lib.hid hY
          clear hY
          go_wp2
          go_loopw [12] (fun j wq => ∃ (m : Nat) (sc : RSt), j = .int .i64 m ∧ m ≤ 7 ∧ RAt wq 72 (w.heap.size + 1 + 1) ⟨a0_0, a0_1, a0_2, a0_3⟩ sa ∧ RAt wq 72 g2 ⟨a0_0, a0_1, a0_2, a0_3⟩ sc ∧ sc.ok ⟨a0_0, a0_1, a0_2, a0_3⟩ ∧ Alike sa sc ∧ Below w.heap.size w wq) (fun j _ => 8 - (intOf j).toNat)
          case atStart => exact ⟨0, sb, rfl, by omega, Hra.out, Hrb.out, Hob.out, Hal2.out, Hb.out⟩
          case round =>
            obtain ⟨m, sc, rfl, hm, hra2, hrc, hoc, halc, hb2⟩ := hrel
            obtain ⟨ady, uy, rfl, _, hxy, hcelly⟩ := (Hry.out.below hb2).at_ hlt2
            rw [List.getElem?_map, List.getElem?_eq_getElem hk2] at hxy
            simp only [Option.map_some, Option.some.injEq] at hxy
            subst hxy
            rw [← HY.out] at hcelly
            have Hra2 := Lib.hid hra2
            clear hra2
            have Hrc := Lib.hid hrc
            clear hrc
            have Hoc := Lib.hid hoc
            clear hoc
            have Halc := Lib.hid halc
            clear halc
            have Hb2 := Lib.hid hb2
            clear hb2
            by_cases hj : (m : Int) < y % 8
            · go_wp2_with fail
              refine (back_any g2 ⟨a0_0, a0_1, a0_2, a0_3⟩ sc _ Hrc.out Hc.out Hoc.out).mono ?_
              rintro e w5 ⟨v, s', rfl, hr5, ho5, ha5, hg5⟩
              have hra5 := Hra2.out.grown hg5 (by have := Hgl.out; simp; omega)
              have hb5 : Below w.heap.size w w5 := below_only Hb2.out hg5 (by have := Hgl.out; omega) Hb2.out.size
              have hal5 := ha5 _ Halc.out
              clear hg5 ha5 hcelly
              have Hr5 := Lib.hid hr5
              clear hr5
              have Ho5 := Lib.hid ho5
              clear ho5
              have Hra5 := Lib.hid hra5
              clear hra5
              have Hb5 := Lib.hid hb5
              clear hb5
              have Hal5 := Lib.hid hal5
              clear hal5
              go_wp2
              go_roundw
              case rel => exact ⟨m + 1, s', by go_num, by omega, Hra5.out, Hr5.out, Ho5.out, Hal5.out, Hb5.out⟩
              case measure => simp [intOf]; omega
            · have hj' : decide ((m : Int) < y % 8) = false := decide_eq_false hj
              obtain ⟨ad, u, rfl, _, hx, hcell⟩ := (Hrx.out.below Hb2.out).at_ hlt
              have hk' : k < xs.length := by rw [Hlx.out]; exact hlt
              rw [List.getElem?_map, List.getElem?_eq_getElem hk'] at hx
              simp only [Option.map_some, Option.some.injEq] at hx
              subst hx
              obtain ⟨t0, t1⟩ := bounds_u16 (Hwx.out xs[k] (List.getElem_mem hk'))
              obtain ⟨t, hT⟩ : ∃ t, t = xs[k] := ⟨_, rfl⟩
              rw [← hT] at hcell t0 t1
              have HT := Lib.hid hT
              clear hT
              have hnb : ¬ rBad t := by unfold rBad; omega
              obtain ⟨al3, al4⟩ := alike_sample (c := ⟨a0_0, a0_1, a0_2, a0_3⟩) Halc.out t
              have hadl := cell_lt hcell
              have Hnb := Lib.hid hnb
              clear hnb
              have Al3 := Lib.hid al3
              clear al3
              have Al4 := Lib.hid al4
              clear al4
              have Hadl := Lib.hid hadl
              clear hadl
              go_wp2_with fail
              (with_reducible refine (sample_core _ ⟨a0_0, a0_1, a0_2, a0_3⟩ sa t _ Hra2.out Hc.out Hoa.out Hnb.out).mono ?_)
              rintro e w5 ⟨rfl, hr5, hg5⟩
              have hr6 := Hrc.out.grown hg5 (by have := Hgl.out; simp; omega)
              have ho5 := rSample_ok Hc.out Hoa.out Hnb.out
              have hb5 : Below w.heap.size w w5 := below_only Hb2.out hg5 (by omega) Hb2.out.size
              have hcell5 : w5.cell? (ad.add k) = some (.int .u16 t) := by
                have hq : ∀ p, p < w.heap.size → w5.heap[p]? = w.heap[p]? := fun p hp => hb5.block p hp
                obtain ⟨ad', u', e', hlo, hx', hc'⟩ := (Hrx.out.below hb5).at_ hlt
                cases e'
                rw [List.getElem?_map, List.getElem?_eq_getElem hk'] at hx'
                simp only [Option.map_some, Option.some.injEq] at hx'
                rw [hc', ← hx', ← HT.out]
              clear hg5 hcell
              have Hr5 := Lib.hid hr5
              clear hr5
              have Hr6 := Lib.hid hr6
              clear hr6
              have Ho5 := Lib.hid ho5
              clear ho5
              have Hb5 := Lib.hid hb5
              clear hb5
              go_wp2_with fail
              (with_reducible refine (sample_core _ ⟨a0_0, a0_1, a0_2, a0_3⟩ sc t _ Hr6.out Hc.out Hoc.out Hnb.out).mono ?_)
              rintro e w6 ⟨rfl, hr7, hg6⟩
              have hr8 := Hr5.out.grown hg6 (by have := Hgl.out; simp; omega)
              have ho7 := rSample_ok Hc.out Hoc.out Hnb.out
              have hb6 : Below w.heap.size w w6 := below_only Hb5.out hg6 (by have := Hgl.out; omega) Hb5.out.size
              clear hg6 hcell5
              have e9 : ((rSample ⟨a0_0, a0_1, a0_2, a0_3⟩ sa t).wait != (rSample ⟨a0_0, a0_1, a0_2, a0_3⟩ sc t).wait) = false := by rw [Al4.out]; simp
              have Hr7 := Lib.hid hr7
              clear hr7
              have Hr8 := Lib.hid hr8
              clear hr8
              have Ho7 := Lib.hid ho7
              clear ho7
              have Hb6 := Lib.hid hb6
              clear hb6
              go_wp2_with fail
              (with_reducible refine (wait_core _ ⟨a0_0, a0_1, a0_2, a0_3⟩ (rSample ⟨a0_0, a0_1, a0_2, a0_3⟩ sa t) _ Hr8.out).mono ?_)
              rintro e w' ⟨rfl, rfl⟩
              go_wp2_with fail
              (with_reducible refine (wait_core _ ⟨a0_0, a0_1, a0_2, a0_3⟩ (rSample ⟨a0_0, a0_1, a0_2, a0_3⟩ sc t) _ Hr7.out).mono ?_)
              rintro e w' ⟨rfl, rfl⟩
              go_wp2
              go_roundw
              case rel => exact ⟨k + 1, _, _, by omega, by go_num, Hr8.out, Hr7.out, Ho5.out, Ho7.out, Al3.out, Hb6.out⟩
              case measure => simp [intOf]; omega
        · have hlt3 : decide (k < len2) = false := decide_eq_false hlt2
          obtain ⟨ad, u, rfl, _, hx, hcell⟩ := (Hrx.out.below Hb.out).at_ hlt
          have hk' : k < xs.length := by rw [Hlx.out]; exact hlt
          rw [List.getElem?_map, List.getElem?_eq_getElem hk'] at hx
          simp only [Option.map_some, Option.some.injEq] at hx
          subst hx
          obtain ⟨t0, t1⟩ := bounds_u16 (Hwx.out xs[k] (List.getElem_mem hk'))
          obtain ⟨t, hT⟩ : ∃ t, t = xs[k] := ⟨_, rfl⟩
          rw [← hT] at hcell t0 t1
          have HT := Lib.hid hT
          clear hT
          have hnb : ¬ rBad t := by unfold rBad; omega
          obtain ⟨al3, al4⟩ := alike_sample (c := ⟨a0_0, a0_1, a0_2, a0_3⟩) Hal2.out t
          have hadl := cell_lt hcell
          have Hnb := Lib.hid hnb
          clear hnb
          have Al3 := Lib.hid al3
          clear al3
          have Al4 := Lib.hid al4
          clear al4
          have Hadl := Lib.hid hadl
          clear hadl
          go_wp2_with fail
          (with_reducible refine (sample_core _ ⟨a0_0, a0_1, a0_2, a0_3⟩ sa t _ Hra.out Hc.out Hoa.out Hnb.out).mono ?_)
          rintro e w5 ⟨rfl, hr5, hg5⟩
          have hr6 := Hrb.out.grown hg5 (by have := Hgl.out; simp; omega)
          have ho5 := rSample_ok Hc.out Hoa.out Hnb.out
          have hb5 : Below w.heap.size w w5 := below_only Hb.out hg5 (by omega) Hb.out.size
          have hcell5 : w5.cell? (ad.add k) = some (.int .u16 t) := by
            have hq : ∀ p, p < w.heap.size → w5.heap[p]? = w.heap[p]? := fun p hp => hb5.block p hp
            obtain ⟨ad', u', e', hlo, hx', hc'⟩ := (Hrx.out.below hb5).at_ hlt
            cases e'
            rw [List.getElem?_map, List.getElem?_eq_getElem hk'] at hx'
            simp only [Option.map_some, Option.some.injEq] at hx'
            rw [hc', ← hx', ← HT.out]
          clear hg5 hcell
          have Hr5 := Lib.hid hr5
          clear hr5
          have Hr6 := Lib.hid hr6
          clear hr6
          have Ho5 := Lib.hid ho5
          clear ho5
          have Hb5 := Lib.hid hb5
          clear hb5
          go_wp2_with fail
          (with_reducible refine (sample_core _ ⟨a0_0, a0_1, a0_2, a0_3⟩ sb t _ Hr6.out Hc.out Hob.out Hnb.out).mono ?_)
          rintro e w6 ⟨rfl, hr7, hg6⟩
          have hr8 := Hr5.out.grown hg6 (by have := Hgl.out; simp; omega)
          have ho7 := rSample_ok Hc.out Hob.out Hnb.out
          have hb6 : Below w.heap.size w w6 := below_only Hb5.out hg6 (by have := Hgl.out; omega) Hb5.out.size
          clear hg6 hcell5
          have e9 : ((rSample ⟨a0_0, a0_1, a0_2, a0_3⟩ sa t).wait != (rSample ⟨a0_0, a0_1, a0_2, a0_3⟩ sb t).wait) = false := by rw [Al4.out]; simp
          have Hr7 := Lib.hid hr7
          clear hr7
          have Hr8 := Lib.hid hr8
          clear hr8
          have Ho7 := Lib.hid ho7
          clear ho7
          have Hb6 := Lib.hid hb6
          clear hb6
          go_wp2_with fail
          (with_reducible refine (wait_core _ ⟨a0_0, a0_1, a0_2, a0_3⟩ (rSample ⟨a0_0, a0_1, a0_2, a0_3⟩ sa t) _ Hr8.out).mono ?_)
          rintro e w' ⟨rfl, rfl⟩
          go_wp2_with fail
          (with_reducible refine (wait_core _ ⟨a0_0, a0_1, a0_2, a0_3⟩ (rSample ⟨a0_0, a0_1, a0_2, a0_3⟩ sb t) _ Hr7.out).mono ?_)
          rintro e w' ⟨rfl, rfl⟩
          go_wp2
          go_roundw
          case rel => exact ⟨k + 1, _, _, by omega, by go_num, Hr8.out, Hr7.out, Ho5.out, Ho7.out, Al3.out, Hb6.out⟩
          case measure => simp [intOf]; omega
      · go_wp2_with fail
        (with_reducible refine (works_rto _).mono ?_)
        rintro e w5 ⟨rfl, hb5⟩
        go_wp2
        go_ret
        exact ⟨rfl, Hb.out.trans (hb5.mono Hb.out.size)⟩
  · have Hc := Lib.hid hc
    clear hc
    go_enter Try.func6, Try.ntmps6
    go_wp2_with fail
    (with_reducible refine (new_badv a0_0 a0_1 a0_2 a0_3 _ Hc.out (by omega) (by omega)).mono ?_)
    rintro e w3 ⟨rfl, hb⟩
    have hb3 : Below w.heap.size w w3 := Hal.out.trans (hb.mono (by simp))
    have hbx : Blk w3 w.heap.size 23 #[.int .i64 a0_0, .int .i64 a0_1, .int .i64 a0_2, .int .i64 a0_3] := Blk.below Hbox.out hb (by simp)
    clear hb
    have c0 := Blk.cell hbx 0
    have c1 := Blk.cell hbx 1
    have c2 := Blk.cell hbx 2
    have c3 := Blk.cell hbx 3
    simp at c0 c1 c2 c3
    have Hb3 := Lib.hid hb3
    clear hb3
    have Hbx := Lib.hid hbx
    clear hbx
    go_wp2_with fail
    (with_reducible refine (new_badv a0_0 a0_1 a0_2 a0_3 _ Hc.out (by omega) (by omega)).mono ?_)
    rintro e w4 ⟨rfl, hb⟩
    have hb4 : Below w.heap.size w w4 := Hb3.out.trans (hb.mono Hb3.out.size)
    clear hb c0 c1 c2 c3
    have Hb4 := Lib.hid hb4
    clear hb4
    by_cases hn : 100 < len1
    · go_wp2_with fail
      (with_reducible refine (works_rto _).mono ?_)
      rintro e w5 ⟨rfl, hb5⟩
      go_wp2
      go_ret
      exact ⟨rfl, Hb4.out.trans (hb5.mono Hb4.out.size)⟩
    by_cases hn2 : 200 < len2
    · go_wp2_with fail
      (with_reducible refine (works_rto _).mono ?_)
      rintro e w5 ⟨rfl, hb5⟩
      go_wp2
      go_ret
      exact ⟨rfl, Hb4.out.trans (hb5.mono Hb4.out.size)⟩
    · go_wp2_with fail
      (with_reducible refine (works_rto _).mono ?_)
      rintro e w5 ⟨rfl, hb5⟩
      go_wp2
      go_ret
      exact ⟨rfl, Hb4.out.trans (hb5.mono Hb4.out.size)⟩

theorem own : ownKnob Try.prog.godebug = none := by kernel_rfl
theorem laidOut : laidOutB Try.prog = true := by kernel_rfl
set_option maxRecDepth 100000 in
theorem lifted (os : Os) (started : os.Started) (H : Type) (enc : TypeId × Value → H) :
    ReturnsInHanded {} Try.checked os 6 .any (Rows.rtoFreshSpec.pre6 enc Try.prog Try.f6 Rows.rtoFreshRow.domain false) (Rows.rtoFreshSpec.post enc Try.prog Try.f6 false true false false) := by
  refine returnsInHanded_of_change (C := Try.checked) own started (by kernel_rfl) Try.func6
    (ChangeSpec.witness6 (enc := enc) (C := Try.checked) false ⟨#[], #[.agg #[.int .i64 0, .int .i64 0, .int .i64 0, .int .i64 0], .slice none 0 0, .slice none 0 0], []⟩ 8 (by kernel_rfl) (by kernel_rfl) (by kernel_rfl) (by kernel_rfl)) ?_
  intro W base args ds gs before hval0 hW hcnd _
  have hval : ∀ (j : Nat) t v, Try.f6.params[j]? = some t → args[j]? = some v → Value.okWide Try.prog W .any base t v := hval0
  have hW' := hW
  obtain ⟨p, q, hA0, hV, rfl, hfz, hnd⟩ := hW
  have hA : DataW.TrodAll enc Try.prog W 0 (fun _ => true) true Try.f6.params.toList args.toList ds p := hA0
  rw [Try.params6] at hA hval
  obtain ⟨v0, vs0, d0, ds0, p0, q0, hargs, rfl, rfl, h0, r0⟩ := trodAll_cons hA
  obtain ⟨v1, vs1, d1, ds1, p1, q1, rfl, rfl, rfl, h1, r1⟩ := trodAll_cons r0
  obtain ⟨v2, vs2, d2, ds2, p2, q2, rfl, rfl, rfl, h2, r2⟩ := trodAll_cons r1
  obtain ⟨rfl, rfl, rfl⟩ := trodAll_nil r2
  obtain rfl : args = #[v0, v1, v2] := by cases args; simp_all
  obtain ⟨rfl, rfl⟩ := trodVars_none hV
  have k0 := h0
  have lt0 : ∀ x ∈ p0, x.block < W.heap.size := by obtain ⟨m, hm⟩ := k0; exact DataW.trod_lt m _ _ _ hm
  obtain ⟨c0_0, c0_1, c0_2, c0_3, y0_0, y0_1, y0_2, y0_3, m0, rfl, rfl, rfl, hy0_0, hy0_1, hy0_2, hy0_3⟩ := Go.Joins.open_agg4 Try.underlying23 (by kernel_rfl) (by kernel_rfl) (hval 0 23 v0 rfl rfl) h0
  obtain ⟨a0_0, e0_0, rfl, w0_0⟩ := DataW.trod_int Try.underlying2 hy0_0
  simp at e0_0
  subst e0_0
  obtain ⟨a0_1, e0_1, rfl, w0_1⟩ := DataW.trod_int Try.underlying2 hy0_1
  simp at e0_1
  subst e0_1
  obtain ⟨a0_2, e0_2, rfl, w0_2⟩ := DataW.trod_int Try.underlying2 hy0_2
  simp at e0_2
  subst e0_2
  obtain ⟨a0_3, e0_3, rfl, w0_3⟩ := DataW.trod_int Try.underlying3 hy0_3
  simp at e0_3
  subst e0_3
  obtain ⟨a1, len1, cap1, rfl⟩ := okWide_slice Try.underlying42 (hval 1 42 v1 rfl rfl)
  have k1 := h1
  have lt1 : ∀ x ∈ p1, x.block < W.heap.size := by obtain ⟨m, hm⟩ := k1; exact DataW.trod_lt m _ _ _ hm
  obtain ⟨z1, w1⟩ : ∃ zs, IsRow .u16 W a1 len1 cap1 zs := by
    obtain ⟨fuel, hf⟩ := h1
    rcases open_ints Try.underlying42 Try.underlying40 (by kernel_rfl) hf with ⟨hcs, _⟩ | ⟨x, l, c, zs, hcs, _, hl, hm, hz, _, hcell, hwz⟩
    · simp [Value.cells] at hcs
      obtain ⟨rfl, rfl, rfl⟩ := hcs
      exact ⟨[], .inl ⟨rfl, rfl, rfl, rfl⟩⟩
    · simp [Value.cells] at hcs
      obtain ⟨rfl, rfl, rfl⟩ := hcs
      exact ⟨zs, .inr ⟨_, rfl, hl, hm, by simpa using hz, hcell, hwz⟩⟩
  obtain ⟨a2, len2, cap2, rfl⟩ := okWide_slice Try.underlying43 (hval 2 43 v2 rfl rfl)
  have k2 := h2
  have lt2 : ∀ x ∈ p2, x.block < W.heap.size := by obtain ⟨m, hm⟩ := k2; exact DataW.trod_lt m _ _ _ hm
  obtain ⟨z2, w2⟩ : ∃ zs, IsRow .u8 W a2 len2 cap2 zs := by
    obtain ⟨fuel, hf⟩ := h2
    rcases open_ints Try.underlying43 Try.underlying5 (by kernel_rfl) hf with ⟨hcs, _⟩ | ⟨x, l, c, zs, hcs, _, hl, hm, hz, _, hcell, hwz⟩
    · simp [Value.cells] at hcs
      obtain ⟨rfl, rfl, rfl⟩ := hcs
      exact ⟨[], .inl ⟨rfl, rfl, rfl, rfl⟩⟩
    · simp [Value.cells] at hcs
      obtain ⟨rfl, rfl, rfl⟩ := hcs
      exact ⟨zs, .inr ⟨_, rfl, hl, hm, by simpa using hz, hcell, hwz⟩⟩
  clear hA0 hval0
  refine (walk a0_0 a0_1 a0_2 a0_3 a1 len1 cap1 z1 a2 len2 cap2 z2 W w0_0 w0_1 w0_2 w0_3 w1 w2).mono fun e W' ⟨he, bel⟩ => ?_
  subst he
  exact ⟨_, rfl, _, _, _, [], _, [], hW', trodAll_mk1 (shut_bool Try.underlying4 _), (trodAll_cons_mk (Below.trod laidOut (by kernel_rfl) (of_decide_eq_true (by kernel_rfl)) k0 bel lt0) (trodAll_cons_mk (Below.trod laidOut (by kernel_rfl) (of_decide_eq_true (by kernel_rfl)) k1 bel lt1) (trodAll_cons_mk (Below.trod laidOut (by kernel_rfl) (of_decide_eq_true (by kernel_rfl)) k2 bel lt2) trodAll_mk0))), rfl, bel.frame _, fun h => by cases h⟩

theorem over : Rows.rtoFreshRow.holds Try.pinned (OpenSpec.ofChange Rows.rtoFreshSpec) :=
  OpenClaim.holds_of_wide 6 Try.f6 rfl rfl rfl rfl rfl rfl rfl ⟨rfl, rfl, rfl, rfl, rfl⟩ rfl rfl rfl rfl rfl (by kernel_rfl) Try.func6 (by kernel_rfl)
    (of_decide_eq_true (by kernel_rfl)) (by unfold Func.isWrapper; first | (rw [if_pos (by decide +kernel)]; kernel_rfl) | (rw [if_neg (by decide +kernel)]; exact ⟨rfl, rfl⟩))
    (fun os started H enc _ => lifted os started H enc)

/-- THE STATEMENT -/
theorem proved : Rows.RtoFreshSaid := over
#print axioms proved
end Go.Proofs.Ytcfomapeiaobaaa.rtoFresh
