/- The statement TraceTells: whatever happens, what is read at one end is a beginning of what was written at the other one; behind EOF nothing is read, and all was; nothing is broken off without a cause; an act that may not happen changes nothing; for any acts. -/
import Derived.Test.YtcdbbdjabccjdaaTraceQ
set_option linter.unusedVariables false
set_option linter.unusedSimpArgs false
namespace Go.Proofs.Ytcdbbdjabccjdaa.traceTells
open Go.ChangeShapes Go.WideShapes Go.ChangeAt Go.RowKit
open Go.ChangeMaps (open_string shut_string)

set_option maxRecDepth 100000 in
set_option maxHeartbeats 4000000 in
theorem core (a0 : Option Addr) (len0 cap0 : Nat) (l : List AAct) (w : World) (hrow : ARow w a0 len0 l) (hsz : ∀ k, k < len0 → (l.getD k aNil).s.size ≤ 140737488351232) (hlen : len0 ≤ 9223372036854775807) :
    Calls Try.prog 4 #[.slice a0 len0 cap0] w fun e w' => e = .returned (.bool true) ∧ Below w.heap.size w w' := by
  have hb0 : Below w.heap.size w w := Below.refl _ _
  have HB := Lib.hid hb0
  clear hb0
  have hhv := heavy_at w a0 len0 cap0 l hrow hsz hlen
  have Hrow := Lib.hid hrow
  clear hrow
  have Hsz := Lib.hid hsz
  clear hsz
  have Hhv := Lib.hid hhv
  clear hhv
  go_enter Try.func4, Try.ntmps4
  go_wp2_with fail
  refine Hhv.out.mono ?_
  clear Hhv
  rintro e w2 ⟨r, rfl, rfl, hr⟩
  cases r
  case true =>
    clear hr
    go_wp2_with fail
    refine (alive31 _).mono ?_
    rintro e w9 ⟨rfl, hb9⟩
    go_wp2
    go_ret
    exact ⟨rfl, hb9⟩
  obtain ⟨h200, hsm⟩ := hr rfl
  have Hsm := Lib.hid hsm
  clear hsm
  clear hr Hsz
  go_wp2_with fail
  (with_reducible refine (new_at _).mono ?_)
  rintro e w3 ⟨b, rfl, hb, ht, hB0⟩
  have hB := HB.out.trans hB0
  have hw3 := hB0.size
  clear HB hB0
  have HB := Lib.hid hB
  clear hB
  have Ht := Lib.hid ht
  clear ht
  go_upto_region 6 with fail
  have hgW := Blk.alloc (Blk.alloc (Blk.alloc (Blk.alloc (Blk.new w3 43 #[.string ⟨#[]⟩, .string ⟨#[]⟩]) (.cells #[.string ⟨#[]⟩, .string ⟨#[]⟩] 43)) (.cells #[.bool false, .bool false] 44)) (.cells #[.bool false, .bool false] 44)) (.cells #[.bool false, .bool false] 44)
  have hgR := Blk.alloc (Blk.alloc (Blk.alloc (Blk.new (w3.alloc (.cells #[.string ⟨#[]⟩, .string ⟨#[]⟩] 43)) 43 #[.string ⟨#[]⟩, .string ⟨#[]⟩]) (.cells #[.bool false, .bool false] 44)) (.cells #[.bool false, .bool false] 44)) (.cells #[.bool false, .bool false] 44)
  rw [show (w3.alloc (.cells #[.string ⟨#[]⟩, .string ⟨#[]⟩] 43)).heap.size = w3.heap.size + 1 by simp] at hgR
  have hgC := Blk.alloc (Blk.alloc (Blk.new ((w3.alloc (.cells #[.string ⟨#[]⟩, .string ⟨#[]⟩] 43)).alloc (.cells #[.string ⟨#[]⟩, .string ⟨#[]⟩] 43)) 44 #[.bool false, .bool false]) (.cells #[.bool false, .bool false] 44)) (.cells #[.bool false, .bool false] 44)
  rw [show ((w3.alloc (.cells #[.string ⟨#[]⟩, .string ⟨#[]⟩] 43)).alloc (.cells #[.string ⟨#[]⟩, .string ⟨#[]⟩] 43)).heap.size = w3.heap.size + 2 by simp] at hgC
  have hgE := Blk.alloc (Blk.new (((w3.alloc (.cells #[.string ⟨#[]⟩, .string ⟨#[]⟩] 43)).alloc (.cells #[.string ⟨#[]⟩, .string ⟨#[]⟩] 43)).alloc (.cells #[.bool false, .bool false] 44)) 44 #[.bool false, .bool false]) (.cells #[.bool false, .bool false] 44)
  rw [show (((w3.alloc (.cells #[.string ⟨#[]⟩, .string ⟨#[]⟩] 43)).alloc (.cells #[.string ⟨#[]⟩, .string ⟨#[]⟩] 43)).alloc (.cells #[.bool false, .bool false] 44)).heap.size = w3.heap.size + 3 by simp] at hgE
  have hgD := Blk.new ((((w3.alloc (.cells #[.string ⟨#[]⟩, .string ⟨#[]⟩] 43)).alloc (.cells #[.string ⟨#[]⟩, .string ⟨#[]⟩] 43)).alloc (.cells #[.bool false, .bool false] 44)).alloc (.cells #[.bool false, .bool false] 44)) 44 #[.bool false, .bool false]
  rw [show ((((w3.alloc (.cells #[.string ⟨#[]⟩, .string ⟨#[]⟩] 43)).alloc (.cells #[.string ⟨#[]⟩, .string ⟨#[]⟩] 43)).alloc (.cells #[.bool false, .bool false] 44)).alloc (.cells #[.bool false, .bool false] 44)).heap.size = w3.heap.size + 4 by simp] at hgD
  have ht := Blk.alloc (Blk.alloc (Blk.alloc (Blk.alloc (Blk.alloc (Ht.out) (.cells #[.string ⟨#[]⟩, .string ⟨#[]⟩] 43)) (.cells #[.string ⟨#[]⟩, .string ⟨#[]⟩] 43)) (.cells #[.bool false, .bool false] 44)) (.cells #[.bool false, .bool false] 44)) (.cells #[.bool false, .bool false] 44)
  clear Ht
  have hB := Below.alloc (Below.alloc (Below.alloc (Below.alloc (Below.alloc (HB.out) (Nat.le_trans HB.out.size (by simp <;> omega)) (.cells #[.string ⟨#[]⟩, .string ⟨#[]⟩] 43)) (Nat.le_trans HB.out.size (by simp <;> omega)) (.cells #[.string ⟨#[]⟩, .string ⟨#[]⟩] 43)) (Nat.le_trans HB.out.size (by simp <;> omega)) (.cells #[.bool false, .bool false] 44)) (Nat.le_trans HB.out.size (by simp <;> omega)) (.cells #[.bool false, .bool false] 44)) (Nat.le_trans HB.out.size (by simp <;> omega)) (.cells #[.bool false, .bool false] 44)
  clear HB
  obtain ⟨ggD, hgegD⟩ : ∃ g, g = w3.heap.size + 4 := ⟨_, rfl⟩
  rw [← hgegD] at hgD ⊢
  obtain ⟨ggE, hgegE⟩ : ∃ g, g = w3.heap.size + 3 := ⟨_, rfl⟩
  rw [← hgegE] at hgE ⊢
  obtain ⟨ggC, hgegC⟩ : ∃ g, g = w3.heap.size + 2 := ⟨_, rfl⟩
  rw [← hgegC] at hgC ⊢
  obtain ⟨ggR, hgegR⟩ : ∃ g, g = w3.heap.size + 1 := ⟨_, rfl⟩
  rw [← hgegR] at hgR ⊢
  obtain ⟨ggW, hgegW⟩ : ∃ g, g = w3.heap.size := ⟨_, rfl⟩
  rw [← hgegW] at hgW ⊢
  have hne_gW_gR : ggW ≠ ggR := by omega
  have hne_gW_gC : ggW ≠ ggC := by omega
  have hne_gW_gE : ggW ≠ ggE := by omega
  have hne_gW_gD : ggW ≠ ggD := by omega
  have hne_gR_gC : ggR ≠ ggC := by omega
  have hne_gR_gE : ggR ≠ ggE := by omega
  have hne_gR_gD : ggR ≠ ggD := by omega
  have hne_gC_gE : ggC ≠ ggE := by omega
  have hne_gC_gD : ggC ≠ ggD := by omega
  have hne_gE_gD : ggE ≠ ggD := by omega
  have hle_gW : w3.heap.size ≤ ggW := by omega
  have hle_gR : w3.heap.size ≤ ggR := by omega
  have hle_gC : w3.heap.size ≤ ggC := by omega
  have hle_gE : w3.heap.size ≤ ggE := by omega
  have hle_gD : w3.heap.size ≤ ggD := by omega
  clear hgegW hgegR hgegC hgegE hgegD
  generalize ((((w3.alloc _).alloc _).alloc _).alloc _).alloc _ = wn1 at *
  have Ht := Lib.hid ht
  clear ht
  have HgW := Lib.hid hgW
  clear hgW
  have HgR := Lib.hid hgR
  clear hgR
  have HgC := Lib.hid hgC
  clear hgC
  have HgE := Lib.hid hgE
  clear hgE
  have HgD := Lib.hid hgD
  clear hgD
  have HB := Lib.hid hB
  clear hB
  have har : Arrs ⟨ggW, ggR, ggC, ggE, ggD, hne_gW_gR, hne_gC_gE, hne_gC_gD, hne_gE_gD⟩ (vsOf T0) wn1 := ⟨HgW.out, HgR.out, HgC.out, HgE.out, HgD.out⟩
  have hq : ∀ {n : Nat}, w3.heap.size ≤ n → w.heap.size ≤ n := fun h => Nat.le_trans hw3 h
  have hT0 : Tell w b ⟨ggW, ggR, ggC, ggE, ggD, hne_gW_gR, hne_gC_gE, hne_gC_gD, hne_gE_gD⟩ T0 wn1 := ⟨szd_0, ⟨(fun h => by cases h), (fun h => by cases h)⟩, Ht.out, har, HB.out, hq hle_gW, hq hle_gR, hq hle_gC, hq hle_gE, hq hle_gD⟩
  obtain ⟨G, hG⟩ : ∃ G : Gs, G = ⟨ggW, ggR, ggC, ggE, ggD, hne_gW_gR, hne_gC_gE, hne_gC_gD, hne_gE_gD⟩ := ⟨_, rfl⟩
  rw [← hG] at hT0
  obtain rfl : ggW = G.gW := by rw [hG]
  obtain rfl : ggR = G.gR := by rw [hG]
  obtain rfl : ggC = G.gC := by rw [hG]
  obtain rfl : ggE = G.gE := by rw [hG]
  obtain rfl : ggD = G.gD := by rw [hG]
  clear hG hq har HgW HgR HgC HgE HgD Ht HB hle_gW hle_gR hle_gC hle_gE hle_gD hw3
  have HT0 := Lib.hid hT0
  clear hT0
  go_wp2
  go_loopw [9, 10] (fun c i wr => ∃ k : Nat, k ≤ len0 ∧ i = .int .i64 (k : Int) ∧ ∃ t, c = .bool t.cause ∧ Tell w b G t wr) (fun _ i _ => len0 - (intOf i).toNat)
  case atStart => exact ⟨0, Nat.zero_le _, rfl, T0, rfl, HT0.out⟩
  case round =>
    obtain ⟨k, hk, rfl, t, rfl, hT⟩ := hrel
    clear HT0
    by_cases hlt : k < len0
    · obtain ⟨r, off, rfl, hrl, y0, y1, y2⟩ := Hrow.out.2 k hlt
      have hsk := Hsm.out k
      generalize hx : l.getD k aNil = x at *
      clear hx
      have z0 := (hT.bl.cell (p := ⟨r, off + k * 3, none⟩) hrl).trans y0
      have z1 := (hT.bl.cell (p := ⟨r, off + k * 3 + 1, none⟩) hrl).trans y1
      have z2 := (hT.bl.cell (p := ⟨r, off + k * 3 + 2, none⟩) hrl).trans y2
      have e1' : decide (k < len0) = true := decide_eq_true hlt
      obtain ⟨e, d, s⟩ := x
      simp only at y0 y1 y2 z0 z1 z2 hsk
      clear y0 y1 y2 hrl
      have HB := Lib.hid hT.bl
      have Har := Lib.hid hT.ar
      have Hat := Lib.hid hT.at_
      have Hsz := Lib.hid hT.sz
      have Hop := Lib.hid hT.op
      have Hlo := Lib.hid hT.lo
      clear hT
      have hs0 : ∀ W, TrAt W b t → Calls Try.prog 14 #[.pointer (some ⟨b, 0, none⟩), .int .i64 0] W fun e w' => e = .returned (.agg #[.bool t.s0.opn, .string t.s0.wr, .int .i64 (t.s0.rd : Int), .bool t.s0.cl, .bool t.s0.eof, .bool t.s0.dd]) ∧ Below W.heap.size W w' := fun W h => side_0 W b t h
      have hs1 : ∀ W, TrAt W b t → Calls Try.prog 14 #[.pointer (some ⟨b, 0, none⟩), .int .i64 1] W fun e w' => e = .returned (.agg #[.bool t.s1.opn, .string t.s1.wr, .int .i64 (t.s1.rd : Int), .bool t.s1.cl, .bool t.s1.eof, .bool t.s1.dd]) ∧ Below W.heap.size W w' := fun W h => side_1 W b t h
      have hdo := fun W (h : TrAt W b t) => do_at W b t e d s h Hsz.out (by omega)
      have Hs0 := Lib.hid hs0
      have Hs1 := Lib.hid hs1
      have Hdo := Lib.hid hdo
      clear hs0 hs1 hdo
      go_wp2_with fail
      have hxa := Blk.new wr 36 #[.int .i64 e, .int .u8 (d : Int), .string s]
      have hbx : Below wr.heap.size wr (wr.alloc (.cells #[.int .i64 e, .int .u8 (d : Int), .string s] 36)) := (Below.refl _ _).alloc (Nat.le_refl _) _
      obtain ⟨ga, hga⟩ : ∃ ga, ga = wr.heap.size := ⟨_, rfl⟩
      have hga2 : w.heap.size ≤ ga := by rw [hga]; exact HB.out.size
      rw [← hga] at hxa ⊢
      have hB := HB.out.trans (hbx.mono HB.out.size)
      have har := Har.out.below hbx
      have hat : TrAt _ b t := Hat.out.below hbx Hat.out.lt
      clear hga HB Har Hat hbx
      generalize wr.alloc _ = wa at *
      have HB := Lib.hid hB
      have Har := Lib.hid har
      have Hat := Lib.hid hat
      have Hxa := Lib.hid hxa
      clear hB har hat hxa z0 z1 z2
      refine (Hs0.out _ Hat.out).mono ?_
      rintro e wb ⟨rfl, hbx⟩
      have hB := HB.out.trans (hbx.mono HB.out.size)
      have har := Har.out.below hbx
      have hat : TrAt _ b t := Hat.out.below hbx Hat.out.lt
      have hxa := Hxa.out.below hbx Hxa.out.lt
      clear HB Har Hat Hxa hbx
      have HB := Lib.hid hB
      have Har := Lib.hid har
      have Hat := Lib.hid hat
      have Hxa := Lib.hid hxa
      clear hB har hat hxa
      go_wp2_with fail
      refine (Hs1.out _ Hat.out).mono ?_
      rintro e wc ⟨rfl, hbx⟩
      have hB := HB.out.trans (hbx.mono HB.out.size)
      have har := Har.out.below hbx
      have hat : TrAt _ b t := Hat.out.below hbx Hat.out.lt
      have hxa := Hxa.out.below hbx Hxa.out.lt
      clear HB Har Hat Hxa hbx
      have HB := Lib.hid hB
      have Har := Lib.hid har
      have Hat := Lib.hid hat
      have Hxa := Lib.hid hxa
      clear hB har hat hxa
      have x0 := Hxa.out.cell 0
      have x1 := Hxa.out.cell 1
      have x2 := Hxa.out.cell 2
      simp at x0 x1 x2
      have hgl := Hxa.out.lt
      go_wp2_with fail
      --BEHIND
      have hgw := Blk.new wc 30 #[.bool t.s0.opn, .string t.s0.wr, .int .i64 (t.s0.rd : Int), .bool t.s0.cl, .bool t.s0.eof, .bool t.s0.dd, .bool t.s1.opn, .string t.s1.wr, .int .i64 (t.s1.rd : Int), .bool t.s1.cl, .bool t.s1.eof, .bool t.s1.dd]
      have hbx : Below wc.heap.size wc (wc.alloc (.cells #[.bool t.s0.opn, .string t.s0.wr, .int .i64 (t.s0.rd : Int), .bool t.s0.cl, .bool t.s0.eof, .bool t.s0.dd, .bool t.s1.opn, .string t.s1.wr, .int .i64 (t.s1.rd : Int), .bool t.s1.cl, .bool t.s1.eof, .bool t.s1.dd] 30)) := (Below.refl _ _).alloc (Nat.le_refl _) _
      obtain ⟨gw, hgw0⟩ : ∃ gw, gw = wc.heap.size := ⟨_, rfl⟩
      rw [← hgw0] at hgw ⊢
      clear hgw0
      generalize wc.alloc _ = wd at *
      have hB := HB.out.trans (hbx.mono HB.out.size)
      have har := Har.out.below hbx
      have hat : TrAt _ b t := Hat.out.below hbx Hat.out.lt
      have hxa := Hxa.out.below hbx Hxa.out.lt
      clear HB Har Hat Hxa hbx
      have HB := Lib.hid hB
      have Har := Lib.hid har
      have Hat := Lib.hid hat
      have Hxa := Lib.hid hxa
      clear hB har hat hxa
      refine (Hdo.out _ Hat.out).mono ?_
      obtain ⟨rr, hrr⟩ : ∃ z, z = stepA t ⟨e, d, s⟩ := ⟨_, rfl⟩
      rw [show doM t e d s = rr from hrr.symm]
      have hszr : Szd rr.2 := by rw [hrr]; exact szd_step Hsz.out _
      rintro rv w5 ⟨rfl, hat5, hg5⟩
      have hB := below_only HB.out hg5 hb HB.out.size
      have har := Har.out.grown Hat.out hg5
      have hxa := Hxa.out.grown hg5 (fun e => by injection e with e; exact Blk.ne_ Hxa.out Hat.out (by decide) e)
      have hgw := hgw.grown hg5 (fun e => by injection e with e; exact Blk.ne_ hgw Hat.out (by decide) e)
      clear HB Har Hat Hxa hg5 x0 x1 x2 hgl Hs0 Hs1 Hdo
      have HB := Lib.hid hB
      have Har := Lib.hid har
      have Hat := Lib.hid hat5
      have Hxa := Lib.hid hxa
      have Hgw := Lib.hid hgw
      clear hB har hat5 hxa hgw
      obtain ⟨re, rt⟩ := rr
      simp only
      by_cases hre : re = 0
      case neg =>
       as_aux_lemma =>
        have hne : (re != 0) = true := by simpa using hre
        obtain rfl : rt = t := by
          have h1 : (stepA t ⟨e, d, s⟩).1 ≠ 0 := by rw [← hrr]; exact hre
          have h2 := do_err h1
          rw [← hrr] at h2
          exact h2
        clear hrr hre
        have hs0 : ∀ W, TrAt W b rt → Calls Try.prog 14 #[.pointer (some ⟨b, 0, none⟩), .int .i64 0] W fun e w' => e = .returned (.agg #[.bool rt.s0.opn, .string rt.s0.wr, .int .i64 (rt.s0.rd : Int), .bool rt.s0.cl, .bool rt.s0.eof, .bool rt.s0.dd]) ∧ Below W.heap.size W w' := fun W h => side_0 W b rt h
        have hs1 : ∀ W, TrAt W b rt → Calls Try.prog 14 #[.pointer (some ⟨b, 0, none⟩), .int .i64 1] W fun e w' => e = .returned (.agg #[.bool rt.s1.opn, .string rt.s1.wr, .int .i64 (rt.s1.rd : Int), .bool rt.s1.cl, .bool rt.s1.eof, .bool rt.s1.dd]) ∧ Below W.heap.size W w' := fun W h => side_1 W b rt h
        have hS0 : OldS w5 w5 := Below.refl _ _
        have hm0 : ∀ y : Cls (OldS w5), Calls Try.prog 14 #[.pointer (some ⟨b, 0, none⟩), .int .i64 0] y.w fun e w'' => e = .returned (.agg #[.bool rt.s0.opn, .string rt.s0.wr, .int .i64 (rt.s0.rd : Int), .bool rt.s0.cl, .bool rt.s0.eof, .bool rt.s0.dd]) ∧ OldS w5 w'' ∧ Below y.w.heap.size y.w w'' := fun y => (hs0 y.w (Hat.out.below y.h Hat.out.lt)).mono fun e w' ⟨he, hb⟩ => ⟨he, OldS.below _ _ y.h hb, hb⟩
        have hm1 : ∀ y : Cls (OldS w5), Calls Try.prog 14 #[.pointer (some ⟨b, 0, none⟩), .int .i64 1] y.w fun e w'' => e = .returned (.agg #[.bool rt.s1.opn, .string rt.s1.wr, .int .i64 (rt.s1.rd : Int), .bool rt.s1.cl, .bool rt.s1.eof, .bool rt.s1.dd]) ∧ OldS w5 w'' ∧ Below y.w.heap.size y.w w'' := fun y => (hs1 y.w (Hat.out.below y.h Hat.out.lt)).mono fun e w' ⟨he, hb⟩ => ⟨he, OldS.below _ _ y.h hb, hb⟩
        have cf : ∀ (vals : Array Value) (w : World), (callFunc 14 vals).run Try.prog w = .ok (.enter 14 vals) w := fun _ _ => by kernel_rfl
        have Hm0 := Lib.hid hm0
        have Hm1 := Lib.hid hm1
        have Cf := Lib.hid cf
        clear hs0 hs1 hm0 hm1 cf
        go_upto_region 14 with fail
        have ne : Nonempty (Cls (OldS w5)) := ⟨⟨w5, hS0⟩⟩
        have k0 : ∀ y : Cls (OldS w5), y.w.cell? ⟨gw, 0, none⟩ = _ := fun y => (y.h.cell (p := ⟨gw, 0, none⟩) Hgw.out.lt).trans (Hgw.out.cell 0)
        have k1 : ∀ y : Cls (OldS w5), y.w.cell? ⟨gw, 1, none⟩ = _ := fun y => (y.h.cell (p := ⟨gw, 1, none⟩) Hgw.out.lt).trans (Hgw.out.cell 1)
        have k2 : ∀ y : Cls (OldS w5), y.w.cell? ⟨gw, 2, none⟩ = _ := fun y => (y.h.cell (p := ⟨gw, 2, none⟩) Hgw.out.lt).trans (Hgw.out.cell 2)
        have k3 : ∀ y : Cls (OldS w5), y.w.cell? ⟨gw, 3, none⟩ = _ := fun y => (y.h.cell (p := ⟨gw, 3, none⟩) Hgw.out.lt).trans (Hgw.out.cell 3)
        have k4 : ∀ y : Cls (OldS w5), y.w.cell? ⟨gw, 4, none⟩ = _ := fun y => (y.h.cell (p := ⟨gw, 4, none⟩) Hgw.out.lt).trans (Hgw.out.cell 4)
        have k5 : ∀ y : Cls (OldS w5), y.w.cell? ⟨gw, 5, none⟩ = _ := fun y => (y.h.cell (p := ⟨gw, 5, none⟩) Hgw.out.lt).trans (Hgw.out.cell 5)
        have k6 : ∀ y : Cls (OldS w5), y.w.cell? ⟨gw, 6, none⟩ = _ := fun y => (y.h.cell (p := ⟨gw, 6, none⟩) Hgw.out.lt).trans (Hgw.out.cell 6)
        have k7 : ∀ y : Cls (OldS w5), y.w.cell? ⟨gw, 7, none⟩ = _ := fun y => (y.h.cell (p := ⟨gw, 7, none⟩) Hgw.out.lt).trans (Hgw.out.cell 7)
        have k8 : ∀ y : Cls (OldS w5), y.w.cell? ⟨gw, 8, none⟩ = _ := fun y => (y.h.cell (p := ⟨gw, 8, none⟩) Hgw.out.lt).trans (Hgw.out.cell 8)
        have k9 : ∀ y : Cls (OldS w5), y.w.cell? ⟨gw, 9, none⟩ = _ := fun y => (y.h.cell (p := ⟨gw, 9, none⟩) Hgw.out.lt).trans (Hgw.out.cell 9)
        have k10 : ∀ y : Cls (OldS w5), y.w.cell? ⟨gw, 10, none⟩ = _ := fun y => (y.h.cell (p := ⟨gw, 10, none⟩) Hgw.out.lt).trans (Hgw.out.cell 10)
        have k11 : ∀ y : Cls (OldS w5), y.w.cell? ⟨gw, 11, none⟩ = _ := fun y => (y.h.cell (p := ⟨gw, 11, none⟩) Hgw.out.lt).trans (Hgw.out.cell 11)
        simp at k0 k1 k2 k3 k4 k5 k6 k7 k8 k9 k10 k11
        have q0 := neq_same rt.s0
        have q1 := neq_same rt.s1
        refine wp_region_flow 12 (OldS w5) (fun w w' => Below w.heap.size w w') (by kernel_rfl) (by kernel_rfl) (by kernel_rfl) (fun w => Below.refl _ _) (OldS.drew hS0) ?_
        simp only [List.take_succ_cons, List.take_zero, List.drop_succ_cons, List.drop_zero]
        repeat (first
          | (refine flow_quiet (fun w => Below.refl _ _) rfl rfl rfl rfl ?_; intro K hK; go_big_quiet_op; go_big_quiet_on)
          | (refine flow_call Cf.out _ ?_ rfl rfl rfl _ Hm0.out w5 ?_; (focus (simp only [List.map_toArray, List.map_cons, List.map_nil]; rfl)); intro K hK; go_big_quiet_op; go_big_quiet_on)
          | (refine flow_call Cf.out _ ?_ rfl rfl rfl _ Hm1.out w5 ?_; (focus (simp only [List.map_toArray, List.map_cons, List.map_nil]; rfl)); intro K hK; go_big_quiet_op; go_big_quiet_on))
        refine flow_nil ?_
        intro W f hW hF
        have hT : Tell w b G rt W := ⟨Hsz.out, Hop.out, Hat.out.below hW Hat.out.lt, Har.out.below hW, HB.out.trans (Below.mono hW HB.out.size), Hlo.out⟩
        have HT := Lib.hid hT
        clear hT hW hF k0 k1 k2 k3 k4 k5 k6 k7 k8 k9 k10 k11 q0 q1 ne hS0
        simp only [fillW]
        go_wp2
        go_roundw
        case rel => exact ⟨k + 1, by omega, by go_num, rt, rfl, HT.out⟩
        case measure => simp [intOf]; omega
      subst hre
      obtain ⟨k', hk', hke, hd9, htx, hR, hrt⟩ := step_ok (t := t) (x := ⟨e, d, s⟩) (by rw [← hrr])
      rw [← hrr] at hrt
      simp only at hke hd9 htx hR hrt
      subst hrt
      clear hrr htx
      have hopn := opn_eff Hop.out hR hk'
      have hs2 : (s.size : Int) ≤ 8388608 := by omega
      have Hszr := Lib.hid hszr
      have Hopn := Lib.hid hopn
      clear hszr hopn
      obtain rfl | rfl : k' = 0 ∨ k' = 1 := by omega
      · obtain rfl : e = 0 := hke
        obtain rfl | rfl | rfl | rfl | rfl | rfl | rfl | rfl | rfl : d = 1 ∨ d = 2 ∨ d = 3 ∨ d = 4 ∨ d = 5 ∨ d = 6 ∨ d = 7 ∨ d = 8 ∨ d = 9 := by omega
        · as_aux_lemma =>
            unfold ruleM at hR
            simp only at hR
            split at hR
            case isFalse => cases hR
            rename_i hc
            simp [Tr.own, Tr.oth, Sd.live] at hc
            clear hR
            have hop0 : t.s0.opn = false := hc
            have hdd : t.s0.dd = false := by
                cases hq : t.s0.dd with
                | false => rfl
                | true => have := Hop.out.1 hq; rw [hop0] at this; cases this
            clear hc
            have x0 : w5.cell? ⟨ga, 0, none⟩ = some (.int .i64 0) := by have := Hxa.out.cell 0; simpa using this
            have x1 : w5.cell? ⟨ga, 1, none⟩ = some (.int .u8 1) := by have := Hxa.out.cell 1; simpa using this
            have x2 : w5.cell? ⟨ga, 2, none⟩ = some (.string s) := by have := Hxa.out.cell 2; simpa using this
            have dk : w5.cell? ⟨G.gD, 0, none⟩ = some (.bool false) := by have := Har.out.bgD.cell 0; simpa [vsOf, hdd] using this
            go_upto_region 41 with fail
            have hA : Arrs G (vsOf (eff 0 1 s t)) w5 := Har.out
            have hAt : TrAt w5 b (eff 0 1 s t) := Hat.out
            have hBl := HB.out
            generalize w5 = W at *
            have HA := Lib.hid hA
            have HAt := Lib.hid hAt
            have HBl := Lib.hid hBl
            clear hA hAt hBl HB Har Hat Hxa Hgw x0 x1 x2 dk
            obtain ⟨n, hn⟩ : ∃ n, n = (eff 0 1 s t).s0.rd := ⟨_, rfl⟩
            obtain ⟨X, hX⟩ : ∃ X, X = (eff 0 1 s t).s1.wr := ⟨_, rfl⟩
            have hle : n ≤ X.size ∧ X.size ≤ 1048576 := by rw [hn, hX]; exact ⟨Hszr.out.2.2.1, Hszr.out.2.1⟩
            have r1 : W.cell? ⟨G.gR, 0, none⟩ = some (.string (X.extract 0 n)) := by rw [hn, hX]; have := HA.out.bgR.cell 0; simpa [vsOf] using this
            have r2 : W.cell? ⟨G.gW, 1, none⟩ = some (.string X) := by rw [hX]; have := HA.out.bgW.cell 1; simpa [vsOf] using this
            obtain ⟨s1, s2⟩ := extract_size X n hle.1
            have s3 : (X.extract 0 n).size ≤ X.size := by omega
            generalize X.extract 0 n = Y at *
            have i1 : (Y.size : Int) ≤ (X.size : Int) := by omega
            have i2 : (X.size : Int) ≤ 9223372036854775807 := by omega
            have i3 : decide (X.size < Y.size) = false := decide_eq_false (by omega)
            clear hn hX s1 s3 hle
            go_quiet (fail)
            go_wp2
            have HT := Lib.hid (Tell.mk Hszr.out Hopn.out (Blk.drewN HAt.out nq) (HA.out.drewN nq) (below_drewN HBl.out nq) Hlo.out)
            clear HA HAt HBl r1 r2 s2 i1 i2 i3
            go_roundw
            case rel => exact ⟨k + 1, by omega, by go_num, _, by simp [eff, cA], HT.out⟩
            case measure => simp [intOf]; omega
        · simp [ruleM] at hR
        · as_aux_lemma =>
            unfold ruleM at hR
            simp only at hR
            split at hR
            case isFalse => cases hR
            rename_i hc
            simp [Tr.own, Tr.oth, Sd.live] at hc
            clear hR
            have hop1 : t.s0.opn = true := hc.1.1
            have hdd : t.s0.dd = false := hc.1.2
            clear hc
            have x0 : w5.cell? ⟨ga, 0, none⟩ = some (.int .i64 0) := by have := Hxa.out.cell 0; simpa using this
            have x1 : w5.cell? ⟨ga, 1, none⟩ = some (.int .u8 3) := by have := Hxa.out.cell 1; simpa using this
            have x2 : w5.cell? ⟨ga, 2, none⟩ = some (.string s) := by have := Hxa.out.cell 2; simpa using this
            have dk : w5.cell? ⟨G.gD, 0, none⟩ = some (.bool false) := by have := Har.out.bgD.cell 0; simpa [vsOf, hdd] using this
            have ok1 : w5.cell? ⟨gw, 0, none⟩ = some (.bool true) := by have := Hgw.out.cell 0; simpa [hop1] using this
            have wk : w5.cell? ⟨G.gW, 0, none⟩ = some (.string t.s0.wr) := by have := Har.out.bgW.cell 0; simpa [vsOf] using this
            have fk := Blk.frozen Har.out.bgW 0
            have hz := Hsz.out
            have hadd := fun W : World => run_string_add_sum (P := Try.prog) W t.s0.wr s (by have := hz.1; omega)
            clear hz
            go_upto_region 21 with fail
            go_still_tail 8, (by kernel_rfl)
            have hA : Arrs G (vsOf (eff 0 3 s t)) _ := ((vs_w0 t s Hsz.out) ▸ Arrs.setW0 (v := vsOf t) Har.out (t.s0.wr ++ s) : _)
            have hAt : TrAt _ b (eff 0 3 s t) := Blk.far Hat.out (p := ⟨G.gW, 0, none⟩) (fun e => Blk.ne_ Hat.out Har.out.bgW (by decide) e) (.string (t.s0.wr ++ s))
            have hBl := below_set HB.out G.gW 0 (.string (t.s0.wr ++ s)) Hlo.out.1
            go_wp2
            have hA := Arrs.drew hA
            have hAt : TrAt _ b (eff 0 3 s t) := Blk.drew hAt
            have hBl := Below.drew hBl
            generalize World.drew _ = W at *
            have HA := Lib.hid hA
            have HAt := Lib.hid hAt
            have HBl := Lib.hid hBl
            clear hA hAt hBl HB Har Hat Hxa Hgw x0 x1 x2 dk ok1 wk fk hadd
            obtain ⟨n, hn⟩ : ∃ n, n = (eff 0 3 s t).s0.rd := ⟨_, rfl⟩
            obtain ⟨X, hX⟩ : ∃ X, X = (eff 0 3 s t).s1.wr := ⟨_, rfl⟩
            have hle : n ≤ X.size ∧ X.size ≤ 1048576 := by rw [hn, hX]; exact ⟨Hszr.out.2.2.1, Hszr.out.2.1⟩
            have r1 : W.cell? ⟨G.gR, 0, none⟩ = some (.string (X.extract 0 n)) := by rw [hn, hX]; have := HA.out.bgR.cell 0; simpa [vsOf] using this
            have r2 : W.cell? ⟨G.gW, 1, none⟩ = some (.string X) := by rw [hX]; have := HA.out.bgW.cell 1; simpa [vsOf] using this
            obtain ⟨s1, s2⟩ := extract_size X n hle.1
            have s3 : (X.extract 0 n).size ≤ X.size := by omega
            generalize X.extract 0 n = Y at *
            have i1 : (Y.size : Int) ≤ (X.size : Int) := by omega
            have i2 : (X.size : Int) ≤ 9223372036854775807 := by omega
            have i3 : decide (X.size < Y.size) = false := decide_eq_false (by omega)
            clear hn hX s1 s3 hle
            go_quiet (fail)
            go_wp2
            have HT := Lib.hid (Tell.mk Hszr.out Hopn.out (Blk.drewN HAt.out nq) (HA.out.drewN nq) (below_drewN HBl.out nq) Hlo.out)
            clear HA HAt HBl r1 r2 s2 i1 i2 i3
            go_roundw
            case rel => exact ⟨k + 1, by omega, by go_num, _, by simp [eff, cA], HT.out⟩
            case measure => simp [intOf]; omega
        · as_aux_lemma =>
            unfold ruleM at hR
            simp only at hR
            split at hR
            case isFalse => cases hR
            rename_i hc
            simp [Tr.own, Tr.oth, Sd.live] at hc
            clear hR
            have hop1 : t.s0.opn = true := hc.1.1
            have hdd : t.s0.dd = false := hc.1.2
            have heof : t.s0.eof = false := hc.2.1
            have hpre : prefixB t.s1.wr t.s0.rd s = true := hc.2.2
            clear hc
            have x0 : w5.cell? ⟨ga, 0, none⟩ = some (.int .i64 0) := by have := Hxa.out.cell 0; simpa using this
            have x1 : w5.cell? ⟨ga, 1, none⟩ = some (.int .u8 4) := by have := Hxa.out.cell 1; simpa using this
            have x2 : w5.cell? ⟨ga, 2, none⟩ = some (.string s) := by have := Hxa.out.cell 2; simpa using this
            have dk : w5.cell? ⟨G.gD, 0, none⟩ = some (.bool false) := by have := Har.out.bgD.cell 0; simpa [vsOf, hdd] using this
            have ok1 : w5.cell? ⟨gw, 0, none⟩ = some (.bool true) := by have := Hgw.out.cell 0; simpa [hop1] using this
            have wk : w5.cell? ⟨G.gR, 0, none⟩ = some (.string (t.s1.wr.extract 0 t.s0.rd)) := by have := Har.out.bgR.cell 0; simpa [vsOf] using this
            have fk := Blk.frozen Har.out.bgR 0
            have hz := Hsz.out
            have hadd := fun W : World => run_string_add_sum (P := Try.prog) W (t.s1.wr.extract 0 t.s0.rd) s (by have := hz.1; have := hz.2.1; have := hz.2.2.1; have := hz.2.2.2; simp; omega)
            clear hz
            have ek : w5.cell? ⟨G.gE, 0, none⟩ = some (.bool false) := by have := Har.out.bgE.cell 0; simpa [vsOf, heof] using this
            go_upto_region 23 with fail
            go_still_tail 8, (by kernel_rfl)
            have hA : Arrs G (vsOf (eff 0 4 s t)) _ := ((vs_r0 t s Hsz.out hpre) ▸ Arrs.setR0 (v := vsOf t) Har.out (t.s1.wr.extract 0 t.s0.rd ++ s) : _)
            have hAt : TrAt _ b (eff 0 4 s t) := Blk.far Hat.out (p := ⟨G.gR, 0, none⟩) (fun e => Blk.ne_ Hat.out Har.out.bgR (by decide) e) (.string (t.s1.wr.extract 0 t.s0.rd ++ s))
            have hBl := below_set HB.out G.gR 0 (.string (t.s1.wr.extract 0 t.s0.rd ++ s)) Hlo.out.2.1
            go_wp2
            have hA := Arrs.drew hA
            have hAt : TrAt _ b (eff 0 4 s t) := Blk.drew hAt
            have hBl := Below.drew hBl
            generalize World.drew _ = W at *
            have HA := Lib.hid hA
            have HAt := Lib.hid hAt
            have HBl := Lib.hid hBl
            clear hA hAt hBl HB Har Hat Hxa Hgw x0 x1 x2 dk ok1 wk fk hadd ek
            obtain ⟨n, hn⟩ : ∃ n, n = (eff 0 4 s t).s0.rd := ⟨_, rfl⟩
            obtain ⟨X, hX⟩ : ∃ X, X = (eff 0 4 s t).s1.wr := ⟨_, rfl⟩
            have hle : n ≤ X.size ∧ X.size ≤ 1048576 := by rw [hn, hX]; exact ⟨Hszr.out.2.2.1, Hszr.out.2.1⟩
            have r1 : W.cell? ⟨G.gR, 0, none⟩ = some (.string (X.extract 0 n)) := by rw [hn, hX]; have := HA.out.bgR.cell 0; simpa [vsOf] using this
            have r2 : W.cell? ⟨G.gW, 1, none⟩ = some (.string X) := by rw [hX]; have := HA.out.bgW.cell 1; simpa [vsOf] using this
            obtain ⟨s1, s2⟩ := extract_size X n hle.1
            have s3 : (X.extract 0 n).size ≤ X.size := by omega
            generalize X.extract 0 n = Y at *
            have i1 : (Y.size : Int) ≤ (X.size : Int) := by omega
            have i2 : (X.size : Int) ≤ 9223372036854775807 := by omega
            have i3 : decide (X.size < Y.size) = false := decide_eq_false (by omega)
            clear hn hX s1 s3 hle
            go_quiet (fail)
            go_wp2
            have HT := Lib.hid (Tell.mk Hszr.out Hopn.out (Blk.drewN HAt.out nq) (HA.out.drewN nq) (below_drewN HBl.out nq) Hlo.out)
            clear HA HAt HBl r1 r2 s2 i1 i2 i3
            go_roundw
            case rel => exact ⟨k + 1, by omega, by go_num, _, by simp [eff, cA], HT.out⟩
            case measure => simp [intOf]; omega
        · as_aux_lemma =>
            unfold ruleM at hR
            simp only at hR
            split at hR
            case isFalse => cases hR
            rename_i hc
            simp [Tr.own, Tr.oth, Sd.live] at hc
            clear hR
            have hop1 : t.s0.opn = true := hc.1.1
            have hdd : t.s0.dd = false := hc.1.2
            clear hc
            have x0 : w5.cell? ⟨ga, 0, none⟩ = some (.int .i64 0) := by have := Hxa.out.cell 0; simpa using this
            have x1 : w5.cell? ⟨ga, 1, none⟩ = some (.int .u8 5) := by have := Hxa.out.cell 1; simpa using this
            have x2 : w5.cell? ⟨ga, 2, none⟩ = some (.string s) := by have := Hxa.out.cell 2; simpa using this
            have dk : w5.cell? ⟨G.gD, 0, none⟩ = some (.bool false) := by have := Har.out.bgD.cell 0; simpa [vsOf, hdd] using this
            have ok1 : w5.cell? ⟨gw, 0, none⟩ = some (.bool true) := by have := Hgw.out.cell 0; simpa [hop1] using this
            have fk := Blk.frozen Har.out.bgC 0
            have ck := Har.out.bgC.cell 0
            simp at ck
            go_upto_region 41 with fail
            have hA : Arrs G (vsOf (eff 0 5 s t)) _ := Arrs.setC0 (v := vsOf t) Har.out true
            have hAt : TrAt _ b (eff 0 5 s t) := Blk.far Hat.out (p := ⟨G.gC, 0, none⟩) (fun e => Blk.ne_ Hat.out Har.out.bgC (by decide) e) (.bool true)
            have hBl := below_set HB.out G.gC 0 (.bool true) Hlo.out.2.2.1
            generalize World.setCell _ _ _ = W at *
            have HA := Lib.hid hA
            have HAt := Lib.hid hAt
            have HBl := Lib.hid hBl
            clear hA hAt hBl HB Har Hat Hxa Hgw x0 x1 x2 dk ok1 fk ck
            obtain ⟨n, hn⟩ : ∃ n, n = (eff 0 5 s t).s0.rd := ⟨_, rfl⟩
            obtain ⟨X, hX⟩ : ∃ X, X = (eff 0 5 s t).s1.wr := ⟨_, rfl⟩
            have hle : n ≤ X.size ∧ X.size ≤ 1048576 := by rw [hn, hX]; exact ⟨Hszr.out.2.2.1, Hszr.out.2.1⟩
            have r1 : W.cell? ⟨G.gR, 0, none⟩ = some (.string (X.extract 0 n)) := by rw [hn, hX]; have := HA.out.bgR.cell 0; simpa [vsOf] using this
            have r2 : W.cell? ⟨G.gW, 1, none⟩ = some (.string X) := by rw [hX]; have := HA.out.bgW.cell 1; simpa [vsOf] using this
            obtain ⟨s1, s2⟩ := extract_size X n hle.1
            have s3 : (X.extract 0 n).size ≤ X.size := by omega
            generalize X.extract 0 n = Y at *
            have i1 : (Y.size : Int) ≤ (X.size : Int) := by omega
            have i2 : (X.size : Int) ≤ 9223372036854775807 := by omega
            have i3 : decide (X.size < Y.size) = false := decide_eq_false (by omega)
            clear hn hX s1 s3 hle
            go_quiet (fail)
            go_wp2
            have HT := Lib.hid (Tell.mk Hszr.out Hopn.out (Blk.drewN HAt.out nq) (HA.out.drewN nq) (below_drewN HBl.out nq) Hlo.out)
            clear HA HAt HBl r1 r2 s2 i1 i2 i3
            go_roundw
            case rel => exact ⟨k + 1, by omega, by go_num, _, by simp [eff, cA], HT.out⟩
            case measure => simp [intOf]; omega
        · as_aux_lemma =>
            unfold ruleM at hR
            simp only at hR
            split at hR
            case isFalse => cases hR
            rename_i hc
            simp [Tr.own, Tr.oth, Sd.live] at hc
            clear hR
            have hop1 : t.s0.opn = true := hc.1.1
            have hdd : t.s0.dd = false := hc.1.2
            have hocl : t.s1.cl = true := hc.2.1.1
            have hrd : t.s0.rd = t.s1.wr.size := hc.2.1.2
            clear hc
            have x0 : w5.cell? ⟨ga, 0, none⟩ = some (.int .i64 0) := by have := Hxa.out.cell 0; simpa using this
            have x1 : w5.cell? ⟨ga, 1, none⟩ = some (.int .u8 6) := by have := Hxa.out.cell 1; simpa using this
            have x2 : w5.cell? ⟨ga, 2, none⟩ = some (.string s) := by have := Hxa.out.cell 2; simpa using this
            have dk : w5.cell? ⟨G.gD, 0, none⟩ = some (.bool false) := by have := Har.out.bgD.cell 0; simpa [vsOf, hdd] using this
            have ok1 : w5.cell? ⟨gw, 0, none⟩ = some (.bool true) := by have := Hgw.out.cell 0; simpa [hop1] using this
            have fk := Blk.frozen Har.out.bgE 0
            have ck := Har.out.bgE.cell 0
            simp at ck
            go_upto_region 30 with fail
            have hA : Arrs G (vsOf (eff 0 6 s t)) _ := Arrs.setE0 (v := vsOf t) Har.out true
            have hAt : TrAt _ b (eff 0 6 s t) := Blk.far Hat.out (p := ⟨G.gE, 0, none⟩) (fun e => Blk.ne_ Hat.out Har.out.bgE (by decide) e) (.bool true)
            have hBl := below_set HB.out G.gE 0 (.bool true) Hlo.out.2.2.2.1
            generalize World.setCell _ _ _ = W at *
            have HA := Lib.hid hA
            have HAt := Lib.hid hAt
            have HBl := Lib.hid hBl
            clear hA hAt hBl HB Har Hat Hxa Hgw x0 x1 x2 dk ok1 fk ck
            have c1 : W.cell? ⟨G.gC, 1, none⟩ = some (.bool true) := by have := HA.out.bgC.cell 1; simpa [vsOf, eff, gA, Tr.put, Tr.own, hocl] using this
            have c2 : W.cell? ⟨G.gR, 0, none⟩ = some (.string t.s1.wr) := by have := HA.out.bgR.cell 0; simpa [vsOf, eff, gA, Tr.put, Tr.own, hrd, extract_all] using this
            have c3 : W.cell? ⟨G.gW, 1, none⟩ = some (.string t.s1.wr) := by have := HA.out.bgW.cell 1; simpa [vsOf, eff, gA, Tr.put, Tr.own] using this
            go_quiet (fail)
            go_wp2
            have hA := HA.out.drewN nq
            have hAt : TrAt _ b (eff 0 6 s t) := Blk.drewN HAt.out nq
            have hBl := below_drewN HBl.out nq
            clear HA HAt HBl c1 c2 c3
            generalize W.drewN nq = W at *
            have HA := Lib.hid hA
            have HAt := Lib.hid hAt
            have HBl := Lib.hid hBl
            clear hA hAt hBl
            obtain ⟨n, hn⟩ : ∃ n, n = (eff 0 6 s t).s0.rd := ⟨_, rfl⟩
            obtain ⟨X, hX⟩ : ∃ X, X = (eff 0 6 s t).s1.wr := ⟨_, rfl⟩
            have hle : n ≤ X.size ∧ X.size ≤ 1048576 := by rw [hn, hX]; exact ⟨Hszr.out.2.2.1, Hszr.out.2.1⟩
            have r1 : W.cell? ⟨G.gR, 0, none⟩ = some (.string (X.extract 0 n)) := by rw [hn, hX]; have := HA.out.bgR.cell 0; simpa [vsOf] using this
            have r2 : W.cell? ⟨G.gW, 1, none⟩ = some (.string X) := by rw [hX]; have := HA.out.bgW.cell 1; simpa [vsOf] using this
            obtain ⟨s1, s2⟩ := extract_size X n hle.1
            have s3 : (X.extract 0 n).size ≤ X.size := by omega
            generalize X.extract 0 n = Y at *
            have i1 : (Y.size : Int) ≤ (X.size : Int) := by omega
            have i2 : (X.size : Int) ≤ 9223372036854775807 := by omega
            have i3 : decide (X.size < Y.size) = false := decide_eq_false (by omega)
            clear hn hX s1 s3 hle
            go_quiet (fail)
            go_wp2
            have HT := Lib.hid (Tell.mk Hszr.out Hopn.out (Blk.drewN HAt.out nq) (HA.out.drewN nq) (below_drewN HBl.out nq) Hlo.out)
            clear HA HAt HBl r1 r2 s2 i1 i2 i3
            go_roundw
            case rel => exact ⟨k + 1, by omega, by go_num, _, by simp [eff, cA], HT.out⟩
            case measure => simp [intOf]; omega
        · as_aux_lemma =>
            unfold ruleM at hR
            simp only at hR
            split at hR
            case isFalse => cases hR
            rename_i hc
            simp [Tr.own, Tr.oth, Sd.live] at hc
            clear hR
            have hop1 : t.s0.opn = true := hc.1
            have hdd : t.s0.dd = false := hc.2
            clear hc
            have x0 : w5.cell? ⟨ga, 0, none⟩ = some (.int .i64 0) := by have := Hxa.out.cell 0; simpa using this
            have x1 : w5.cell? ⟨ga, 1, none⟩ = some (.int .u8 7) := by have := Hxa.out.cell 1; simpa using this
            have x2 : w5.cell? ⟨ga, 2, none⟩ = some (.string s) := by have := Hxa.out.cell 2; simpa using this
            have dk : w5.cell? ⟨G.gD, 0, none⟩ = some (.bool false) := by have := Har.out.bgD.cell 0; simpa [vsOf, hdd] using this
            have ok1 : w5.cell? ⟨gw, 0, none⟩ = some (.bool true) := by have := Hgw.out.cell 0; simpa [hop1] using this
            have fk := Blk.frozen Har.out.bgD 0
            go_upto_region 41 with fail
            have hA : Arrs G (vsOf (eff 0 7 s t)) _ := Arrs.setD0 (v := vsOf t) Har.out true
            have hAt : TrAt _ b (eff 0 7 s t) := Blk.far Hat.out (p := ⟨G.gD, 0, none⟩) (fun e => Blk.ne_ Hat.out Har.out.bgD (by decide) e) (.bool true)
            have hBl := below_set HB.out G.gD 0 (.bool true) Hlo.out.2.2.2.2
            generalize World.setCell _ _ _ = W at *
            have HA := Lib.hid hA
            have HAt := Lib.hid hAt
            have HBl := Lib.hid hBl
            clear hA hAt hBl HB Har Hat Hxa Hgw x0 x1 x2 dk ok1 fk
            obtain ⟨n, hn⟩ : ∃ n, n = (eff 0 7 s t).s0.rd := ⟨_, rfl⟩
            obtain ⟨X, hX⟩ : ∃ X, X = (eff 0 7 s t).s1.wr := ⟨_, rfl⟩
            have hle : n ≤ X.size ∧ X.size ≤ 1048576 := by rw [hn, hX]; exact ⟨Hszr.out.2.2.1, Hszr.out.2.1⟩
            have r1 : W.cell? ⟨G.gR, 0, none⟩ = some (.string (X.extract 0 n)) := by rw [hn, hX]; have := HA.out.bgR.cell 0; simpa [vsOf] using this
            have r2 : W.cell? ⟨G.gW, 1, none⟩ = some (.string X) := by rw [hX]; have := HA.out.bgW.cell 1; simpa [vsOf] using this
            obtain ⟨s1, s2⟩ := extract_size X n hle.1
            have s3 : (X.extract 0 n).size ≤ X.size := by omega
            generalize X.extract 0 n = Y at *
            have i1 : (Y.size : Int) ≤ (X.size : Int) := by omega
            have i2 : (X.size : Int) ≤ 9223372036854775807 := by omega
            have i3 : decide (X.size < Y.size) = false := decide_eq_false (by omega)
            clear hn hX s1 s3 hle
            go_quiet (fail)
            go_wp2
            have HT := Lib.hid (Tell.mk Hszr.out Hopn.out (Blk.drewN HAt.out nq) (HA.out.drewN nq) (below_drewN HBl.out nq) Hlo.out)
            clear HA HAt HBl r1 r2 s2 i1 i2 i3
            go_roundw
            case rel => exact ⟨k + 1, by omega, by go_num, _, by simp [eff, cA], HT.out⟩
            case measure => simp [intOf]; omega
        · as_aux_lemma =>
            unfold ruleM at hR
            simp only at hR
            split at hR
            case isFalse => cases hR
            rename_i hc
            simp [Tr.own, Tr.oth, Sd.live] at hc
            clear hR
            have hop1 : t.s0.opn = true := hc.1.1
            have hdd : t.s0.dd = false := hc.1.2
            have hcz : t.cause = true := hc.2
            clear hc
            have x0 : w5.cell? ⟨ga, 0, none⟩ = some (.int .i64 0) := by have := Hxa.out.cell 0; simpa using this
            have x1 : w5.cell? ⟨ga, 1, none⟩ = some (.int .u8 8) := by have := Hxa.out.cell 1; simpa using this
            have x2 : w5.cell? ⟨ga, 2, none⟩ = some (.string s) := by have := Hxa.out.cell 2; simpa using this
            have dk : w5.cell? ⟨G.gD, 0, none⟩ = some (.bool false) := by have := Har.out.bgD.cell 0; simpa [vsOf, hdd] using this
            have ok1 : w5.cell? ⟨gw, 0, none⟩ = some (.bool true) := by have := Hgw.out.cell 0; simpa [hop1] using this
            have fk := Blk.frozen Har.out.bgD 0
            go_upto_region 41 with fail
            have hA : Arrs G (vsOf (eff 0 8 s t)) _ := Arrs.setD0 (v := vsOf t) Har.out true
            have hAt : TrAt _ b (eff 0 8 s t) := Blk.far Hat.out (p := ⟨G.gD, 0, none⟩) (fun e => Blk.ne_ Hat.out Har.out.bgD (by decide) e) (.bool true)
            have hBl := below_set HB.out G.gD 0 (.bool true) Hlo.out.2.2.2.2
            generalize World.setCell _ _ _ = W at *
            have HA := Lib.hid hA
            have HAt := Lib.hid hAt
            have HBl := Lib.hid hBl
            clear hA hAt hBl HB Har Hat Hxa Hgw x0 x1 x2 dk ok1 fk
            obtain ⟨n, hn⟩ : ∃ n, n = (eff 0 8 s t).s0.rd := ⟨_, rfl⟩
            obtain ⟨X, hX⟩ : ∃ X, X = (eff 0 8 s t).s1.wr := ⟨_, rfl⟩
            have hle : n ≤ X.size ∧ X.size ≤ 1048576 := by rw [hn, hX]; exact ⟨Hszr.out.2.2.1, Hszr.out.2.1⟩
            have r1 : W.cell? ⟨G.gR, 0, none⟩ = some (.string (X.extract 0 n)) := by rw [hn, hX]; have := HA.out.bgR.cell 0; simpa [vsOf] using this
            have r2 : W.cell? ⟨G.gW, 1, none⟩ = some (.string X) := by rw [hX]; have := HA.out.bgW.cell 1; simpa [vsOf] using this
            obtain ⟨s1, s2⟩ := extract_size X n hle.1
            have s3 : (X.extract 0 n).size ≤ X.size := by omega
            generalize X.extract 0 n = Y at *
            have i1 : (Y.size : Int) ≤ (X.size : Int) := by omega
            have i2 : (X.size : Int) ≤ 9223372036854775807 := by omega
            have i3 : decide (X.size < Y.size) = false := decide_eq_false (by omega)
            clear hn hX s1 s3 hle
            go_quiet (fail)
            go_wp2
            have HT := Lib.hid (Tell.mk Hszr.out Hopn.out (Blk.drewN HAt.out nq) (HA.out.drewN nq) (below_drewN HBl.out nq) Hlo.out)
            clear HA HAt HBl r1 r2 s2 i1 i2 i3
            go_roundw
            case rel => exact ⟨k + 1, by omega, by go_num, _, by simp [eff, cA, hcz], HT.out⟩
            case measure => simp [intOf]; omega
        · as_aux_lemma =>
            clear hR
            have x0 : w5.cell? ⟨ga, 0, none⟩ = some (.int .i64 0) := by have := Hxa.out.cell 0; simpa using this
            have x1 : w5.cell? ⟨ga, 1, none⟩ = some (.int .u8 9) := by have := Hxa.out.cell 1; simpa using this
            have x2 : w5.cell? ⟨ga, 2, none⟩ = some (.string s) := by have := Hxa.out.cell 2; simpa using this
            go_upto_region 41 with fail
            have hA : Arrs G (vsOf (eff 0 9 s t)) w5 := Har.out
            have hAt : TrAt w5 b (eff 0 9 s t) := Hat.out
            have hBl := HB.out
            generalize w5 = W at *
            have HA := Lib.hid hA
            have HAt := Lib.hid hAt
            have HBl := Lib.hid hBl
            clear hA hAt hBl HB Har Hat Hxa Hgw x0 x1 x2
            obtain ⟨n, hn⟩ : ∃ n, n = (eff 0 9 s t).s0.rd := ⟨_, rfl⟩
            obtain ⟨X, hX⟩ : ∃ X, X = (eff 0 9 s t).s1.wr := ⟨_, rfl⟩
            have hle : n ≤ X.size ∧ X.size ≤ 1048576 := by rw [hn, hX]; exact ⟨Hszr.out.2.2.1, Hszr.out.2.1⟩
            have r1 : W.cell? ⟨G.gR, 0, none⟩ = some (.string (X.extract 0 n)) := by rw [hn, hX]; have := HA.out.bgR.cell 0; simpa [vsOf] using this
            have r2 : W.cell? ⟨G.gW, 1, none⟩ = some (.string X) := by rw [hX]; have := HA.out.bgW.cell 1; simpa [vsOf] using this
            obtain ⟨s1, s2⟩ := extract_size X n hle.1
            have s3 : (X.extract 0 n).size ≤ X.size := by omega
            generalize X.extract 0 n = Y at *
            have i1 : (Y.size : Int) ≤ (X.size : Int) := by omega
            have i2 : (X.size : Int) ≤ 9223372036854775807 := by omega
            have i3 : decide (X.size < Y.size) = false := decide_eq_false (by omega)
            clear hn hX s1 s3 hle
            go_quiet (fail)
            go_wp2
            have HT := Lib.hid (Tell.mk Hszr.out Hopn.out (Blk.drewN HAt.out nq) (HA.out.drewN nq) (below_drewN HBl.out nq) Hlo.out)
            clear HA HAt HBl r1 r2 s2 i1 i2 i3
            go_roundw
            case rel => exact ⟨k + 1, by omega, by go_num, _, by simp [eff, cA], HT.out⟩
            case measure => simp [intOf]; omega
      · obtain rfl : e = 1 := hke
        obtain rfl | rfl | rfl | rfl | rfl | rfl | rfl | rfl | rfl : d = 1 ∨ d = 2 ∨ d = 3 ∨ d = 4 ∨ d = 5 ∨ d = 6 ∨ d = 7 ∨ d = 8 ∨ d = 9 := by omega
        · simp [ruleM] at hR
        · as_aux_lemma =>
            unfold ruleM at hR
            simp only at hR
            split at hR
            case isFalse => cases hR
            rename_i hc
            simp [Tr.own, Tr.oth, Sd.live] at hc
            clear hR
            have hop0 : t.s1.opn = false := hc.2
            have hdd : t.s1.dd = false := by
                cases hq : t.s1.dd with
                | false => rfl
                | true => have := Hop.out.2 hq; rw [hop0] at this; cases this
            clear hc
            have x0 : w5.cell? ⟨ga, 0, none⟩ = some (.int .i64 1) := by have := Hxa.out.cell 0; simpa using this
            have x1 : w5.cell? ⟨ga, 1, none⟩ = some (.int .u8 2) := by have := Hxa.out.cell 1; simpa using this
            have x2 : w5.cell? ⟨ga, 2, none⟩ = some (.string s) := by have := Hxa.out.cell 2; simpa using this
            have dk : w5.cell? ⟨G.gD, 1, none⟩ = some (.bool false) := by have := Har.out.bgD.cell 1; simpa [vsOf, hdd] using this
            go_upto_region 41 with fail
            have hA : Arrs G (vsOf (eff 1 2 s t)) w5 := Har.out
            have hAt : TrAt w5 b (eff 1 2 s t) := Hat.out
            have hBl := HB.out
            generalize w5 = W at *
            have HA := Lib.hid hA
            have HAt := Lib.hid hAt
            have HBl := Lib.hid hBl
            clear hA hAt hBl HB Har Hat Hxa Hgw x0 x1 x2 dk
            obtain ⟨n, hn⟩ : ∃ n, n = (eff 1 2 s t).s1.rd := ⟨_, rfl⟩
            obtain ⟨X, hX⟩ : ∃ X, X = (eff 1 2 s t).s0.wr := ⟨_, rfl⟩
            have hle : n ≤ X.size ∧ X.size ≤ 1048576 := by rw [hn, hX]; exact ⟨Hszr.out.2.2.2, Hszr.out.1⟩
            have r1 : W.cell? ⟨G.gR, 1, none⟩ = some (.string (X.extract 0 n)) := by rw [hn, hX]; have := HA.out.bgR.cell 1; simpa [vsOf] using this
            have r2 : W.cell? ⟨G.gW, 0, none⟩ = some (.string X) := by rw [hX]; have := HA.out.bgW.cell 0; simpa [vsOf] using this
            obtain ⟨s1, s2⟩ := extract_size X n hle.1
            have s3 : (X.extract 0 n).size ≤ X.size := by omega
            generalize X.extract 0 n = Y at *
            have i1 : (Y.size : Int) ≤ (X.size : Int) := by omega
            have i2 : (X.size : Int) ≤ 9223372036854775807 := by omega
            have i3 : decide (X.size < Y.size) = false := decide_eq_false (by omega)
            clear hn hX s1 s3 hle
            go_quiet (fail)
            go_wp2
            have HT := Lib.hid (Tell.mk Hszr.out Hopn.out (Blk.drewN HAt.out nq) (HA.out.drewN nq) (below_drewN HBl.out nq) Hlo.out)
            clear HA HAt HBl r1 r2 s2 i1 i2 i3
            go_roundw
            case rel => exact ⟨k + 1, by omega, by go_num, _, by simp [eff, cA], HT.out⟩
            case measure => simp [intOf]; omega
        · as_aux_lemma =>
            unfold ruleM at hR
            simp only at hR
            split at hR
            case isFalse => cases hR
            rename_i hc
            simp [Tr.own, Tr.oth, Sd.live] at hc
            clear hR
            have hop1 : t.s1.opn = true := hc.1.1
            have hdd : t.s1.dd = false := hc.1.2
            clear hc
            have x0 : w5.cell? ⟨ga, 0, none⟩ = some (.int .i64 1) := by have := Hxa.out.cell 0; simpa using this
            have x1 : w5.cell? ⟨ga, 1, none⟩ = some (.int .u8 3) := by have := Hxa.out.cell 1; simpa using this
            have x2 : w5.cell? ⟨ga, 2, none⟩ = some (.string s) := by have := Hxa.out.cell 2; simpa using this
            have dk : w5.cell? ⟨G.gD, 1, none⟩ = some (.bool false) := by have := Har.out.bgD.cell 1; simpa [vsOf, hdd] using this
            have ok1 : w5.cell? ⟨gw, 6, none⟩ = some (.bool true) := by have := Hgw.out.cell 6; simpa [hop1] using this
            have wk : w5.cell? ⟨G.gW, 1, none⟩ = some (.string t.s1.wr) := by have := Har.out.bgW.cell 1; simpa [vsOf] using this
            have fk := Blk.frozen Har.out.bgW 1
            have hz := Hsz.out
            have hadd := fun W : World => run_string_add_sum (P := Try.prog) W t.s1.wr s (by have := hz.2.1; omega)
            clear hz
            go_upto_region 21 with fail
            go_still_tail 8, (by kernel_rfl)
            have hA : Arrs G (vsOf (eff 1 3 s t)) _ := ((vs_w1 t s Hsz.out) ▸ Arrs.setW1 (v := vsOf t) Har.out (t.s1.wr ++ s) : _)
            have hAt : TrAt _ b (eff 1 3 s t) := Blk.far Hat.out (p := ⟨G.gW, 1, none⟩) (fun e => Blk.ne_ Hat.out Har.out.bgW (by decide) e) (.string (t.s1.wr ++ s))
            have hBl := below_set HB.out G.gW 1 (.string (t.s1.wr ++ s)) Hlo.out.1
            go_wp2
            have hA := Arrs.drew hA
            have hAt : TrAt _ b (eff 1 3 s t) := Blk.drew hAt
            have hBl := Below.drew hBl
            generalize World.drew _ = W at *
            have HA := Lib.hid hA
            have HAt := Lib.hid hAt
            have HBl := Lib.hid hBl
            clear hA hAt hBl HB Har Hat Hxa Hgw x0 x1 x2 dk ok1 wk fk hadd
            obtain ⟨n, hn⟩ : ∃ n, n = (eff 1 3 s t).s1.rd := ⟨_, rfl⟩
            obtain ⟨X, hX⟩ : ∃ X, X = (eff 1 3 s t).s0.wr := ⟨_, rfl⟩
            have hle : n ≤ X.size ∧ X.size ≤ 1048576 := by rw [hn, hX]; exact ⟨Hszr.out.2.2.2, Hszr.out.1⟩
            have r1 : W.cell? ⟨G.gR, 1, none⟩ = some (.string (X.extract 0 n)) := by rw [hn, hX]; have := HA.out.bgR.cell 1; simpa [vsOf] using this
            have r2 : W.cell? ⟨G.gW, 0, none⟩ = some (.string X) := by rw [hX]; have := HA.out.bgW.cell 0; simpa [vsOf] using this
            obtain ⟨s1, s2⟩ := extract_size X n hle.1
            have s3 : (X.extract 0 n).size ≤ X.size := by omega
            generalize X.extract 0 n = Y at *
            have i1 : (Y.size : Int) ≤ (X.size : Int) := by omega
            have i2 : (X.size : Int) ≤ 9223372036854775807 := by omega
            have i3 : decide (X.size < Y.size) = false := decide_eq_false (by omega)
            clear hn hX s1 s3 hle
            go_quiet (fail)
            go_wp2
            have HT := Lib.hid (Tell.mk Hszr.out Hopn.out (Blk.drewN HAt.out nq) (HA.out.drewN nq) (below_drewN HBl.out nq) Hlo.out)
            clear HA HAt HBl r1 r2 s2 i1 i2 i3
            go_roundw
            case rel => exact ⟨k + 1, by omega, by go_num, _, by simp [eff, cA], HT.out⟩
            case measure => simp [intOf]; omega
        · as_aux_lemma =>
            unfold ruleM at hR
            simp only at hR
            split at hR
            case isFalse => cases hR
            rename_i hc
            simp [Tr.own, Tr.oth, Sd.live] at hc
            clear hR
            have hop1 : t.s1.opn = true := hc.1.1
            have hdd : t.s1.dd = false := hc.1.2
            have heof : t.s1.eof = false := hc.2.1
            have hpre : prefixB t.s0.wr t.s1.rd s = true := hc.2.2
            clear hc
            have x0 : w5.cell? ⟨ga, 0, none⟩ = some (.int .i64 1) := by have := Hxa.out.cell 0; simpa using this
            have x1 : w5.cell? ⟨ga, 1, none⟩ = some (.int .u8 4) := by have := Hxa.out.cell 1; simpa using this
            have x2 : w5.cell? ⟨ga, 2, none⟩ = some (.string s) := by have := Hxa.out.cell 2; simpa using this
            have dk : w5.cell? ⟨G.gD, 1, none⟩ = some (.bool false) := by have := Har.out.bgD.cell 1; simpa [vsOf, hdd] using this
            have ok1 : w5.cell? ⟨gw, 6, none⟩ = some (.bool true) := by have := Hgw.out.cell 6; simpa [hop1] using this
            have wk : w5.cell? ⟨G.gR, 1, none⟩ = some (.string (t.s0.wr.extract 0 t.s1.rd)) := by have := Har.out.bgR.cell 1; simpa [vsOf] using this
            have fk := Blk.frozen Har.out.bgR 1
            have hz := Hsz.out
            have hadd := fun W : World => run_string_add_sum (P := Try.prog) W (t.s0.wr.extract 0 t.s1.rd) s (by have := hz.1; have := hz.2.1; have := hz.2.2.1; have := hz.2.2.2; simp; omega)
            clear hz
            have ek : w5.cell? ⟨G.gE, 1, none⟩ = some (.bool false) := by have := Har.out.bgE.cell 1; simpa [vsOf, heof] using this
            go_upto_region 23 with fail
            go_still_tail 8, (by kernel_rfl)
            have hA : Arrs G (vsOf (eff 1 4 s t)) _ := ((vs_r1 t s Hsz.out hpre) ▸ Arrs.setR1 (v := vsOf t) Har.out (t.s0.wr.extract 0 t.s1.rd ++ s) : _)
            have hAt : TrAt _ b (eff 1 4 s t) := Blk.far Hat.out (p := ⟨G.gR, 1, none⟩) (fun e => Blk.ne_ Hat.out Har.out.bgR (by decide) e) (.string (t.s0.wr.extract 0 t.s1.rd ++ s))
            have hBl := below_set HB.out G.gR 1 (.string (t.s0.wr.extract 0 t.s1.rd ++ s)) Hlo.out.2.1
            go_wp2
            have hA := Arrs.drew hA
            have hAt : TrAt _ b (eff 1 4 s t) := Blk.drew hAt
            have hBl := Below.drew hBl
            generalize World.drew _ = W at *
            have HA := Lib.hid hA
            have HAt := Lib.hid hAt
            have HBl := Lib.hid hBl
            clear hA hAt hBl HB Har Hat Hxa Hgw x0 x1 x2 dk ok1 wk fk hadd ek
            obtain ⟨n, hn⟩ : ∃ n, n = (eff 1 4 s t).s1.rd := ⟨_, rfl⟩
            obtain ⟨X, hX⟩ : ∃ X, X = (eff 1 4 s t).s0.wr := ⟨_, rfl⟩
            have hle : n ≤ X.size ∧ X.size ≤ 1048576 := by rw [hn, hX]; exact ⟨Hszr.out.2.2.2, Hszr.out.1⟩
            have r1 : W.cell? ⟨G.gR, 1, none⟩ = some (.string (X.extract 0 n)) := by rw [hn, hX]; have := HA.out.bgR.cell 1; simpa [vsOf] using this
            have r2 : W.cell? ⟨G.gW, 0, none⟩ = some (.string X) := by rw [hX]; have := HA.out.bgW.cell 0; simpa [vsOf] using this
            obtain ⟨s1, s2⟩ := extract_size X n hle.1
            have s3 : (X.extract 0 n).size ≤ X.size := by omega
            generalize X.extract 0 n = Y at *
            have i1 : (Y.size : Int) ≤ (X.size : Int) := by omega
            have i2 : (X.size : Int) ≤ 9223372036854775807 := by omega
            have i3 : decide (X.size < Y.size) = false := decide_eq_false (by omega)
            clear hn hX s1 s3 hle
            go_quiet (fail)
            go_wp2
            have HT := Lib.hid (Tell.mk Hszr.out Hopn.out (Blk.drewN HAt.out nq) (HA.out.drewN nq) (below_drewN HBl.out nq) Hlo.out)
            clear HA HAt HBl r1 r2 s2 i1 i2 i3
            go_roundw
            case rel => exact ⟨k + 1, by omega, by go_num, _, by simp [eff, cA], HT.out⟩
            case measure => simp [intOf]; omega
        · as_aux_lemma =>
            unfold ruleM at hR
            simp only at hR
            split at hR
            case isFalse => cases hR
            rename_i hc
            simp [Tr.own, Tr.oth, Sd.live] at hc
            clear hR
            have hop1 : t.s1.opn = true := hc.1.1
            have hdd : t.s1.dd = false := hc.1.2
            clear hc
            have x0 : w5.cell? ⟨ga, 0, none⟩ = some (.int .i64 1) := by have := Hxa.out.cell 0; simpa using this
            have x1 : w5.cell? ⟨ga, 1, none⟩ = some (.int .u8 5) := by have := Hxa.out.cell 1; simpa using this
            have x2 : w5.cell? ⟨ga, 2, none⟩ = some (.string s) := by have := Hxa.out.cell 2; simpa using this
            have dk : w5.cell? ⟨G.gD, 1, none⟩ = some (.bool false) := by have := Har.out.bgD.cell 1; simpa [vsOf, hdd] using this
            have ok1 : w5.cell? ⟨gw, 6, none⟩ = some (.bool true) := by have := Hgw.out.cell 6; simpa [hop1] using this
            have fk := Blk.frozen Har.out.bgC 1
            have ck := Har.out.bgC.cell 1
            simp at ck
            go_upto_region 41 with fail
            have hA : Arrs G (vsOf (eff 1 5 s t)) _ := Arrs.setC1 (v := vsOf t) Har.out true
            have hAt : TrAt _ b (eff 1 5 s t) := Blk.far Hat.out (p := ⟨G.gC, 1, none⟩) (fun e => Blk.ne_ Hat.out Har.out.bgC (by decide) e) (.bool true)
            have hBl := below_set HB.out G.gC 1 (.bool true) Hlo.out.2.2.1
            generalize World.setCell _ _ _ = W at *
            have HA := Lib.hid hA
            have HAt := Lib.hid hAt
            have HBl := Lib.hid hBl
            clear hA hAt hBl HB Har Hat Hxa Hgw x0 x1 x2 dk ok1 fk ck
            obtain ⟨n, hn⟩ : ∃ n, n = (eff 1 5 s t).s1.rd := ⟨_, rfl⟩
            obtain ⟨X, hX⟩ : ∃ X, X = (eff 1 5 s t).s0.wr := ⟨_, rfl⟩
            have hle : n ≤ X.size ∧ X.size ≤ 1048576 := by rw [hn, hX]; exact ⟨Hszr.out.2.2.2, Hszr.out.1⟩
            have r1 : W.cell? ⟨G.gR, 1, none⟩ = some (.string (X.extract 0 n)) := by rw [hn, hX]; have := HA.out.bgR.cell 1; simpa [vsOf] using this
            have r2 : W.cell? ⟨G.gW, 0, none⟩ = some (.string X) := by rw [hX]; have := HA.out.bgW.cell 0; simpa [vsOf] using this
            obtain ⟨s1, s2⟩ := extract_size X n hle.1
            have s3 : (X.extract 0 n).size ≤ X.size := by omega
            generalize X.extract 0 n = Y at *
            have i1 : (Y.size : Int) ≤ (X.size : Int) := by omega
            have i2 : (X.size : Int) ≤ 9223372036854775807 := by omega
            have i3 : decide (X.size < Y.size) = false := decide_eq_false (by omega)
            clear hn hX s1 s3 hle
            go_quiet (fail)
            go_wp2
            have HT := Lib.hid (Tell.mk Hszr.out Hopn.out (Blk.drewN HAt.out nq) (HA.out.drewN nq) (below_drewN HBl.out nq) Hlo.out)
            clear HA HAt HBl r1 r2 s2 i1 i2 i3
            go_roundw
            case rel => exact ⟨k + 1, by omega, by go_num, _, by simp [eff, cA], HT.out⟩
            case measure => simp [intOf]; omega
        · as_aux_lemma =>
            unfold ruleM at hR
            simp only at hR
            split at hR
            case isFalse => cases hR
            rename_i hc
            simp [Tr.own, Tr.oth, Sd.live] at hc
            clear hR
            have hop1 : t.s1.opn = true := hc.1.1
            have hdd : t.s1.dd = false := hc.1.2
            have hocl : t.s0.cl = true := hc.2.1.1
            have hrd : t.s1.rd = t.s0.wr.size := hc.2.1.2
            clear hc
            have x0 : w5.cell? ⟨ga, 0, none⟩ = some (.int .i64 1) := by have := Hxa.out.cell 0; simpa using this
            have x1 : w5.cell? ⟨ga, 1, none⟩ = some (.int .u8 6) := by have := Hxa.out.cell 1; simpa using this
            have x2 : w5.cell? ⟨ga, 2, none⟩ = some (.string s) := by have := Hxa.out.cell 2; simpa using this
            have dk : w5.cell? ⟨G.gD, 1, none⟩ = some (.bool false) := by have := Har.out.bgD.cell 1; simpa [vsOf, hdd] using this
            have ok1 : w5.cell? ⟨gw, 6, none⟩ = some (.bool true) := by have := Hgw.out.cell 6; simpa [hop1] using this
            have fk := Blk.frozen Har.out.bgE 1
            have ck := Har.out.bgE.cell 1
            simp at ck
            go_upto_region 30 with fail
            have hA : Arrs G (vsOf (eff 1 6 s t)) _ := Arrs.setE1 (v := vsOf t) Har.out true
            have hAt : TrAt _ b (eff 1 6 s t) := Blk.far Hat.out (p := ⟨G.gE, 1, none⟩) (fun e => Blk.ne_ Hat.out Har.out.bgE (by decide) e) (.bool true)
            have hBl := below_set HB.out G.gE 1 (.bool true) Hlo.out.2.2.2.1
            generalize World.setCell _ _ _ = W at *
            have HA := Lib.hid hA
            have HAt := Lib.hid hAt
            have HBl := Lib.hid hBl
            clear hA hAt hBl HB Har Hat Hxa Hgw x0 x1 x2 dk ok1 fk ck
            have c1 : W.cell? ⟨G.gC, 0, none⟩ = some (.bool true) := by have := HA.out.bgC.cell 0; simpa [vsOf, eff, gA, Tr.put, Tr.own, hocl] using this
            have c2 : W.cell? ⟨G.gR, 1, none⟩ = some (.string t.s0.wr) := by have := HA.out.bgR.cell 1; simpa [vsOf, eff, gA, Tr.put, Tr.own, hrd, extract_all] using this
            have c3 : W.cell? ⟨G.gW, 0, none⟩ = some (.string t.s0.wr) := by have := HA.out.bgW.cell 0; simpa [vsOf, eff, gA, Tr.put, Tr.own] using this
            go_quiet (fail)
            go_wp2
            have hA := HA.out.drewN nq
            have hAt : TrAt _ b (eff 1 6 s t) := Blk.drewN HAt.out nq
            have hBl := below_drewN HBl.out nq
            clear HA HAt HBl c1 c2 c3
            generalize W.drewN nq = W at *
            have HA := Lib.hid hA
            have HAt := Lib.hid hAt
            have HBl := Lib.hid hBl
            clear hA hAt hBl
            obtain ⟨n, hn⟩ : ∃ n, n = (eff 1 6 s t).s1.rd := ⟨_, rfl⟩
            obtain ⟨X, hX⟩ : ∃ X, X = (eff 1 6 s t).s0.wr := ⟨_, rfl⟩
            have hle : n ≤ X.size ∧ X.size ≤ 1048576 := by rw [hn, hX]; exact ⟨Hszr.out.2.2.2, Hszr.out.1⟩
            have r1 : W.cell? ⟨G.gR, 1, none⟩ = some (.string (X.extract 0 n)) := by rw [hn, hX]; have := HA.out.bgR.cell 1; simpa [vsOf] using this
            have r2 : W.cell? ⟨G.gW, 0, none⟩ = some (.string X) := by rw [hX]; have := HA.out.bgW.cell 0; simpa [vsOf] using this
            obtain ⟨s1, s2⟩ := extract_size X n hle.1
            have s3 : (X.extract 0 n).size ≤ X.size := by omega
            generalize X.extract 0 n = Y at *
            have i1 : (Y.size : Int) ≤ (X.size : Int) := by omega
            have i2 : (X.size : Int) ≤ 9223372036854775807 := by omega
            have i3 : decide (X.size < Y.size) = false := decide_eq_false (by omega)
            clear hn hX s1 s3 hle
            go_quiet (fail)
            go_wp2
            have HT := Lib.hid (Tell.mk Hszr.out Hopn.out (Blk.drewN HAt.out nq) (HA.out.drewN nq) (below_drewN HBl.out nq) Hlo.out)
            clear HA HAt HBl r1 r2 s2 i1 i2 i3
            go_roundw
            case rel => exact ⟨k + 1, by omega, by go_num, _, by simp [eff, cA], HT.out⟩
            case measure => simp [intOf]; omega
        · as_aux_lemma =>
            unfold ruleM at hR
            simp only at hR
            split at hR
            case isFalse => cases hR
            rename_i hc
            simp [Tr.own, Tr.oth, Sd.live] at hc
            clear hR
            have hop1 : t.s1.opn = true := hc.1
            have hdd : t.s1.dd = false := hc.2
            clear hc
            have x0 : w5.cell? ⟨ga, 0, none⟩ = some (.int .i64 1) := by have := Hxa.out.cell 0; simpa using this
            have x1 : w5.cell? ⟨ga, 1, none⟩ = some (.int .u8 7) := by have := Hxa.out.cell 1; simpa using this
            have x2 : w5.cell? ⟨ga, 2, none⟩ = some (.string s) := by have := Hxa.out.cell 2; simpa using this
            have dk : w5.cell? ⟨G.gD, 1, none⟩ = some (.bool false) := by have := Har.out.bgD.cell 1; simpa [vsOf, hdd] using this
            have ok1 : w5.cell? ⟨gw, 6, none⟩ = some (.bool true) := by have := Hgw.out.cell 6; simpa [hop1] using this
            have fk := Blk.frozen Har.out.bgD 1
            go_upto_region 41 with fail
            have hA : Arrs G (vsOf (eff 1 7 s t)) _ := Arrs.setD1 (v := vsOf t) Har.out true
            have hAt : TrAt _ b (eff 1 7 s t) := Blk.far Hat.out (p := ⟨G.gD, 1, none⟩) (fun e => Blk.ne_ Hat.out Har.out.bgD (by decide) e) (.bool true)
            have hBl := below_set HB.out G.gD 1 (.bool true) Hlo.out.2.2.2.2
            generalize World.setCell _ _ _ = W at *
            have HA := Lib.hid hA
            have HAt := Lib.hid hAt
            have HBl := Lib.hid hBl
            clear hA hAt hBl HB Har Hat Hxa Hgw x0 x1 x2 dk ok1 fk
            obtain ⟨n, hn⟩ : ∃ n, n = (eff 1 7 s t).s1.rd := ⟨_, rfl⟩
            obtain ⟨X, hX⟩ : ∃ X, X = (eff 1 7 s t).s0.wr := ⟨_, rfl⟩
            have hle : n ≤ X.size ∧ X.size ≤ 1048576 := by rw [hn, hX]; exact ⟨Hszr.out.2.2.2, Hszr.out.1⟩
            have r1 : W.cell? ⟨G.gR, 1, none⟩ = some (.string (X.extract 0 n)) := by rw [hn, hX]; have := HA.out.bgR.cell 1; simpa [vsOf] using this
            have r2 : W.cell? ⟨G.gW, 0, none⟩ = some (.string X) := by rw [hX]; have := HA.out.bgW.cell 0; simpa [vsOf] using this
            obtain ⟨s1, s2⟩ := extract_size X n hle.1
            have s3 : (X.extract 0 n).size ≤ X.size := by omega
            generalize X.extract 0 n = Y at *
            have i1 : (Y.size : Int) ≤ (X.size : Int) := by omega
            have i2 : (X.size : Int) ≤ 9223372036854775807 := by omega
            have i3 : decide (X.size < Y.size) = false := decide_eq_false (by omega)
            clear hn hX s1 s3 hle
            go_quiet (fail)
            go_wp2
            have HT := Lib.hid (Tell.mk Hszr.out Hopn.out (Blk.drewN HAt.out nq) (HA.out.drewN nq) (below_drewN HBl.out nq) Hlo.out)
            clear HA HAt HBl r1 r2 s2 i1 i2 i3
            go_roundw
            case rel => exact ⟨k + 1, by omega, by go_num, _, by simp [eff, cA], HT.out⟩
            case measure => simp [intOf]; omega
        · as_aux_lemma =>
            unfold ruleM at hR
            simp only at hR
            split at hR
            case isFalse => cases hR
            rename_i hc
            simp [Tr.own, Tr.oth, Sd.live] at hc
            clear hR
            have hop1 : t.s1.opn = true := hc.1.1
            have hdd : t.s1.dd = false := hc.1.2
            have hcz : t.cause = true := hc.2
            clear hc
            have x0 : w5.cell? ⟨ga, 0, none⟩ = some (.int .i64 1) := by have := Hxa.out.cell 0; simpa using this
            have x1 : w5.cell? ⟨ga, 1, none⟩ = some (.int .u8 8) := by have := Hxa.out.cell 1; simpa using this
            have x2 : w5.cell? ⟨ga, 2, none⟩ = some (.string s) := by have := Hxa.out.cell 2; simpa using this
            have dk : w5.cell? ⟨G.gD, 1, none⟩ = some (.bool false) := by have := Har.out.bgD.cell 1; simpa [vsOf, hdd] using this
            have ok1 : w5.cell? ⟨gw, 6, none⟩ = some (.bool true) := by have := Hgw.out.cell 6; simpa [hop1] using this
            have fk := Blk.frozen Har.out.bgD 1
            go_upto_region 41 with fail
            have hA : Arrs G (vsOf (eff 1 8 s t)) _ := Arrs.setD1 (v := vsOf t) Har.out true
            have hAt : TrAt _ b (eff 1 8 s t) := Blk.far Hat.out (p := ⟨G.gD, 1, none⟩) (fun e => Blk.ne_ Hat.out Har.out.bgD (by decide) e) (.bool true)
            have hBl := below_set HB.out G.gD 1 (.bool true) Hlo.out.2.2.2.2
            generalize World.setCell _ _ _ = W at *
            have HA := Lib.hid hA
            have HAt := Lib.hid hAt
            have HBl := Lib.hid hBl
            clear hA hAt hBl HB Har Hat Hxa Hgw x0 x1 x2 dk ok1 fk
            obtain ⟨n, hn⟩ : ∃ n, n = (eff 1 8 s t).s1.rd := ⟨_, rfl⟩
            obtain ⟨X, hX⟩ : ∃ X, X = (eff 1 8 s t).s0.wr := ⟨_, rfl⟩
            have hle : n ≤ X.size ∧ X.size ≤ 1048576 := by rw [hn, hX]; exact ⟨Hszr.out.2.2.2, Hszr.out.1⟩
            have r1 : W.cell? ⟨G.gR, 1, none⟩ = some (.string (X.extract 0 n)) := by rw [hn, hX]; have := HA.out.bgR.cell 1; simpa [vsOf] using this
            have r2 : W.cell? ⟨G.gW, 0, none⟩ = some (.string X) := by rw [hX]; have := HA.out.bgW.cell 0; simpa [vsOf] using this
            obtain ⟨s1, s2⟩ := extract_size X n hle.1
            have s3 : (X.extract 0 n).size ≤ X.size := by omega
            generalize X.extract 0 n = Y at *
            have i1 : (Y.size : Int) ≤ (X.size : Int) := by omega
            have i2 : (X.size : Int) ≤ 9223372036854775807 := by omega
            have i3 : decide (X.size < Y.size) = false := decide_eq_false (by omega)
            clear hn hX s1 s3 hle
            go_quiet (fail)
            go_wp2
            have HT := Lib.hid (Tell.mk Hszr.out Hopn.out (Blk.drewN HAt.out nq) (HA.out.drewN nq) (below_drewN HBl.out nq) Hlo.out)
            clear HA HAt HBl r1 r2 s2 i1 i2 i3
            go_roundw
            case rel => exact ⟨k + 1, by omega, by go_num, _, by simp [eff, cA, hcz], HT.out⟩
            case measure => simp [intOf]; omega
        · as_aux_lemma =>
            clear hR
            have x0 : w5.cell? ⟨ga, 0, none⟩ = some (.int .i64 1) := by have := Hxa.out.cell 0; simpa using this
            have x1 : w5.cell? ⟨ga, 1, none⟩ = some (.int .u8 9) := by have := Hxa.out.cell 1; simpa using this
            have x2 : w5.cell? ⟨ga, 2, none⟩ = some (.string s) := by have := Hxa.out.cell 2; simpa using this
            go_upto_region 41 with fail
            have hA : Arrs G (vsOf (eff 1 9 s t)) w5 := Har.out
            have hAt : TrAt w5 b (eff 1 9 s t) := Hat.out
            have hBl := HB.out
            generalize w5 = W at *
            have HA := Lib.hid hA
            have HAt := Lib.hid hAt
            have HBl := Lib.hid hBl
            clear hA hAt hBl HB Har Hat Hxa Hgw x0 x1 x2
            obtain ⟨n, hn⟩ : ∃ n, n = (eff 1 9 s t).s1.rd := ⟨_, rfl⟩
            obtain ⟨X, hX⟩ : ∃ X, X = (eff 1 9 s t).s0.wr := ⟨_, rfl⟩
            have hle : n ≤ X.size ∧ X.size ≤ 1048576 := by rw [hn, hX]; exact ⟨Hszr.out.2.2.2, Hszr.out.1⟩
            have r1 : W.cell? ⟨G.gR, 1, none⟩ = some (.string (X.extract 0 n)) := by rw [hn, hX]; have := HA.out.bgR.cell 1; simpa [vsOf] using this
            have r2 : W.cell? ⟨G.gW, 0, none⟩ = some (.string X) := by rw [hX]; have := HA.out.bgW.cell 0; simpa [vsOf] using this
            obtain ⟨s1, s2⟩ := extract_size X n hle.1
            have s3 : (X.extract 0 n).size ≤ X.size := by omega
            generalize X.extract 0 n = Y at *
            have i1 : (Y.size : Int) ≤ (X.size : Int) := by omega
            have i2 : (X.size : Int) ≤ 9223372036854775807 := by omega
            have i3 : decide (X.size < Y.size) = false := decide_eq_false (by omega)
            clear hn hX s1 s3 hle
            go_quiet (fail)
            go_wp2
            have HT := Lib.hid (Tell.mk Hszr.out Hopn.out (Blk.drewN HAt.out nq) (HA.out.drewN nq) (below_drewN HBl.out nq) Hlo.out)
            clear HA HAt HBl r1 r2 s2 i1 i2 i3
            go_roundw
            case rel => exact ⟨k + 1, by omega, by go_num, _, by simp [eff, cA], HT.out⟩
            case measure => simp [intOf]; omega
    · obtain rfl : k = len0 := by omega
      as_aux_lemma =>
      have e1' : decide (k < k) = false := by simp
      have hS0 : OldS wr wr := Below.refl _ _
      have HB := Lib.hid hT.bl
      have Har := Lib.hid hT.ar
      have Hat := Lib.hid hT.at_
      have hle := hT.sz.2.2.2
      clear hT
      have q1 : wr.cell? ⟨G.gW, 0, none⟩ = some (.string t.s0.wr) := by have := Har.out.bgW.cell 0; simpa [vsOf] using this
      have q2 : wr.cell? ⟨G.gR, 1, none⟩ = some (.string (t.s0.wr.extract 0 t.s1.rd)) := by have := Har.out.bgR.cell 1; simpa [vsOf] using this
      obtain ⟨s1, _⟩ := extract_size t.s0.wr t.s1.rd hle
      have hm0 : ∀ y : Cls (OldS wr), Calls Try.prog 14 #[.pointer (some ⟨b, 0, none⟩), .int .i64 0] y.w fun e w'' => e = .returned (.agg #[.bool t.s0.opn, .string t.s0.wr, .int .i64 (t.s0.rd : Int), .bool t.s0.cl, .bool t.s0.eof, .bool t.s0.dd]) ∧ OldS wr w'' ∧ Below y.w.heap.size y.w w'' := fun y => (side_0 y.w b t (Hat.out.below y.h Hat.out.lt)).mono fun e w' ⟨he, hb⟩ => ⟨he, OldS.below _ _ y.h hb, hb⟩
      have hm1 : ∀ y : Cls (OldS wr), Calls Try.prog 14 #[.pointer (some ⟨b, 0, none⟩), .int .i64 1] y.w fun e w'' => e = .returned (.agg #[.bool t.s1.opn, .string t.s1.wr, .int .i64 (t.s1.rd : Int), .bool t.s1.cl, .bool t.s1.eof, .bool t.s1.dd]) ∧ OldS wr w'' ∧ Below y.w.heap.size y.w w'' := fun y => (side_1 y.w b t (Hat.out.below y.h Hat.out.lt)).mono fun e w' ⟨he, hb⟩ => ⟨he, OldS.below _ _ y.h hb, hb⟩
      have hm2 : ∀ y : Cls (OldS wr), Calls Try.prog 10 #[] y.w fun e w'' => e = .returned (.bool true) ∧ OldS wr w'' ∧ Below y.w.heap.size y.w w'' := fun y => (alive31 y.w).mono fun e w' ⟨he, hb⟩ => ⟨he, OldS.below _ _ y.h hb, hb⟩
      have k0 : ∀ y : Cls (OldS wr), y.w.cell? ⟨G.gW, 0, none⟩ = some (.string t.s0.wr) := fun y => (y.h.cell (p := ⟨G.gW, 0, none⟩) Har.out.bgW.lt).trans q1
      have k1 : ∀ y : Cls (OldS wr), y.w.cell? ⟨G.gR, 1, none⟩ = some (.string (t.s0.wr.extract 0 t.s1.rd)) := fun y => (y.h.cell (p := ⟨G.gR, 1, none⟩) Har.out.bgR.lt).trans q2
      clear q1 q2
      generalize t.s0.wr.extract 0 t.s1.rd = Y at *
      rw [← s1] at hm1
      clear s1 hle
      have cf : ∀ (vals : Array Value) (w : World), (callFunc 14 vals).run Try.prog w = .ok (.enter 14 vals) w := fun _ _ => by kernel_rfl
      have cf2 : ∀ (vals : Array Value) (w : World), (callFunc 10 vals).run Try.prog w = .ok (.enter 10 vals) w := fun _ _ => by kernel_rfl
      have f1 : ∀ W, (Instr.field 29 (.agg #[.bool t.s0.opn, .string t.s0.wr, .int .i64 (t.s0.rd : Int), .bool t.s0.cl, .bool t.s0.eof, .bool t.s0.dd]) 1).run Try.prog W = .ok (.string t.s0.wr) W := fun _ => by kernel_rfl
      have f2 : ∀ W, (Instr.field 29 (.agg #[.bool t.s1.opn, .string t.s1.wr, .int .i64 (Y.size : Int), .bool t.s1.cl, .bool t.s1.eof, .bool t.s1.dd]) 2).run Try.prog W = .ok (.int .i64 (Y.size : Int)) W := fun _ => by kernel_rfl
      have Hm0 := Lib.hid hm0
      have Hm1 := Lib.hid hm1
      have Hm2 := Lib.hid hm2
      have Cf := Lib.hid cf
      have Cf2 := Lib.hid cf2
      clear hm0 hm1 hm2 cf cf2
      go_upto_region 43 with fail
      have ne : Nonempty (Cls (OldS wr)) := ⟨⟨wr, hS0⟩⟩
      refine wp_region_flow 19 (OldS wr) (fun w w' => Below w.heap.size w w') (by kernel_rfl) (by kernel_rfl) (by kernel_rfl) (fun w => Below.refl _ _) (OldS.drew hS0) ?_
      simp only [List.take_succ_cons, List.take_zero, List.drop_succ_cons, List.drop_zero]
      repeat (first
        | (refine flow_quiet (fun w => Below.refl _ _) rfl rfl rfl rfl ?_; intro K hK; go_big_quiet_op; go_big_quiet_on)
        | (refine flow_call Cf.out _ ?_ rfl rfl rfl _ Hm0.out wr ?_; (focus (simp only [List.map_toArray, List.map_cons, List.map_nil]; rfl)); intro K hK; go_big_quiet_op; go_big_quiet_on)
        | (refine flow_call Cf.out _ ?_ rfl rfl rfl _ Hm1.out wr ?_; (focus (simp only [List.map_toArray, List.map_cons, List.map_nil]; rfl)); intro K hK; go_big_quiet_op; go_big_quiet_on)
        | (refine flow_call Cf2.out _ ?_ rfl rfl rfl _ Hm2.out wr ?_; (focus (simp)); intro K hK; go_big_quiet_op; go_big_quiet_on))
      refine flow_nil ?_
      intro W f hW hF
      have hBW := HB.out.trans (Below.mono hW HB.out.size)
      have HBW := Lib.hid hBW
      clear hBW hW hF k0 k1 f1 f2 ne hS0
      simp only [fillW]
      go_wp2
      go_ret
      exact ⟨rfl, HBW.out⟩
theorem walk (a0 : Option Addr) (len0 cap0 : Nat) (w : World) (w0 : StrRows2 w [(.inl (.inl .i64)), (.inl (.inl .u8)), (.inl (.inr false))] a0 len0) :
    Calls Try.prog 4 #[.slice a0 len0 cap0] w fun e w' => e = .returned (.bool true) ∧ Below w.heap.size w w' := by
  obtain ⟨l, hl, hs⟩ := rows_acts w0
  have := w0.1
  unfold maxLen at this
  exact core a0 len0 cap0 l w hl hs (by omega)

theorem own : ownKnob Try.prog.godebug = none := by kernel_rfl
theorem laidOut : laidOutB Try.prog = true := by kernel_rfl
set_option maxRecDepth 100000 in
theorem lifted (os : Os) (started : os.Started) (H : Type) (enc : TypeId × Value → H) :
    ReturnsInHanded {} Try.checked os 4 .any (Rows.traceTellsSpec.pre6 enc Try.prog Try.f4 Rows.traceTellsRow.domain false) (Rows.traceTellsSpec.post enc Try.prog Try.f4 false true false false) := by
  refine returnsInHanded_of_change_sized (C := Try.checked) own started (by kernel_rfl) Try.func4
    (ChangeSpec.witness6 (enc := enc) (C := Try.checked) false ⟨#[], #[.slice none 0 0], []⟩ 8 (by kernel_rfl) (by kernel_rfl) (by kernel_rfl) (by kernel_rfl)) ?_
  intro W base args ds gs before hval0 hW hcnd hsz0 _
  have hsz : (DataW.weightsEach Try.prog (Try.f4.params.toList ++ Rows.traceTellsSpec.plain.varTypes Try.prog) (ds ++ gs)).all (· ≤ reachBytes) = true := hsz0
  have hval : ∀ (j : Nat) t v, Try.f4.params[j]? = some t → args[j]? = some v → Value.okWide Try.prog W .any base t v := hval0
  have hW' := hW
  obtain ⟨p, q, hA0, hV, rfl, hfz, hnd⟩ := hW
  have hA : DataW.TrodAll enc Try.prog W 0 (fun _ => true) true Try.f4.params.toList args.toList ds p := hA0
  rw [Try.params4] at hA hval
  obtain ⟨v0, vs0, d0, ds0, p0, q0, hargs, rfl, rfl, h0, r0⟩ := trodAll_cons hA
  obtain ⟨rfl, rfl, rfl⟩ := trodAll_nil r0
  obtain rfl : args = #[v0] := by cases args; simp_all
  obtain ⟨rfl, rfl⟩ := trodVars_none hV
  obtain ⟨a0, len0, cap0, rfl⟩ := okWide_slice Try.underlying22 (hval 0 22 v0 rfl rfl)
  have k0 := h0
  have lt0 : ∀ x ∈ p0, x.block < W.heap.size := by obtain ⟨m, hm⟩ := k0; exact DataW.trod_lt m _ _ _ hm
  have w0 : StrRows2 W [(.inl (.inl .i64)), (.inl (.inl .u8)), (.inl (.inr false))] a0 len0 := str_rows2 Try.underlying22 Try.underlying36 (by kernel_rfl) (by kernel_rfl) (by kernel_rfl) (by decide) h0 (reach_of hsz 0 rfl rfl)
  clear hA0 hval0
  refine (walk a0 len0 cap0 W w0).mono fun e W' ⟨he, bel⟩ => ?_
  subst he
  exact ⟨_, rfl, _, _, _, [], _, [], hW', trodAll_mk1 (shut_bool Try.underlying4 _), (trodAll_cons_mk (Below.trod laidOut (by kernel_rfl) (of_decide_eq_true (by kernel_rfl)) k0 bel lt0) trodAll_mk0), rfl, bel.frame _, fun h => by cases h⟩

theorem over : Rows.traceTellsRow.holds Try.pinned (OpenSpec.ofChange Rows.traceTellsSpec) :=
  OpenClaim.holds_of_wide 4 Try.f4 rfl rfl rfl rfl rfl rfl rfl ⟨rfl, rfl, rfl, rfl, rfl⟩ rfl rfl rfl rfl rfl (by kernel_rfl) Try.func4 (by kernel_rfl)
    (of_decide_eq_true (by kernel_rfl)) (by unfold Func.isWrapper; first | (rw [if_pos (by decide +kernel)]; kernel_rfl) | (rw [if_neg (by decide +kernel)]; exact ⟨rfl, rfl⟩))
    (fun os started H enc _ => lifted os started H enc)

/-- THE STATEMENT -/
theorem proved : Rows.TraceTellsSaid := over
#print axioms proved
end Go.Proofs.Ytcdbbdjabccjdaa.traceTells
