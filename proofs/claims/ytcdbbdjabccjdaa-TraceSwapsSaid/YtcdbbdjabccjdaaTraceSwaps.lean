/- The statement TraceSwaps: two acts of two ends that may happen in either order make the same trace; what may happen of a trace may happen of each of its beginnings; for any acts, any two more. -/
import Derived.Test.YtcdbbdjabccjdaaTraceP
set_option linter.unusedVariables false
set_option linter.unusedSimpArgs false
namespace Go.Proofs.Ytcdbbdjabccjdaa.traceSwaps
open Go.ChangeShapes Go.WideShapes Go.ChangeAt Go.RowKit
open Go.ChangeMaps (open_string shut_string)

theorem neqS (s : Sd) (W : World) : (binOp .neq 29 (.agg (sdC s)) (.agg (sdC s))).run Try.prog W = .ok (.bool false) W := neq_same s W
/-- two traces, and two acts beside them -/
structure Duo (w : World) (b1 b2 ga gb : Nat) (ca cb : Array Value) (t u : Tr) (wr : World) : Prop where
  t1 : TrAt wr b1 t
  t2 : TrAt wr b2 u
  xa : Blk wr ga 36 ca
  xb : Blk wr gb 36 cb
  bl : Below w.heap.size w wr
section
variable {w : World} {b1 b2 ga gb : Nat} {ca cb : Array Value} {t u : Tr} {wr w' : World}
theorem act_ne {g b : Nat} {cs : Array Value} {t : Tr} (h : Blk wr g 36 cs) (ht : TrAt wr b t) : some g ≠ some b := fun e => by
  injection e with e
  exact Blk.ne_ h ht (by decide) e
theorem Duo.below (h : Duo w b1 b2 ga gb ca cb t u wr) (hb : Below wr.heap.size wr w') : Duo w b1 b2 ga gb ca cb t u w' :=
  ⟨h.t1.below hb h.t1.lt, h.t2.below hb h.t2.lt, h.xa.below hb h.xa.lt, h.xb.below hb h.xb.lt, h.bl.trans (hb.mono h.bl.size)⟩
theorem Duo.do1 {t' : Tr} (h : Duo w b1 b2 ga gb ca cb t u wr) (hne : b1 ≠ b2) (hw : w.heap.size ≤ b1) (ht : TrAt w' b1 t') (hg : wr.grownBy w' (some b1)) : Duo w b1 b2 ga gb ca cb t' u w' :=
  ⟨ht, h.t2.grown hg (by intro e; injection e with e; exact hne e.symm), h.xa.grown hg (act_ne h.xa h.t1), h.xb.grown hg (act_ne h.xb h.t1), below_only h.bl hg hw h.bl.size⟩
theorem Duo.do2 {u' : Tr} (h : Duo w b1 b2 ga gb ca cb t u wr) (hne : b1 ≠ b2) (hw : w.heap.size ≤ b2) (ht : TrAt w' b2 u') (hg : wr.grownBy w' (some b2)) : Duo w b1 b2 ga gb ca cb t u' w' :=
  ⟨h.t1.grown hg (by intro e; injection e with e; exact hne e), ht, h.xa.grown hg (act_ne h.xa h.t2), h.xb.grown hg (act_ne h.xb h.t2), below_only h.bl hg hw h.bl.size⟩
end
set_option maxRecDepth 100000 in
set_option maxHeartbeats 2000000 in
theorem core (a0 : Option Addr) (len0 cap0 : Nat) (l : List AAct) (e1 : Int) (d1 : Nat) (s1 : ByteArray) (e2 : Int) (d2 : Nat) (s2 : ByteArray) (w : World) (hrow : ARow w a0 len0 l) (hsz : ∀ k, k < len0 → (l.getD k aNil).s.size ≤ 140737488351232) (hlen : len0 ≤ 9223372036854775807)
    (hcap : len0 ≤ cap0 ∧ cap0 ≤ 9223372036854775807 ∧ (a0 = none → len0 = 0 ∧ cap0 = 0)) (hs1 : (s1.size : Int) ≤ 9223372036854775807) (hs2 : (s2.size : Int) ≤ 9223372036854775807) :
    Calls Try.prog 5 #[.slice a0 len0 cap0, .agg #[.int .i64 e1, .int .u8 (d1 : Int), .string s1], .agg #[.int .i64 e2, .int .u8 (d2 : Int), .string s2]] w fun e w' => e = .returned (.bool true) ∧ Below w.heap.size w w' := by
  have Hrow := Lib.hid hrow
  clear hrow
  have Hsz := Lib.hid hsz
  clear hsz
  by_cases h1 : (1024 : Int) < s1.size
  · have hb0 : Below w.heap.size w w := Below.refl _ _
    have HB := Lib.hid hb0
    clear hb0
    go_enter Try.func5, Try.ntmps5
    go_wp2_with fail
    have hxa := Blk.alloc (Blk.new w 36 #[.int .i64 e1, .int .u8 (d1 : Int), .string s1]) (.cells #[.int .i64 e2, .int .u8 (d2 : Int), .string s2] 36)
    have hxb := Blk.new (w.alloc (.cells #[.int .i64 e1, .int .u8 (d1 : Int), .string s1] 36)) 36 #[.int .i64 e2, .int .u8 (d2 : Int), .string s2]
    rw [show (w.alloc (.cells #[.int .i64 e1, .int .u8 (d1 : Int), .string s1] 36)).heap.size = w.heap.size + 1 by simp] at hxb
    have hB := Below.alloc (Below.alloc (HB.out) (Nat.le_trans HB.out.size (by simp <;> omega)) (.cells #[.int .i64 e1, .int .u8 (d1 : Int), .string s1] 36)) (Nat.le_trans HB.out.size (by simp <;> omega)) (.cells #[.int .i64 e2, .int .u8 (d2 : Int), .string s2] 36)
    clear HB
    obtain ⟨gxb, hgexb⟩ : ∃ g, g = w.heap.size + 1 := ⟨_, rfl⟩
    rw [← hgexb] at hxb ⊢
    obtain ⟨gxa, hgexa⟩ : ∃ g, g = w.heap.size := ⟨_, rfl⟩
    rw [← hgexa] at hxa ⊢
    have hne_xa_xb : gxa ≠ gxb := by omega
    have hle_xa : w.heap.size ≤ gxa := by omega
    have hle_xb : w.heap.size ≤ gxb := by omega
    clear hgexa hgexb
    generalize (w.alloc _).alloc _ = wn1 at *
    have Hxa := Lib.hid hxa
    clear hxa
    have Hxb := Lib.hid hxb
    clear hxb
    have HB := Lib.hid hB
    clear hB
    rename_i wn
    clear hne_xa_xb
    have hrow := Hrow.out.below HB.out
    have hhv := heavy_at _ a0 len0 cap0 l hrow Hsz.out hlen
    clear hrow
    have Hhv := Lib.hid hhv
    clear hhv
    refine Hhv.out.mono ?_
    clear Hhv
    rintro e w2 ⟨r, rfl, rfl, hr⟩
    have Hr := Lib.hid hr
    clear hr
    have p0 := Hxa.out.cell 0
    have p1 := Hxa.out.cell 1
    have p2 := Hxa.out.cell 2
    simp at p0 p1 p2
    have q0 := Hxb.out.cell 0
    have q1 := Hxb.out.cell 1
    have q2 := Hxb.out.cell 2
    simp at q0 q1 q2
    cases r
    all_goals
      go_wp2_with fail
      refine (alive31 _).mono ?_
      rintro e w9 ⟨rfl, hb9⟩
      have hB9 := HB.out.trans (hb9.mono HB.out.size)
      have HB9 := Lib.hid hB9
      clear hB9
      clear hb9 HB
      go_wp2
      go_ret
      exact ⟨rfl, HB9.out⟩
  by_cases h2 : (1024 : Int) < s2.size
  · have hb0 : Below w.heap.size w w := Below.refl _ _
    have HB := Lib.hid hb0
    clear hb0
    go_enter Try.func5, Try.ntmps5
    go_wp2_with fail
    have hxa := Blk.alloc (Blk.new w 36 #[.int .i64 e1, .int .u8 (d1 : Int), .string s1]) (.cells #[.int .i64 e2, .int .u8 (d2 : Int), .string s2] 36)
    have hxb := Blk.new (w.alloc (.cells #[.int .i64 e1, .int .u8 (d1 : Int), .string s1] 36)) 36 #[.int .i64 e2, .int .u8 (d2 : Int), .string s2]
    rw [show (w.alloc (.cells #[.int .i64 e1, .int .u8 (d1 : Int), .string s1] 36)).heap.size = w.heap.size + 1 by simp] at hxb
    have hB := Below.alloc (Below.alloc (HB.out) (Nat.le_trans HB.out.size (by simp <;> omega)) (.cells #[.int .i64 e1, .int .u8 (d1 : Int), .string s1] 36)) (Nat.le_trans HB.out.size (by simp <;> omega)) (.cells #[.int .i64 e2, .int .u8 (d2 : Int), .string s2] 36)
    clear HB
    obtain ⟨gxb, hgexb⟩ : ∃ g, g = w.heap.size + 1 := ⟨_, rfl⟩
    rw [← hgexb] at hxb ⊢
    obtain ⟨gxa, hgexa⟩ : ∃ g, g = w.heap.size := ⟨_, rfl⟩
    rw [← hgexa] at hxa ⊢
    have hne_xa_xb : gxa ≠ gxb := by omega
    have hle_xa : w.heap.size ≤ gxa := by omega
    have hle_xb : w.heap.size ≤ gxb := by omega
    clear hgexa hgexb
    generalize (w.alloc _).alloc _ = wn2 at *
    have Hxa := Lib.hid hxa
    clear hxa
    have Hxb := Lib.hid hxb
    clear hxb
    have HB := Lib.hid hB
    clear hB
    rename_i wn
    clear hne_xa_xb
    have hrow := Hrow.out.below HB.out
    have hhv := heavy_at _ a0 len0 cap0 l hrow Hsz.out hlen
    clear hrow
    have Hhv := Lib.hid hhv
    clear hhv
    refine Hhv.out.mono ?_
    clear Hhv
    rintro e w2 ⟨r, rfl, rfl, hr⟩
    have Hr := Lib.hid hr
    clear hr
    have p0 := Hxa.out.cell 0
    have p1 := Hxa.out.cell 1
    have p2 := Hxa.out.cell 2
    simp at p0 p1 p2
    have q0 := Hxb.out.cell 0
    have q1 := Hxb.out.cell 1
    have q2 := Hxb.out.cell 2
    simp at q0 q1 q2
    cases r
    all_goals
      go_wp2_with fail
      refine (alive31 _).mono ?_
      rintro e w9 ⟨rfl, hb9⟩
      have hB9 := HB.out.trans (hb9.mono HB.out.size)
      have HB9 := Lib.hid hB9
      clear hB9
      clear hb9 HB
      go_wp2
      go_ret
      exact ⟨rfl, HB9.out⟩
  by_cases h3 : e1 = e2
  · have h3b : (e1 == e2) = true := by simpa using h3
    have H3 := Lib.hid h3
    clear h3
    have hb0 : Below w.heap.size w w := Below.refl _ _
    have HB := Lib.hid hb0
    clear hb0
    go_enter Try.func5, Try.ntmps5
    go_wp2_with fail
    have hxa := Blk.alloc (Blk.new w 36 #[.int .i64 e1, .int .u8 (d1 : Int), .string s1]) (.cells #[.int .i64 e2, .int .u8 (d2 : Int), .string s2] 36)
    have hxb := Blk.new (w.alloc (.cells #[.int .i64 e1, .int .u8 (d1 : Int), .string s1] 36)) 36 #[.int .i64 e2, .int .u8 (d2 : Int), .string s2]
    rw [show (w.alloc (.cells #[.int .i64 e1, .int .u8 (d1 : Int), .string s1] 36)).heap.size = w.heap.size + 1 by simp] at hxb
    have hB := Below.alloc (Below.alloc (HB.out) (Nat.le_trans HB.out.size (by simp <;> omega)) (.cells #[.int .i64 e1, .int .u8 (d1 : Int), .string s1] 36)) (Nat.le_trans HB.out.size (by simp <;> omega)) (.cells #[.int .i64 e2, .int .u8 (d2 : Int), .string s2] 36)
    clear HB
    obtain ⟨gxb, hgexb⟩ : ∃ g, g = w.heap.size + 1 := ⟨_, rfl⟩
    rw [← hgexb] at hxb ⊢
    obtain ⟨gxa, hgexa⟩ : ∃ g, g = w.heap.size := ⟨_, rfl⟩
    rw [← hgexa] at hxa ⊢
    have hne_xa_xb : gxa ≠ gxb := by omega
    have hle_xa : w.heap.size ≤ gxa := by omega
    have hle_xb : w.heap.size ≤ gxb := by omega
    clear hgexa hgexb
    generalize (w.alloc _).alloc _ = wn3 at *
    have Hxa := Lib.hid hxa
    clear hxa
    have Hxb := Lib.hid hxb
    clear hxb
    have HB := Lib.hid hB
    clear hB
    rename_i wn
    clear hne_xa_xb
    have hrow := Hrow.out.below HB.out
    have hhv := heavy_at _ a0 len0 cap0 l hrow Hsz.out hlen
    clear hrow
    have Hhv := Lib.hid hhv
    clear hhv
    refine Hhv.out.mono ?_
    clear Hhv
    rintro e w2 ⟨r, rfl, rfl, hr⟩
    have Hr := Lib.hid hr
    clear hr
    have p0 := Hxa.out.cell 0
    have p1 := Hxa.out.cell 1
    have p2 := Hxa.out.cell 2
    simp at p0 p1 p2
    have q0 := Hxb.out.cell 0
    have q1 := Hxb.out.cell 1
    have q2 := Hxb.out.cell 2
    simp at q0 q1 q2
    cases r
    all_goals
      go_wp2_with fail
      refine (alive31 _).mono ?_
      rintro e w9 ⟨rfl, hb9⟩
      have hB9 := HB.out.trans (hb9.mono HB.out.size)
      have HB9 := Lib.hid hB9
      clear hB9
      clear hb9 HB
      go_wp2
      go_ret
      exact ⟨rfl, HB9.out⟩
  have h3b : (e1 == e2) = false := by simpa using h3
  have H3 := Lib.hid h3
  clear h3
  have hb0 : Below w.heap.size w w := Below.refl _ _
  have HB := Lib.hid hb0
  clear hb0
  go_enter Try.func5, Try.ntmps5
  go_wp2_with fail
  have hxa := Blk.alloc (Blk.new w 36 #[.int .i64 e1, .int .u8 (d1 : Int), .string s1]) (.cells #[.int .i64 e2, .int .u8 (d2 : Int), .string s2] 36)
  have hxb := Blk.new (w.alloc (.cells #[.int .i64 e1, .int .u8 (d1 : Int), .string s1] 36)) 36 #[.int .i64 e2, .int .u8 (d2 : Int), .string s2]
  rw [show (w.alloc (.cells #[.int .i64 e1, .int .u8 (d1 : Int), .string s1] 36)).heap.size = w.heap.size + 1 by simp] at hxb
  have hB := Below.alloc (Below.alloc (HB.out) (Nat.le_trans HB.out.size (by simp <;> omega)) (.cells #[.int .i64 e1, .int .u8 (d1 : Int), .string s1] 36)) (Nat.le_trans HB.out.size (by simp <;> omega)) (.cells #[.int .i64 e2, .int .u8 (d2 : Int), .string s2] 36)
  clear HB
  obtain ⟨gxb, hgexb⟩ : ∃ g, g = w.heap.size + 1 := ⟨_, rfl⟩
  rw [← hgexb] at hxb ⊢
  obtain ⟨gxa, hgexa⟩ : ∃ g, g = w.heap.size := ⟨_, rfl⟩
  rw [← hgexa] at hxa ⊢
  have hne_xa_xb : gxa ≠ gxb := by omega
  have hle_xa : w.heap.size ≤ gxa := by omega
  have hle_xb : w.heap.size ≤ gxb := by omega
  clear hgexa hgexb
  generalize (w.alloc _).alloc _ = wn4 at *
  have Hxa := Lib.hid hxa
  clear hxa
  have Hxb := Lib.hid hxb
  clear hxb
  have HB := Lib.hid hB
  clear hB
  rename_i wn
  clear hne_xa_xb
  have hrow := Hrow.out.below HB.out
  have hhv := heavy_at _ a0 len0 cap0 l hrow Hsz.out hlen
  clear hrow
  have Hhv := Lib.hid hhv
  clear hhv
  refine Hhv.out.mono ?_
  clear Hhv
  rintro e w2 ⟨r, rfl, rfl, hr⟩
  have Hr := Lib.hid hr
  clear hr
  have p0 := Hxa.out.cell 0
  have p1 := Hxa.out.cell 1
  have p2 := Hxa.out.cell 2
  simp at p0 p1 p2
  have q0 := Hxb.out.cell 0
  have q1 := Hxb.out.cell 1
  have q2 := Hxb.out.cell 2
  simp at q0 q1 q2
  cases r
  case true =>
    go_wp2_with fail
    refine (alive31 _).mono ?_
    rintro e w9 ⟨rfl, hb9⟩
    have hB9 := HB.out.trans (hb9.mono HB.out.size)
    have HB9 := Lib.hid hB9
    clear hB9
    clear hb9 HB
    go_wp2
    go_ret
    exact ⟨rfl, HB9.out⟩
  obtain ⟨h200, hsm⟩ := Hr.out rfl
  have hlr := Hrow.out.1
  have Hsm := Lib.hid hsm
  clear hsm
  clear Hr Hsz
  go_wp2_with fail
  (with_reducible refine (new_at _).mono ?_)
  rintro e w2 ⟨b1, rfl, hb1, ht1, hB1⟩
  go_wp2_with fail
  (with_reducible refine (new_at _).mono ?_)
  rintro e w3 ⟨b2, rfl, hb2, ht2, hB2⟩
  have hne : b1 ≠ b2 := by have := ht1.lt; omega
  have hw1 := Nat.le_trans HB.out.size hb1
  have hw2 := Nat.le_trans (Nat.le_trans HB.out.size hB1.size) hb2
  have hduo : Duo w b1 b2 gxa gxb #[.int .i64 e1, .int .u8 (d1 : Int), .string s1] #[.int .i64 e2, .int .u8 (d2 : Int), .string s2] T0 T0 w3 :=
    ⟨ht1.below hB2 ht1.lt, ht2, (Hxa.out.below hB1 Hxa.out.lt).below hB2 (Nat.lt_of_lt_of_le Hxa.out.lt hB1.size), (Hxb.out.below hB1 Hxb.out.lt).below hB2 (Nat.lt_of_lt_of_le Hxb.out.lt hB1.size), (HB.out.trans (hB1.mono HB.out.size)).trans (hB2.mono (Nat.le_trans HB.out.size hB1.size))⟩
  have Hduo := Lib.hid hduo
  clear hduo
  have Hne := Lib.hid hne
  clear hne
  have Hw1 := Lib.hid hw1
  clear hw1
  have Hw2 := Lib.hid hw2
  clear hw2
  have Hlr := Lib.hid hlr
  clear hlr
  clear ht1 ht2 hB1 hB2 hb1 hb2 HB Hxa Hxb p0 p1 p2 q0 q1 q2 hle_xa hle_xb
  go_wp2
  go_loopw [9] (fun i wr => ∃ k : Nat, k ≤ len0 ∧ i = .int .i64 (k : Int) ∧ ∃ t, Szd t ∧ Duo w b1 b2 gxa gxb #[.int .i64 e1, .int .u8 (d1 : Int), .string s1] #[.int .i64 e2, .int .u8 (d2 : Int), .string s2] t t wr) (fun i _ => len0 - (intOf i).toNat)
  case atStart => exact ⟨0, Nat.zero_le _, rfl, T0, szd_0, Hduo.out⟩
  case round =>
    obtain ⟨k, hk, rfl, t, hz, hduo⟩ := hrel
    clear Hduo
    by_cases hlt : k < len0
    · obtain ⟨r, off, rfl, hrl, y0, y1, y2⟩ := Hrow.out.2 k hlt
      have hsk := Hsm.out k
      generalize hx : l.getD k aNil = x at *
      clear hx
      obtain ⟨e, d, s⟩ := x
      simp only at y0 y1 y2 hsk
      have z0 := (hduo.bl.cell (p := ⟨r, off + k * 3, none⟩) hrl).trans y0
      have z1 := (hduo.bl.cell (p := ⟨r, off + k * 3 + 1, none⟩) hrl).trans y1
      have z2 := (hduo.bl.cell (p := ⟨r, off + k * 3 + 2, none⟩) hrl).trans y2
      have e1' : decide (k < len0) = true := decide_eq_true hlt
      have hdo := do_at wr b1 t e d s hduo.t1 hz (by omega)
      have hdo2 := fun W (h : TrAt W b2 t) => do_at W b2 t e d s h hz (by omega)
      have hz' := szd_do t e d s hz
      generalize doM t e d s = rr at *
      obtain ⟨re, rt⟩ := rr
      have Hdo := Lib.hid hdo
      clear hdo
      have Hdo2 := Lib.hid hdo2
      clear hdo2
      have Hz' := Lib.hid hz'
      clear hz'
      have Hduo := Lib.hid hduo
      clear hduo
      have Y0 := Lib.hid y0
      clear y0
      have Y1 := Lib.hid y1
      clear y1
      have Y2 := Lib.hid y2
      clear y2
      clear hz hsk
      go_wp2_with fail
      refine Hdo.out.mono ?_
      rintro rv w5 ⟨rfl, ht5, hg5⟩
      have hduo := Hduo.out.do1 Hne.out Hw1.out ht5 hg5
      have z0 := (hduo.bl.cell (p := ⟨r, off + k * 3, none⟩) hrl).trans Y0.out
      have z1 := (hduo.bl.cell (p := ⟨r, off + k * 3 + 1, none⟩) hrl).trans Y1.out
      have z2 := (hduo.bl.cell (p := ⟨r, off + k * 3 + 2, none⟩) hrl).trans Y2.out
      have hdo := Hdo2.out w5 hduo.t2
      clear Hduo Hdo Hdo2 hg5 ht5
      have Hduo := Lib.hid hduo
      clear hduo
      have Hdo := Lib.hid hdo
      clear hdo
      go_wp2_with fail
      refine Hdo.out.mono ?_
      rintro rv w6 ⟨rfl, ht6, hg6⟩
      have hduo := Hduo.out.do2 Hne.out Hw2.out ht6 hg6
      clear Hduo Hdo hg6 ht6
      have hrel : ∃ t, Szd t ∧ Duo w b1 b2 gxa gxb #[.int .i64 e1, .int .u8 (d1 : Int), .string s1] #[.int .i64 e2, .int .u8 (d2 : Int), .string s2] t t w6 := ⟨rt, Hz'.out, hduo⟩
      have Hrel := Lib.hid hrel
      clear hrel
      clear hduo
      go_wp2
      go_roundw
      case rel => exact ⟨k + 1, by omega, by go_num, Hrel.out⟩
      case measure => simp [intOf]; omega
    · obtain rfl : k = len0 := by omega
      have e1' : decide (k < k) = false := by simp
      have c0 := hduo.xa.cell 0
      have c1 := hduo.xa.cell 1
      have c2 := hduo.xa.cell 2
      have c3 := hduo.xb.cell 0
      have c4 := hduo.xb.cell 1
      have c5 := hduo.xb.cell 2
      simp at c0 c1 c2 c3 c4 c5
      have hsw := @swap t ⟨e1, d1, s1⟩ ⟨e2, d2, s2⟩ H3.out
      have o1 := fun W u (hu : Szd u) (h : TrAt W b1 u) => do_at W b1 u e1 d1 s1 h hu (by omega)
      have o2 := fun W u (hu : Szd u) (h : TrAt W b1 u) => do_at W b1 u e2 d2 s2 h hu (by omega)
      have o3 := fun W u (hu : Szd u) (h : TrAt W b2 u) => do_at W b2 u e2 d2 s2 h hu (by omega)
      have o4 := fun W u (hu : Szd u) (h : TrAt W b2 u) => do_at W b2 u e1 d1 s1 h hu (by omega)
      have hd1 := o1 wr t hz hduo.t1
      simp only [stepA] at hsw
      have hza := szd_do t e1 d1 s1 hz
      have hzb := szd_do t e2 d2 s2 hz
      have hzab := szd_do _ e2 d2 s2 hza
      have hzba := szd_do _ e1 d1 s1 hzb
      generalize hA : doM t e1 d1 s1 = rA at *
      obtain ⟨qa, ta⟩ := rA
      simp only at hsw hza hzab
      generalize hAB : doM ta e2 d2 s2 = rB at *
      obtain ⟨qb, tb⟩ := rB
      simp only at hsw hzab
      generalize hC : doM t e2 d2 s2 = rC at *
      obtain ⟨qc, tc⟩ := rC
      simp only at hsw hzb hzba
      generalize hD : doM tc e1 d1 s1 = rD at *
      obtain ⟨qd, td⟩ := rD
      simp only at hsw hzba
      have hd2 := fun W (h : TrAt W b1 ta) => o2 W ta hza h
      have hd3 := fun W (h : TrAt W b2 t) => o3 W t hz h
      have hd4 := fun W (h : TrAt W b2 tc) => o4 W tc hzb h
      rw [hAB] at hd2
      rw [hC] at hd3
      rw [hD] at hd4
      obtain ⟨n, c, hnc, hn, hpre⟩ : ∃ (n : Nat) (c : Int), allM T0 l 0 = (n, c) ∧ n ≤ k ∧ allM T0 (l.take n) 0 = (n, 0) := by
        obtain ⟨_, h2, h3⟩ := all_prefix l T0 0
        exact ⟨_, _, rfl, by rw [Hlr.out] at h2; omega, by simpa using h3⟩
      have hall := fun W (h : ARow W a0 k l) => all_at W a0 k cap0 l h hlen fun j => Nat.le_trans (Hsm.out j) (by decide)
      have hall2 := fun W (h : ARow W a0 n (l.take n)) => all_at W a0 n cap0 (l.take n) h (by omega) (small_of fun x hx => by
        obtain ⟨i, hi, rfl⟩ := List.getElem_of_mem hx
        have hi2 : i < l.length := by rw [List.length_take] at hi; omega
        have := Hsm.out i
        simp only [List.getD, List.getElem?_eq_getElem hi2, Option.getD_some] at this
        rw [List.getElem_take]
        omega)
      rw [hnc] at hall
      rw [hpre] at hall2
      clear hnc hpre o1 o2 o3 o4 hza hzab hzb hzba hA hAB hC hD hz Hsm
      have Hsw := Lib.hid hsw
      clear hsw
      have Hd1 := Lib.hid hd1
      clear hd1
      have Hd2 := Lib.hid hd2
      clear hd2
      have Hd3 := Lib.hid hd3
      clear hd3
      have Hd4 := Lib.hid hd4
      clear hd4
      have Hduo := Lib.hid hduo
      clear hduo
      have Hall := Lib.hid hall
      clear hall
      have Hall2 := Lib.hid hall2
      clear hall2
      go_wp2_with fail
      refine Hd1.out.mono ?_
      rintro rv w5 ⟨rfl, ht5, hg5⟩
      have hduo := Hduo.out.do1 Hne.out Hw1.out ht5 hg5
      clear Hduo Hd1 c0 c1 c2 c3 c4 c5 ht5 hg5
      have c3 := hduo.xb.cell 0
      have c4 := hduo.xb.cell 1
      have c5 := hduo.xb.cell 2
      simp at c3 c4 c5
      have hd := Hd2.out w5 hduo.t1
      clear Hd2
      have Hd := Lib.hid hd
      clear hd
      have Hduo := Lib.hid hduo
      clear hduo
      go_wp2_with fail
      refine Hd.out.mono ?_
      rintro rv w6 ⟨rfl, ht6, hg6⟩
      have hduo := Hduo.out.do1 Hne.out Hw1.out ht6 hg6
      clear Hduo Hd c3 c4 c5 ht6 hg6
      have c3 := hduo.xb.cell 0
      have c4 := hduo.xb.cell 1
      have c5 := hduo.xb.cell 2
      simp at c3 c4 c5
      have hd := Hd3.out w6 hduo.t2
      clear Hd3
      have Hd := Lib.hid hd
      clear hd
      have Hduo := Lib.hid hduo
      clear hduo
      go_wp2_with fail
      refine Hd.out.mono ?_
      rintro rv w7 ⟨rfl, ht7, hg7⟩
      have hduo := Hduo.out.do2 Hne.out Hw2.out ht7 hg7
      clear Hduo Hd c3 c4 c5 ht7 hg7
      have c3 := hduo.xa.cell 0
      have c4 := hduo.xa.cell 1
      have c5 := hduo.xa.cell 2
      simp at c3 c4 c5
      have hd := Hd4.out w7 hduo.t2
      clear Hd4
      have Hd := Lib.hid hd
      clear hd
      have Hduo := Lib.hid hduo
      clear hduo
      go_wp2_with fail
      refine Hd.out.mono ?_
      rintro rv w8 ⟨rfl, ht8, hg8⟩
      have hduo := Hduo.out.do2 Hne.out Hw2.out ht8 hg8
      clear Hduo Hd c3 c4 c5 ht8 hg8
      have Hduo := Lib.hid hduo
      clear hduo
      by_cases z1 : qa = 0
      case neg =>
        have z1b : (qa == 0) = false := by simpa using z1
        clear z1
        have HBd := Lib.hid Hduo.out.bl
        clear Hduo Hsw
        have hc := Hall.out _ (Hrow.out.below HBd.out)
        clear Hall
        have Hc := Lib.hid hc
        clear hc
        go_wp2_with fail
        refine Hc.out.mono ?_
        clear Hc
        rintro rv wa ⟨rfl, hba⟩
        have hB := HBd.out.trans (hba.mono HBd.out.size)
        clear HBd hba
        have HB := Lib.hid hB
        clear hB
        have n1 : (0 : Int) ≤ (n : Int) := by omega
        have n2 : decide ((n : Int) < 0) = false := decide_eq_false (by omega)
        have n3 : decide (k < n) = false := decide_eq_false (by omega)
        have hc := Hall2.out _ ((Hrow.out.below HB.out).take hn)
        clear Hall2
        have Hc := Lib.hid hc
        clear hc
        obtain ⟨hcap1, hcap2, hcap3⟩ := hcap
        have n4 : (n : Int) ≤ (cap0 : Int) := by omega
        have n5 : (cap0 : Int) ≤ 9223372036854775807 := by omega
        go_wp2_with fail
        refine Hc.out.mono ?_
        clear Hc
        rintro rv wb ⟨rfl, hbb⟩
        have hB := HB.out.trans (hbb.mono HB.out.size)
        clear HB hbb
        have HB := Lib.hid hB
        clear hB
        go_wp2_with fail
        refine (alive31 _).mono ?_
        rintro e wc ⟨rfl, hbc⟩
        have hB := HB.out.trans (hbc.mono HB.out.size)
        clear HB hbc
        have HB := Lib.hid hB
        clear hB
        go_wp2
        go_ret
        exact ⟨rfl, HB.out⟩
      by_cases z2 : qb = 0
      case neg =>
        have z2b : (qb == 0) = false := by simpa using z2
        subst z1
        clear z2
        have HBd := Lib.hid Hduo.out.bl
        clear Hduo Hsw
        have hc := Hall.out _ (Hrow.out.below HBd.out)
        clear Hall
        have Hc := Lib.hid hc
        clear hc
        go_wp2_with fail
        refine Hc.out.mono ?_
        clear Hc
        rintro rv wa ⟨rfl, hba⟩
        have hB := HBd.out.trans (hba.mono HBd.out.size)
        clear HBd hba
        have HB := Lib.hid hB
        clear hB
        have n1 : (0 : Int) ≤ (n : Int) := by omega
        have n2 : decide ((n : Int) < 0) = false := decide_eq_false (by omega)
        have n3 : decide (k < n) = false := decide_eq_false (by omega)
        have hc := Hall2.out _ ((Hrow.out.below HB.out).take hn)
        clear Hall2
        have Hc := Lib.hid hc
        clear hc
        obtain ⟨hcap1, hcap2, hcap3⟩ := hcap
        have n4 : (n : Int) ≤ (cap0 : Int) := by omega
        have n5 : (cap0 : Int) ≤ 9223372036854775807 := by omega
        go_wp2_with fail
        refine Hc.out.mono ?_
        clear Hc
        rintro rv wb ⟨rfl, hbb⟩
        have hB := HB.out.trans (hbb.mono HB.out.size)
        clear HB hbb
        have HB := Lib.hid hB
        clear hB
        go_wp2_with fail
        refine (alive31 _).mono ?_
        rintro e wc ⟨rfl, hbc⟩
        have hB := HB.out.trans (hbc.mono HB.out.size)
        clear HB hbc
        have HB := Lib.hid hB
        clear hB
        go_wp2
        go_ret
        exact ⟨rfl, HB.out⟩
      by_cases z3 : qc = 0
      case neg =>
        have z3b : (qc == 0) = false := by simpa using z3
        subst z1 z2
        clear z3
        have HBd := Lib.hid Hduo.out.bl
        clear Hduo Hsw
        have hc := Hall.out _ (Hrow.out.below HBd.out)
        clear Hall
        have Hc := Lib.hid hc
        clear hc
        go_wp2_with fail
        refine Hc.out.mono ?_
        clear Hc
        rintro rv wa ⟨rfl, hba⟩
        have hB := HBd.out.trans (hba.mono HBd.out.size)
        clear HBd hba
        have HB := Lib.hid hB
        clear hB
        have n1 : (0 : Int) ≤ (n : Int) := by omega
        have n2 : decide ((n : Int) < 0) = false := decide_eq_false (by omega)
        have n3 : decide (k < n) = false := decide_eq_false (by omega)
        have hc := Hall2.out _ ((Hrow.out.below HB.out).take hn)
        clear Hall2
        have Hc := Lib.hid hc
        clear hc
        obtain ⟨hcap1, hcap2, hcap3⟩ := hcap
        have n4 : (n : Int) ≤ (cap0 : Int) := by omega
        have n5 : (cap0 : Int) ≤ 9223372036854775807 := by omega
        go_wp2_with fail
        refine Hc.out.mono ?_
        clear Hc
        rintro rv wb ⟨rfl, hbb⟩
        have hB := HB.out.trans (hbb.mono HB.out.size)
        clear HB hbb
        have HB := Lib.hid hB
        clear hB
        go_wp2_with fail
        refine (alive31 _).mono ?_
        rintro e wc ⟨rfl, hbc⟩
        have hB := HB.out.trans (hbc.mono HB.out.size)
        clear HB hbc
        have HB := Lib.hid hB
        clear hB
        go_wp2
        go_ret
        exact ⟨rfl, HB.out⟩
      by_cases z4 : qd = 0
      case neg =>
        have z4b : (qd == 0) = false := by simpa using z4
        subst z1 z2 z3
        clear z4
        have HBd := Lib.hid Hduo.out.bl
        clear Hduo Hsw
        have hc := Hall.out _ (Hrow.out.below HBd.out)
        clear Hall
        have Hc := Lib.hid hc
        clear hc
        go_wp2_with fail
        refine Hc.out.mono ?_
        clear Hc
        rintro rv wa ⟨rfl, hba⟩
        have hB := HBd.out.trans (hba.mono HBd.out.size)
        clear HBd hba
        have HB := Lib.hid hB
        clear hB
        have n1 : (0 : Int) ≤ (n : Int) := by omega
        have n2 : decide ((n : Int) < 0) = false := decide_eq_false (by omega)
        have n3 : decide (k < n) = false := decide_eq_false (by omega)
        have hc := Hall2.out _ ((Hrow.out.below HB.out).take hn)
        clear Hall2
        have Hc := Lib.hid hc
        clear hc
        obtain ⟨hcap1, hcap2, hcap3⟩ := hcap
        have n4 : (n : Int) ≤ (cap0 : Int) := by omega
        have n5 : (cap0 : Int) ≤ 9223372036854775807 := by omega
        go_wp2_with fail
        refine Hc.out.mono ?_
        clear Hc
        rintro rv wb ⟨rfl, hbb⟩
        have hB := HB.out.trans (hbb.mono HB.out.size)
        clear HB hbb
        have HB := Lib.hid hB
        clear hB
        go_wp2_with fail
        refine (alive31 _).mono ?_
        rintro e wc ⟨rfl, hbc⟩
        have hB := HB.out.trans (hbc.mono HB.out.size)
        clear HB hbc
        have HB := Lib.hid hB
        clear hB
        go_wp2
        go_ret
        exact ⟨rfl, HB.out⟩
      subst z1 z2 z3 z4
      obtain rfl : tb = td := Hsw.out rfl rfl rfl rfl
      clear Hsw
      have hq0 := neqS tb.s0
      have hq1 := neqS tb.s1
      have hs := side_0 w8 b1 tb Hduo.out.t1
      have Hs := Lib.hid hs
      clear hs
      go_wp2_with fail
      refine Hs.out.mono ?_
      clear Hs
      rintro rv w9 ⟨rfl, hbs⟩
      have hduo := Hduo.out.below hbs
      clear Hduo hbs
      have hs := side_0 w9 b2 tb hduo.t2
      have Hs := Lib.hid hs
      have Hduo := Lib.hid hduo
      clear hduo
      have Hs := Lib.hid hs
      clear hs
      go_wp2_with fail
      refine Hs.out.mono ?_
      clear Hs
      rintro rv w10 ⟨rfl, hbs⟩
      have hduo := Hduo.out.below hbs
      clear Hduo hbs
      have hs := side_1 w10 b1 tb hduo.t1
      have Hs := Lib.hid hs
      have Hduo := Lib.hid hduo
      clear hduo
      have Hs := Lib.hid hs
      clear hs
      go_wp2_with fail
      refine Hs.out.mono ?_
      clear Hs
      rintro rv w11 ⟨rfl, hbs⟩
      have hduo := Hduo.out.below hbs
      clear Hduo hbs
      have hs := side_1 w11 b2 tb hduo.t2
      have Hs := Lib.hid hs
      have Hduo := Lib.hid hduo
      clear hduo
      have hlast := Hs.out
      clear Hs
      have Hlast := Lib.hid hlast
      clear hlast
      go_wp2_with fail
      refine Hlast.out.mono ?_
      rintro rv w12 ⟨rfl, hb12⟩
      have hduo := Hduo.out.below hb12
      clear Hduo hb12 Hlast
      have hcc1 := cause_at w12 b1 tb hduo.t1
      have hcc2 := cause_at w12 b2 tb hduo.t2
      have Hcc1 := Lib.hid hcc1
      clear hcc1
      have Hcc2 := Lib.hid hcc2
      clear hcc2
      have Hduo := Lib.hid hduo
      clear hduo
      go_wp2_with fail
      refine Hcc1.out.mono ?_
      rintro rv w13 ⟨rfl, rfl⟩
      go_wp2_with fail
      refine Hcc2.out.mono ?_
      rintro rv w14 ⟨rfl, rfl⟩
      have HBd := Lib.hid Hduo.out.bl
      clear Hduo
      have hc := Hall.out _ (Hrow.out.below HBd.out)
      clear Hall
      have Hc := Lib.hid hc
      clear hc
      go_wp2_with fail
      refine Hc.out.mono ?_
      clear Hc
      rintro rv wa ⟨rfl, hba⟩
      have hB := HBd.out.trans (hba.mono HBd.out.size)
      clear HBd hba
      have HB := Lib.hid hB
      clear hB
      have n1 : (0 : Int) ≤ (n : Int) := by omega
      have n2 : decide ((n : Int) < 0) = false := decide_eq_false (by omega)
      have n3 : decide (k < n) = false := decide_eq_false (by omega)
      have hc := Hall2.out _ ((Hrow.out.below HB.out).take hn)
      clear Hall2
      have Hc := Lib.hid hc
      clear hc
      obtain ⟨hcap1, hcap2, hcap3⟩ := hcap
      have n4 : (n : Int) ≤ (cap0 : Int) := by omega
      have n5 : (cap0 : Int) ≤ 9223372036854775807 := by omega
      go_wp2_with fail
      refine Hc.out.mono ?_
      clear Hc
      rintro rv wb ⟨rfl, hbb⟩
      have hB := HB.out.trans (hbb.mono HB.out.size)
      clear HB hbb
      have HB := Lib.hid hB
      clear hB
      go_wp2_with fail
      refine (alive31 _).mono ?_
      rintro e wc ⟨rfl, hbc⟩
      have hB := HB.out.trans (hbc.mono HB.out.size)
      clear HB hbc
      have HB := Lib.hid hB
      clear hB
      go_wp2
      go_ret
      exact ⟨rfl, HB.out⟩
theorem walk (a0 : Option Addr) (len0 cap0 : Nat) (a1_0 a1_1 : Int) (a1_2 : ByteArray) (a2_0 a2_1 : Int) (a2_2 : ByteArray) (w : World) (w0 : StrRows2 w [(.inl (.inl .i64)), (.inl (.inl .u8)), (.inl (.inr false))] a0 len0)
    (wc0 : len0 ≤ cap0 ∧ cap0 ≤ 9223372036854775807 ∧ (a0 = none → len0 = 0 ∧ cap0 = 0)) (w1_0 : (Lit.int .i64 a1_0).wf = true) (w1_1 : (Lit.int .u8 a1_1).wf = true) (w1_2 : a1_2.size ≤ maxLen) (w2_0 : (Lit.int .i64 a2_0).wf = true) (w2_1 : (Lit.int .u8 a2_1).wf = true) (w2_2 : a2_2.size ≤ maxLen) :
    Calls Try.prog 5 #[.slice a0 len0 cap0, .agg #[.int .i64 a1_0, .int .u8 a1_1, .string a1_2], .agg #[.int .i64 a2_0, .int .u8 a2_1, .string a2_2]] w fun e w' => e = .returned (.bool true) ∧ Below w.heap.size w w' := by
  obtain ⟨l, hl, hs⟩ := rows_acts w0
  obtain ⟨g1, g2⟩ := bounds_u8 w1_1
  obtain ⟨g3, g4⟩ := bounds_u8 w2_1
  unfold maxLen at w1_2 w2_2
  have := core a0 len0 cap0 l a1_0 a1_1.toNat a1_2 a2_0 a2_1.toNat a2_2 w hl hs (by have := wc0.1; have := wc0.2.1; omega) wc0 (by omega) (by omega)
  rw [show ((a1_1.toNat : Nat) : Int) = a1_1 by omega, show ((a2_1.toNat : Nat) : Int) = a2_1 by omega] at this
  exact this

theorem own : ownKnob Try.prog.godebug = none := by kernel_rfl
theorem laidOut : laidOutB Try.prog = true := by kernel_rfl
set_option maxRecDepth 100000 in
theorem lifted (os : Os) (started : os.Started) (H : Type) (enc : TypeId × Value → H) :
    ReturnsInHanded {} Try.checked os 5 .any (Rows.traceSwapsSpec.pre6 enc Try.prog Try.f5 Rows.traceSwapsRow.domain false) (Rows.traceSwapsSpec.post enc Try.prog Try.f5 false true false false) := by
  refine returnsInHanded_of_change_sized (C := Try.checked) own started (by kernel_rfl) Try.func5
    (ChangeSpec.witness6 (enc := enc) (C := Try.checked) false ⟨#[], #[.slice none 0 0, .agg #[.int .i64 0, .int .u8 0, .string ByteArray.empty], .agg #[.int .i64 0, .int .u8 0, .string ByteArray.empty]], []⟩ 8 (by kernel_rfl) (by kernel_rfl) (by kernel_rfl) (by kernel_rfl)) ?_
  intro W base args ds gs before hval0 hW hcnd hsz0 _
  have hsz : (DataW.weightsEach Try.prog (Try.f5.params.toList ++ Rows.traceSwapsSpec.plain.varTypes Try.prog) (ds ++ gs)).all (· ≤ reachBytes) = true := hsz0
  have hval : ∀ (j : Nat) t v, Try.f5.params[j]? = some t → args[j]? = some v → Value.okWide Try.prog W .any base t v := hval0
  have hW' := hW
  obtain ⟨p, q, hA0, hV, rfl, hfz, hnd⟩ := hW
  have hA : DataW.TrodAll enc Try.prog W 0 (fun _ => true) true Try.f5.params.toList args.toList ds p := hA0
  rw [Try.params5] at hA hval
  obtain ⟨v0, vs0, d0, ds0, p0, q0, hargs, rfl, rfl, h0, r0⟩ := trodAll_cons hA
  obtain ⟨v1, vs1, d1, ds1, p1, q1, rfl, rfl, rfl, h1, r1⟩ := trodAll_cons r0
  obtain ⟨v2, vs2, d2, ds2, p2, q2, rfl, rfl, rfl, h2, r2⟩ := trodAll_cons r1
  obtain ⟨rfl, rfl, rfl⟩ := trodAll_nil r2
  obtain rfl : args = #[v0, v1, v2] := by cases args; simp_all
  obtain ⟨rfl, rfl⟩ := trodVars_none hV
  obtain ⟨a0, len0, cap0, rfl⟩ := okWide_slice Try.underlying22 (hval 0 22 v0 rfl rfl)
  have k0 := h0
  have lt0 : ∀ x ∈ p0, x.block < W.heap.size := by obtain ⟨m, hm⟩ := k0; exact DataW.trod_lt m _ _ _ hm
  have w0 : StrRows2 W [(.inl (.inl .i64)), (.inl (.inl .u8)), (.inl (.inr false))] a0 len0 := str_rows2 Try.underlying22 Try.underlying36 (by kernel_rfl) (by kernel_rfl) (by kernel_rfl) (by decide) h0 (reach_of hsz 0 rfl rfl)
  have wc0 := str_caps Try.underlying22 Try.underlying36 (by kernel_rfl) (by kernel_rfl) h0
  have k1 := h1
  have lt1 : ∀ x ∈ p1, x.block < W.heap.size := by obtain ⟨m, hm⟩ := k1; exact DataW.trod_lt m _ _ _ hm
  obtain ⟨c1_0, c1_1, c1_2, y1_0, y1_1, y1_2, m1, rfl, rfl, rfl, hy1_0, hy1_1, hy1_2⟩ := Go.Joins.open_agg3 Try.underlying36 (by kernel_rfl) (by kernel_rfl) (hval 1 36 v1 rfl rfl) h1
  obtain ⟨a1_0, e1_0, rfl, w1_0⟩ := DataW.trod_int Try.underlying3 hy1_0
  simp at e1_0
  subst e1_0
  obtain ⟨a1_1, e1_1, rfl, w1_1⟩ := DataW.trod_int Try.underlying5 hy1_1
  simp at e1_1
  subst e1_1
  obtain ⟨a1_2, e1_2, rfl, w1_2⟩ := DataW.trod_string Try.underlying9 hy1_2
  simp at e1_2
  subst e1_2
  have k2 := h2
  have lt2 : ∀ x ∈ p2, x.block < W.heap.size := by obtain ⟨m, hm⟩ := k2; exact DataW.trod_lt m _ _ _ hm
  obtain ⟨c2_0, c2_1, c2_2, y2_0, y2_1, y2_2, m2, rfl, rfl, rfl, hy2_0, hy2_1, hy2_2⟩ := Go.Joins.open_agg3 Try.underlying36 (by kernel_rfl) (by kernel_rfl) (hval 2 36 v2 rfl rfl) h2
  obtain ⟨a2_0, e2_0, rfl, w2_0⟩ := DataW.trod_int Try.underlying3 hy2_0
  simp at e2_0
  subst e2_0
  obtain ⟨a2_1, e2_1, rfl, w2_1⟩ := DataW.trod_int Try.underlying5 hy2_1
  simp at e2_1
  subst e2_1
  obtain ⟨a2_2, e2_2, rfl, w2_2⟩ := DataW.trod_string Try.underlying9 hy2_2
  simp at e2_2
  subst e2_2
  clear hA0 hval0
  refine (walk a0 len0 cap0 a1_0 a1_1 a1_2 a2_0 a2_1 a2_2 W w0 wc0 w1_0 w1_1 w1_2 w2_0 w2_1 w2_2).mono fun e W' ⟨he, bel⟩ => ?_
  subst he
  exact ⟨_, rfl, _, _, _, [], _, [], hW', trodAll_mk1 (shut_bool Try.underlying4 _), (trodAll_cons_mk (Below.trod laidOut (by kernel_rfl) (of_decide_eq_true (by kernel_rfl)) k0 bel lt0) (trodAll_cons_mk (Below.trod laidOut (by kernel_rfl) (of_decide_eq_true (by kernel_rfl)) k1 bel lt1) (trodAll_cons_mk (Below.trod laidOut (by kernel_rfl) (of_decide_eq_true (by kernel_rfl)) k2 bel lt2) trodAll_mk0))), rfl, bel.frame _, fun h => by cases h⟩

theorem over : Rows.traceSwapsRow.holds Try.pinned (OpenSpec.ofChange Rows.traceSwapsSpec) :=
  OpenClaim.holds_of_wide 5 Try.f5 rfl rfl rfl rfl rfl rfl rfl ⟨rfl, rfl, rfl, rfl, rfl⟩ rfl rfl rfl rfl rfl (by kernel_rfl) Try.func5 (by kernel_rfl)
    (of_decide_eq_true (by kernel_rfl)) (by unfold Func.isWrapper; first | (rw [if_pos (by decide +kernel)]; kernel_rfl) | (rw [if_neg (by decide +kernel)]; exact ⟨rfl, rfl⟩))
    (fun os started H enc _ => lifted os started H enc)

/-- THE STATEMENT -/
theorem proved : Rows.TraceSwapsSaid := over
#print axioms proved
end Go.Proofs.Ytcdbbdjabccjdaa.traceSwaps
