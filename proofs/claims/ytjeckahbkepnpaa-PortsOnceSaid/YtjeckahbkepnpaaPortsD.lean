/- Layer 11 (ports): Take. -/
import Derived.Test.YtjeckahbkepnpaaPortsC
set_option linter.unusedVariables false
set_option linter.unusedSimpArgs false
namespace Go.Proofs.Ytjeckahbkepnpaa
open Go.RowKit Go.Maps Go.BigFrame

set_option maxRecDepth 100000 in
theorem take_arg {w : World} {b m1 m2 k : Nat} {s : Po} (h : PoAt w b m1 m2 s k) (t : Int) (ht : ¬ may t) :
    Calls Try.prog 8 #[.pointer (some ⟨b, 0, none⟩), .int .i64 t] w fun e w' => e = .returned (.tuple #[.int .u16 0, .int .i64 2]) ∧ w' = w := by
  have hc3 := h.blk.cell 3
  simp [poCells] at hc3
  have hem := eq_map_p m1
  have hm := may_no t ht w
  clear h ht
  go_enter Try.func8, Try.ntmps8
  go_wp2
  go_step3
  go_wp2_with (go_at_call 11; with_reducible refine hm.mono ?_; rintro e w1 ⟨rfl, rfl⟩)
  rw [Exit.noGoto_ret]
  go_ret2
  exact ⟨rfl, rfl⟩
theorem seek_step (s : Po) (t : Int) (k p : Nat) : s.seek t (k + 1) p = if s.ok t p = true then some p else s.seek t k (s.nxt p) := rfl
theorem nxt_in (s : Po) (h : s.low ≤ s.high) (p : Nat) (h1 : s.low ≤ p) (h2 : p ≤ s.high) : s.low ≤ s.nxt p ∧ s.nxt p ≤ s.high := by
  unfold Po.nxt; split <;> omega
/-- between New and the end: what the loop of Take stands at -/
theorem seek_in (s : Po) (t : Int) (h : s.low ≤ s.high) : ∀ k p r, s.low ≤ p → p ≤ s.high → s.seek t k p = some r → s.low ≤ r ∧ r ≤ s.high ∧ s.ok t r = true := by
  intro k
  induction k with
  | zero => intro p r _ _ e; cases e
  | succ k ih =>
    intro p r h1 h2 e
    rw [seek_step] at e
    by_cases ho : s.ok t p = true
    · rw [if_pos ho] at e; injection e with e; subst e; exact ⟨h1, h2, ho⟩
    · rw [if_neg ho] at e
      have := nxt_in s h p h1 h2
      exact ih _ _ this.1 this.2 e
set_option maxRecDepth 100000 in
set_option maxHeartbeats 1000000 in
theorem take_full {w : World} {b m1 m2 k : Nat} {s : Po} (h : PoAt w b m1 m2 s k) (t : Int) (ht : may t) (hf : s.seek t (s.high + 1 - s.low) s.cur = none) :
    Calls Try.prog 8 #[.pointer (some ⟨b, 0, none⟩), .int .i64 t] w fun e w' => e = .returned (.tuple #[.int .u16 0, .int .i64 6]) ∧ ∃ q, w' = w.drewN q := by
  have hc0 := h.blk.cell 0
  have hc1 := h.blk.cell 1
  have hc2 := h.blk.cell 2
  have hc3 := h.blk.cell 3
  have hc4 := h.blk.cell 4
  simp [poCells] at hc0 hc1 hc2 hc3 hc4
  have hem := eq_map_p m1
  have hm := may_yes t ht.1 ht.2 w
  obtain ⟨q1, q2, q3, q4⟩ := h.lo
  obtain ⟨lo, hlo⟩ : ∃ x, x = s.low := ⟨_, rfl⟩
  obtain ⟨hi, hhi⟩ : ∃ x, x = s.high := ⟨_, rfl⟩
  obtain ⟨cu, hcu⟩ : ∃ x, x = s.cur := ⟨_, rfl⟩
  obtain ⟨R, hR⟩ : ∃ R : Option Nat, R = none := ⟨_, rfl⟩
  rw [← hR] at hf
  rw [← hlo] at hc0 q1 q2 hf
  rw [← hhi] at hc1 q3 q4 hf
  rw [← hcu] at hc2 q2 q3 hf
  have H := Lib.hid h
  have HQ := Lib.hid hf
  clear h hf ht
  have Hlo := Lib.hid hlo
  clear hlo
  have Hhi := Lib.hid hhi
  clear hhi
  have Hcu := Lib.hid hcu
  clear hcu
  have HR := Lib.hid hR
  clear hR
  go_enter Try.func8, Try.ntmps8
  go_wp2
  go_step3
  go_wp2_with (go_at_call 11; with_reducible refine hm.mono ?_; rintro e w1 ⟨rfl, hw⟩; rw [hw]; clear hw)
  go_step3
  go_wp2
  go_quiet (fail)
  obtain ⟨W6, hW6⟩ : ∃ W6, W6 = w.drewN nq := ⟨_, rfl⟩
  have H6 : Hid (PoAt W6 b m1 m2 s k) := Lib.hid (by rw [hW6]; exact H.out.drewN nq)
  have d3 : W6.cell? ⟨b, 3, none⟩ = some (.map (some m1)) := by rw [hW6]; exact hc3
  have d4 : W6.cell? ⟨b, 4, none⟩ = some (.map (some m2)) := by rw [hW6]; exact hc4
  rw [← hW6]
  clear hc0 hc1 hc2 hc3 hc4
  have HW6 := Lib.hid hW6
  clear hW6
  go_wp2
  go_loopw [4, 5, 36] (fun v4 v5 v36 wr => ∃ (i p : Nat), v4 = .int .u16 p ∧ v5 = .int .i64 6 ∧ v36 = .int .i64 i ∧ lo ≤ p ∧ p ≤ hi ∧ i ≤ hi + 1 - lo ∧ wr = W6 ∧ Hid (s.seek t (hi + 1 - lo - i) p = R)) (fun _ _ v36 _ => hi + 1 - lo - (intOf v36).toNat)
  case atStart => exact ⟨0, cu, rfl, rfl, rfl, q2, q3, Nat.zero_le _, rfl, HQ⟩
  case round =>
    clear HQ
    obtain ⟨i, p, rfl, rfl, rfl, h1, h2, h3, rfl, HS⟩ := hrel
    have hp6 : p < 65536 := by omega
    by_cases hi3 : i < hi + 1 - lo
    · have hi3z : (i : Int) < (hi : Int) - (lo : Int) + 1 := by omega
      have hl1 := H6.out.look1 hp6
      have hl2 := H6.out.look2 hp6
      have hbh := behind_any H6.out.blk (by rw [← Hhi.out]; exact q4) p (by rw [← Hhi.out]; exact h2)
      have hn := nxt_in s (by rw [← Hlo.out, ← Hhi.out]; omega) p (by rw [← Hlo.out]; exact h1) (by rw [← Hhi.out]; exact h2)
      rw [← Hlo.out, ← Hhi.out] at hn
      have hst := seek_step s t (hi + 1 - lo - (i + 1)) p
      rw [show hi + 1 - lo - (i + 1) + 1 = hi + 1 - lo - i by omega, HS.out] at hst
      have hok : s.ok t p = (!s.L p && decide (s.U p ≤ t)) := rfl
      by_cases ho : s.ok t p = true
      · rw [if_pos ho, HR.out] at hst
        cases hst
      · rw [if_neg ho] at hst
        obtain ⟨x, hx⟩ : ∃ x, x = s.nxt p := ⟨_, rfl⟩
        rw [← hx] at hbh hn hst
        obtain ⟨u, hu⟩ : ∃ u, u = s.U p := ⟨_, rfl⟩
        rw [← hu] at hl2 hok
        cases hL : s.L p
        · rw [hL, if_neg (by decide)] at hl1
          rw [hL] at hok
          have hut : ¬ u ≤ t := fun h => ho (by rw [hok]; simp [h])
          clear ho hok
          have Hst := Lib.hid hst
          clear hst
          have Hx := Lib.hid hx
          clear hx
          have Hu := Lib.hid hu
          clear hu
          have HL := Lib.hid hL
          clear hL
          go_wp2_with (go_at_call 12; with_reducible refine hbh.mono ?_; rintro e w2 ⟨rfl, hw⟩; rw [hw]; clear hw)
          go_roundw
          case rel => exact ⟨i + 1, x, rfl, rfl, by go_num, hn.1, hn.2, by omega, by trivial, Lib.hid Hst.out.symm⟩
          case measure => simp [intOf]; omega
        · rw [hL, if_pos rfl] at hl1
          clear ho hok
          have Hst := Lib.hid hst
          clear hst
          have Hx := Lib.hid hx
          clear hx
          have Hu := Lib.hid hu
          clear hu
          have HL := Lib.hid hL
          clear hL
          go_wp2_with (go_at_call 12; with_reducible refine hbh.mono ?_; rintro e w2 ⟨rfl, hw⟩; rw [hw]; clear hw)
          go_roundw
          case rel => exact ⟨i + 1, x, rfl, rfl, by go_num, hn.1, hn.2, by omega, by trivial, Lib.hid Hst.out.symm⟩
          case measure => simp [intOf]; omega
    · have hi3z : ¬ (i : Int) < (hi : Int) - (lo : Int) + 1 := by omega
      go_wp2
      go_ret2
      exact ⟨rfl, nq, HW6.out⟩

/-! the entry of a taken port, and the place behind it, written in one assignment -/
def tkCells (s : Po) (m1 m2 x : Nat) (_ b2 : Bool) : Array Value := #[.int .u16 (s.low : Int), .int .u16 (s.high : Int), .int .u16 ((if b2 = true then x else s.cur : Nat) : Int), .map (some m1), .map (some m2)]
theorem tk_inj (s : Po) (m1 m2 x : Nat) : ∀ b1 b2 c1 c2, tkCells s m1 m2 x b1 b2 = tkCells s m1 m2 x c1 c2 → tkCells s m1 m2 x true b2 = tkCells s m1 m2 x true c2 ∧ tkCells s m1 m2 x b1 true = tkCells s m1 m2 x c1 true :=
  fun b1 b2 c1 c2 h => ⟨h, rfl⟩
def tkU (q : Two) : List (Nat × (World → Prop)) := [(9, fun w => w.heap[q.b2]? = some q.P0), (11, fun w => w.heap[q.b2]? = some q.P0 ∨ w.heap[q.b2]? = some q.P1)]
structure TakeTwo (b m1 m2 p n1 : Nat) (f : Bool → Bool → Array Value) (M : Lit → Option Value) (Wx : World) (q : Two) (st : Nat) : Prop where
  b1 : q.b1 = m2
  b2 : q.b2 = m1
  ok : TwoOk q Wx.heap.size
  u0 : ∀ u ∈ tkU q, u.2 Wx.drew
  e9 : ∀ W, SThree q b 42 f Wx W → untilU (tkU q) 9 W → ∃ W', (Instr.mapEntry 40 (.map (some m1)) (.int .u16 (p : Int))).run Try.prog W = .ok (.tuple #[.int .i64 0, goInt st]) W' ∧ F3 q [] W' ∧ SThree q b 42 f Wx W' ∧ RThree q b 42 f 9 11 99999 14 9 W W'
  e11 : ∀ W, SThree q b 42 f Wx W → F3 q [] W → untilU (tkU q) 11 W → ∃ W', (Instr.entryStore 40 (.map (some m1)) (goInt st) (.int .i64 1)).run Try.prog W = .ok () W' ∧ F4 q [] W' ∧ SThree q b 42 f Wx W' ∧ RThree q b 42 f 9 11 99999 14 11 W W'
  f4 : ∀ W, F4 q [] W → MapIs Try.prog 22 W m1 (n1 + 1) (updM M (.int .u16 (p : Int)) (some (.int .i64 1)))
theorem take_two {Wx : World} {b m1 m2 p n1 : Nat} {f : Bool → Bool → Array Value} {M : Lit → Option Value} (h1 : MapIs Try.prog 22 Wx m1 n1 M) (h2 : m2 < Wx.heap.size) (hne : m1 ≠ m2) (hb : b ≠ m1) (hp : p < 65536) (hno : M (.int .u16 (p : Int)) = none) (hn : n1 < maxLen) :
    ∃ q st, TakeTwo b m1 m2 p n1 f M Wx q st := by
  obtain ⟨st, B0, B1, B2, b1, b2, b3, b4, b5, b6, b7⟩ := h1.entry law16 Try.underlying40 hn zeroI (key16 hp) hno
  refine ⟨⟨m2, m1, .map #[] 0, .map #[] 1, fun _ => .map #[] 2, B0, B1, B2, .int .i64 1⟩, st, rfl, rfl, ?_, ?_, ?_, ?_, ?_⟩
  · exact ⟨hne.symm, h2, h1.lt, (fun e => by injection e with _ e; cases e), (fun _ e => by injection e with _ e; cases e), (fun _ e => by injection e with _ e; cases e), b5, b6 _, b7 _ (by intro e; injection e with _ e; cases e)⟩
  · intro u hu
    simp only [tkU, List.mem_cons, List.mem_nil_iff, or_false] at hu
    rcases hu with rfl | rfl
    · exact b1
    · exact .inl b1
  · intro W hS hut
    have h0 := hut _ (List.mem_cons_self) rfl
    exact ⟨_, b2 W h0, ⟨_, set_at _ h0, b5.symm⟩, hS.set2 _ hb h0, .inl (.inr (.inr (.inr (.inl ⟨rfl, h0, rfl⟩))))⟩
  · intro W hS hF hut
    have h1 : W.heap[m1]? = some B1 := by
      rcases hut _ (List.mem_cons_of_mem _ (List.mem_cons_self)) rfl with h0 | h0
      · obtain ⟨o, q1, q2⟩ := hF
        have h0 : W.heap[m1]? = some B0 := h0
        simp only at q1 q2
        exact absurd (Option.some.inj (q1.symm.trans h0)) q2
      · exact h0
    exact ⟨_, b3 W _ h1, set_at _ h1, hS.set2 _ hb h1, .inl (.inr (.inr (.inr (.inr ⟨rfl, h1, rfl⟩))))⟩
  · intro W hh
    exact b4 W _ hh
theorem tkStore {s : Po} {b m1 m2 x : Nat} {W Wx : World} {q : Two} (hsz : ∀ w : World, (sizeOf 22).run Try.prog w = .ok 1 w) (h : SThree q b 42 (tkCells s m1 m2 x) Wx W) :
    ∃ W', (Instr.storeAt 22 (.pointer (some ⟨b, 2, none⟩)) (.int .u16 (x : Int))).run Try.prog W = .ok () W' ∧ G2 b 42 (tkCells s m1 m2 x) [] W' ∧ SThree q b 42 (tkCells s m1 m2 x) Wx W' ∧ RThree q b 42 (tkCells s m1 m2 x) 9 11 99999 14 14 W W' := by
  obtain ⟨b1, b2, hk⟩ := h.2
  obtain ⟨W', r1, r2, r3⟩ := run_storeAt_is (P := Try.prog) (g := b) (base := 2) (t := 22) (val := .int .u16 (x : Int)) (vs := [.int .u16 (x : Int)]) rfl (hsz W) hk (by simp [tkCells]) (by intro v hv; simp at hv; rcases hv with rfl; rfl)
  have e1 : putCells (tkCells s m1 m2 x b1 b2) 2 [.int .u16 (x : Int)] = tkCells s m1 m2 x b1 true := by simp [putCells, tkCells]
  rw [e1] at r2
  exact ⟨W', r1, ⟨b1, r2⟩, h.setG r3 r2, .inr ⟨r3, .inr ⟨rfl, b1, b2, hk, r2⟩⟩⟩
theorem took_L (s : Po) (p q : Nat) : (s.took p).L q = if q = p then true else s.L q := rfl
theorem poL_took {s : Po} {M : Lit → Option Value} {p : Nat} (hp : p < 65536) (h : poL s M) : poL (s.took p) (updM M (.int .u16 (p : Int)) (some (.int .i64 1))) := by
  intro q hq
  by_cases e : q = p
  · subst e
    have e1 : (s.took q).L q = true := by rw [took_L, if_pos rfl]
    rw [updM_same, e1]; rfl
  · have e1 : (s.took p).L q = s.L q := by rw [took_L, if_neg e]
    rw [updM_other M _ (by intro e2; apply e; injection e2 with _ e2; omega), h q hq, e1]
theorem PoAt.b_ne {w : World} {b m1 m2 k : Nat} {s : Po} (h : PoAt w b m1 m2 s k) : b ≠ m1 ∧ b ≠ m2 := by
  obtain ⟨n1, M1, _, hM1, _⟩ := h.ml
  obtain ⟨n2, M2, _, hM2, _⟩ := h.mu
  constructor
  · rintro rfl
    obtain ⟨es, c, q1, _⟩ := hM1.size
    have := h.blk; unfold Blk at this; rw [q1] at this; cases this
  · rintro rfl
    obtain ⟨es, c, q1, _⟩ := hM2.size
    have := h.blk; unfold Blk at this; rw [q1] at this; cases this
theorem take_end {Wx W : World} {b m1 m2 k p n1 x st : Nat} {s : Po} {M : Lit → Option Value} {q : Two} (h : PoAt Wx b m1 m2 s k) (hx : x = s.nxt p) (hlp : s.low ≤ p ∧ p ≤ s.high) (hn1 : n1 ≤ k) (hL : poL s M) (hp : p < 65536) (hq : TakeTwo b m1 m2 p n1 (tkCells s m1 m2 x) M Wx q st)
    (hW : SThree q b 42 (tkCells s m1 m2 x) Wx W) (h4 : F4 q [] W) (h2 : G2 b 42 (tkCells s m1 m2 x) [] W) : PoAt W b m1 m2 (s.took p) (k + 1) ∧ Out (fun i => i = b ∨ i = m1 ∨ i = m2) Wx W := by
  have hout : Out (fun i => i = b ∨ i = m1) Wx W := hW.1.mono (fun i _ e => by rw [hq.b2] at e; exact e)
  obtain ⟨b1, hk⟩ := h2
  obtain ⟨n2, M2, hn2, hM2, hU⟩ := h.mu
  obtain ⟨e1, e2⟩ := h.b_ne
  have hnx := nxt_in s (by have := h.lo; omega) p hlp.1 hlp.2
  refine ⟨⟨?_, ⟨_, _, Nat.succ_le_succ hn1, hq.f4 W h4, poL_took hp hL⟩, ⟨n2, M2, Nat.le_succ_of_le hn2, hM2.of_eq (hout.block _ hM2.lt ?_), hU⟩, h.ne, ?_⟩, hout.mono (fun i _ e => e.elim .inl (fun e => .inr (.inl e)))⟩
  · rw [hx] at hk; exact hk
  · rintro (e | e)
    · exact e2 e.symm
    · exact h.ne e.symm
  · have := h.lo
    exact ⟨this.1, hnx.1, hnx.2, this.2.2.2⟩
end Go.Proofs.Ytjeckahbkepnpaa
