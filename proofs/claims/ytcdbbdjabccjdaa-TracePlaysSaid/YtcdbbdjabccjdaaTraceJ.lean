/- Layer 31 (trace): Do, whatever the act; New, Side, Cause, Over, All. -/
import Derived.Test.YtcdbbdjabccjdaaTraceH
import Derived.Test.YtcdbbdjabccjdaaTraceI
import Derived.Test.YtcdbbdjabccjdaaStructs
import Derived.LoopTactic
set_option linter.unusedVariables false
set_option linter.unusedSimpArgs false
namespace Go.Proofs.Ytcdbbdjabccjdaa
open Go.RowKit Go.BigFrame Go.ChangeMaps

theorem toList_data (s : ByteArray) : s.toList = s.data.toList := ByteArray.toList_eq s
theorem toList_nil (s : ByteArray) : s.toList = [] ↔ s.size = 0 := by
  rw [toList_data]
  obtain ⟨a⟩ := s
  show a.toList = [] ↔ a.size = 0
  simp
/-- bounds of what a trace has -/
def Szd (t : Tr) : Prop := t.s0.wr.size ≤ 1048576 ∧ t.s1.wr.size ≤ 1048576 ∧ t.s0.rd ≤ t.s1.wr.size ∧ t.s1.rd ≤ t.s0.wr.size
theorem prefix_le {x s : ByteArray} {r : Nat} (h : prefixB x r s = true) : s.size ≤ x.size - r := by
  unfold prefixB at h
  simp at h
  have := h.1
  omega
theorem szd_do (t : Tr) (e : Int) (d : Nat) (s : ByteArray) (h : Szd t) : Szd (doM t e d s).2 := by
  unfold doM
  split
  case isFalse => exact h
  split
  case isTrue => exact h
  rename_i hok hnf
  cases hr : ruleM d e.toNat t s with
  | none => exact h
  | some t' =>
    simp only
    obtain ⟨h1, h2, h3, h4⟩ := h
    have hE : e.toNat = 0 ∨ e.toNat = 1 := by
      unfold argOk at hok
      simp only [decide_eq_true_eq] at hok
      omega
    unfold ruleM at hr
    split at hr
    case h_10 => cases hr
    case h_9 => injection hr with hr; subst hr; exact ⟨h1, h2, h3, h4⟩
    all_goals
      split at hr
      case isFalse => cases hr
      rename_i hc
      injection hr with hr
      subst hr
      rcases hE with hE | hE <;> rw [hE] at hc hnf ⊢ <;> simp only [Tr.put, Tr.own, Tr.oth] at hc hnf ⊢
    all_goals first
      | exact ⟨h1, h2, h3, h4⟩
      | skip
    case h_3.isTrue.inl =>
      simp [fullB, Tr.own] at hnf hc
      refine ⟨?_, h2, h3, ?_⟩
      · have := hnf hc.1 hc.2; simpa using this
      · simp; omega
    case h_3.isTrue.inr =>
      simp [fullB, Tr.own] at hnf hc
      refine ⟨h1, ?_, ?_, h4⟩
      · have := hnf hc.1 hc.2; simpa using this
      · simp; omega
    case h_4.isTrue.inl =>
      simp only [Bool.and_eq_true] at hc
      have := prefix_le hc.2.2
      exact ⟨h1, h2, by simp only; omega, h4⟩
    case h_4.isTrue.inr =>
      simp only [Bool.and_eq_true] at hc
      have := prefix_le hc.2.2
      exact ⟨h1, h2, h3, by simp only; omega⟩
theorem do_at (w : World) (b : Nat) (t : Tr) (e : Int) (d : Nat) (s : ByteArray) (h : TrAt w b t) (hz : Szd t) (hs : s.size ≤ 4194304) :
    Calls Try.prog 12 #[.pointer (some ⟨b, 0, none⟩), .agg #[.int .i64 e, .int .u8 (d : Int), .string s]] w (DoPost w b (doM t e d s).1 (doM t e d s).2) := by
  have ho : Okt t s := ⟨hz.1, hz.2.1, hz.2.2.1, hz.2.2.2, hs⟩
  have bad : argOk e d s = false → doM t e d s = (2, t) := fun hb => by unfold doM; rw [hb]; rfl
  by_cases hd : 1 ≤ d ∧ d ≤ 9
  case neg =>
    rw [bad (by unfold argOk; simp; intro h1 h2; omega)]
    exact do_out w b t e d s h (by omega)
  by_cases he0 : e < 0
  · rw [bad (by unfold argOk; simp; intro h1 h2; omega)]
    exact do_neg w b t e d s h hd he0
  by_cases he1 : 1 < e
  · rw [bad (by unfold argOk; simp; intro h1 h2 h3; omega)]
    exact do_big w b t e d s h hd he1
  have hE : e = 0 ∨ e = 1 := by omega
  have n1 : s.size ≠ 0 → (!s.toList.isEmpty) = true ∧ s.toList.isEmpty = false := fun hne => by
    have : s.toList ≠ [] := fun h => hne ((toList_nil s).1 h)
    cases hq : s.toList with
    | nil => exact absurd hq this
    | cons a l => exact ⟨rfl, rfl⟩
  by_cases hq : d = 3 ∨ d = 4
  · by_cases hs0 : s.size = 0
    · rw [bad (by unfold argOk; simp [hs0]; omega)]
      rcases hE with hE | hE
      · exact do_text_0 w b t e d h hd hE hq s ((toList_nil s).2 hs0)
      · exact do_text_1 w b t e d h hd hE hq s ((toList_nil s).2 hs0)
    · obtain ⟨q1, q2⟩ := n1 hs0
      have hok : argOk e d s = true := by unfold argOk; simp [hs0]; omega
      unfold doM
      rw [if_pos hok]
      rcases hq with hq | hq
      · -- write
        rcases hE with hE | hE
        · rw [show e.toNat = 0 by omega]
          by_cases hl : t.s0.live = true
          case neg =>
            have hl : t.s0.live = false := by simpa using hl
            have hnf : fullB 0 d t s = false := by unfold fullB; simp [Tr.own, hl]
            have hr : ruleM d 0 t s = none := by subst hq; simp [ruleM, Tr.own, hl]
            rw [hnf, if_neg (by decide), hr]
            exact do_write_dead_0 w b t t e d s h ho hd hE hq q1 q2 hl hr
          by_cases hc : t.s0.cl = true
          · have hnf : fullB 0 d t s = false := by unfold fullB; simp [Tr.own, hc]
            have hr : ruleM d 0 t s = none := by subst hq; simp [ruleM, Tr.own, hc]
            rw [hnf, if_neg (by decide), hr]
            exact do_write_closed_0 w b t t e d s h ho hd hE hq q1 q2 hl hc hr
          · have hc : t.s0.cl = false := by simpa using hc
            by_cases hf : 1048576 < t.s0.wr.size + s.size
            · have hnf : fullB 0 d t s = true := by unfold fullB; simp [Tr.own, hl, hc, hq]; omega
              rw [hnf, if_pos rfl]
              exact do_write_full_0 w b t t e d s h ho hd hE hq q1 q2 hl hc hf
            · have hnf : fullB 0 d t s = false := by unfold fullB; simp [Tr.own, hl, hc, hq]; omega
              have hr : ruleM d 0 t s = some (t.put 0 { t.s0 with wr := t.s0.wr ++ s }) := by subst hq; simp [ruleM, Tr.own, hl, hc]
              rw [hnf, if_neg (by decide), hr]
              exact do_write_fits_0 w b t _ e d s h ho hd hE hq q1 q2 hl hc (by omega) hr
        · rw [show e.toNat = 1 by omega]
          by_cases hl : t.s1.live = true
          case neg =>
            have hl : t.s1.live = false := by simpa using hl
            have hnf : fullB 1 d t s = false := by unfold fullB; simp [Tr.own, hl]
            have hr : ruleM d 1 t s = none := by subst hq; simp [ruleM, Tr.own, hl]
            rw [hnf, if_neg (by decide), hr]
            exact do_write_dead_1 w b t t e d s h ho hd hE hq q1 q2 hl hr
          by_cases hc : t.s1.cl = true
          · have hnf : fullB 1 d t s = false := by unfold fullB; simp [Tr.own, hc]
            have hr : ruleM d 1 t s = none := by subst hq; simp [ruleM, Tr.own, hc]
            rw [hnf, if_neg (by decide), hr]
            exact do_write_closed_1 w b t t e d s h ho hd hE hq q1 q2 hl hc hr
          · have hc : t.s1.cl = false := by simpa using hc
            by_cases hf : 1048576 < t.s1.wr.size + s.size
            · have hnf : fullB 1 d t s = true := by unfold fullB; simp [Tr.own, hl, hc, hq]; omega
              rw [hnf, if_pos rfl]
              exact do_write_full_1 w b t t e d s h ho hd hE hq q1 q2 hl hc hf
            · have hnf : fullB 1 d t s = false := by unfold fullB; simp [Tr.own, hl, hc, hq]; omega
              have hr : ruleM d 1 t s = some (t.put 1 { t.s1 with wr := t.s1.wr ++ s }) := by subst hq; simp [ruleM, Tr.own, hl, hc]
              rw [hnf, if_neg (by decide), hr]
              exact do_write_fits_1 w b t _ e d s h ho hd hE hq q1 q2 hl hc (by omega) hr
      · have hnf : fullB e.toNat d t s = false := by unfold fullB; simp [hq]
        rw [hnf, if_neg (by decide)]
        rcases hE with hE | hE
        · rw [show e.toNat = 0 by omega]
          cases hr : ruleM d 0 t s with
          | none => exact do_read_no_0 w b t t e d s h ho hd hE hq q1 q2 hr
          | some t' => exact do_read_yes_0 w b t t' e d s h ho hd hE hq q1 q2 hr
        · rw [show e.toNat = 1 by omega]
          cases hr : ruleM d 1 t s with
          | none => exact do_read_no_1 w b t t e d s h ho hd hE hq q1 q2 hr
          | some t' => exact do_read_yes_1 w b t t' e d s h ho hd hE hq q1 q2 hr
  · by_cases hs0 : s.size = 0
    · have hok : argOk e d s = true := by unfold argOk; simp [hs0]; omega
      unfold doM
      have hnf : fullB e.toNat d t s = false := by unfold fullB; simp; intro h; omega
      rw [if_pos hok, hnf, if_neg (by decide)]
      have q := (toList_nil s).2 hs0
      rcases hE with hE | hE
      · rw [show e.toNat = 0 by omega]
        cases hr : ruleM d 0 t s with
        | none => exact do_other_no_0 w b t t e d s h ho hd hE (by omega) q hr
        | some t' => exact do_other_yes_0 w b t t' e d s h ho hd hE (by omega) q hr
      · rw [show e.toNat = 1 by omega]
        cases hr : ruleM d 1 t s with
        | none => exact do_other_no_1 w b t t e d s h ho hd hE (by omega) q hr
        | some t' => exact do_other_yes_1 w b t t' e d s h ho hd hE (by omega) q hr
    · obtain ⟨q1, q2⟩ := n1 hs0
      rw [bad (by unfold argOk; simp [hs0]; omega)]
      rcases hE with hE | hE
      · exact do_none_0 w b t e d s h hd hE (by omega) q1 q2
      · exact do_none_1 w b t e d s h hd hE (by omega) q1 q2

/-! New, Side, Cause, Over -/
def T0 : Tr := ⟨⟨false, ⟨#[]⟩, 0, false, false, false⟩, ⟨false, ⟨#[]⟩, 0, false, false, false⟩, false⟩
def sdC (s : Sd) : Array Value := #[.bool s.opn, .string s.wr, .int .i64 (s.rd : Int), .bool s.cl, .bool s.eof, .bool s.dd]
def S0 : Sd := ⟨false, ⟨#[]⟩, 0, false, false, false⟩
theorem new_at (w : World) : Calls Try.prog 11 #[] w fun e w' => ∃ b, e = .returned (.pointer (some ⟨b, 0, none⟩)) ∧ w.heap.size ≤ b ∧ TrAt w' b T0 ∧ Below w.heap.size w w' := by
  go_enter Try.func11, Try.ntmps11
  go_wp2
  go_ret
  refine ⟨w.heap.size, rfl, Nat.le_refl _, Blk.new _ _ _, (Below.refl _ _).alloc (Nat.le_refl _) _⟩
theorem cause_at (w : World) (b : Nat) (t : Tr) (h : TrAt w b t) : Calls Try.prog 15 #[.pointer (some ⟨b, 0, none⟩)] w fun e w' => e = .returned (.bool t.cause) ∧ w = w' := by
  have c12 := h.cell 12
  have c13 := h.cell 13
  simp [trC] at c12 c13
  have hn := none_at w b c13
  have Hn := Lib.hid hn
  clear hn
  clear c13 h
  go_enter Try.func15, Try.ntmps15
  go_wp2_with fail
  (with_reducible refine (Hn.out).mono ?_)
  rintro e w' ⟨rfl, rfl⟩
  go_wp2
  go_ret
  exact ⟨rfl, rfl⟩
theorem cause_nil (w : World) : Calls Try.prog 15 #[.pointer none] w fun e w' => e = .returned (.bool false) ∧ w = w' := by
  go_enter Try.func15, Try.ntmps15
  go_wp2_with fail
  (with_reducible refine (none_nil _).mono ?_)
  rintro e w' ⟨rfl, rfl⟩
  go_wp2
  go_ret
  exact ⟨rfl, rfl⟩
theorem over_nil (w : World) : Calls Try.prog 16 #[.pointer none] w fun e w' => e = .returned (.bool false) ∧ w = w' := by
  go_enter Try.func16, Try.ntmps16
  go_wp2_with fail
  (with_reducible refine (none_nil _).mono ?_)
  rintro e w' ⟨rfl, rfl⟩
  go_wp2
  go_ret
  exact ⟨rfl, rfl⟩
theorem below_set {B : Nat} {a w : World} (h : Below B a w) (g i : Nat) (v : Value) (hg : B ≤ g) : Below B a (w.setCell ⟨g, i, none⟩ v) := h.setCell hg v
theorem side_nil (w : World) (i : Int) : Calls Try.prog 14 #[.pointer none, .int .i64 i] w fun e w' => e = .returned (.agg (sdC S0)) ∧ Below w.heap.size w w' := by
  have hb0 : Below w.heap.size w w := Below.refl _ _
  have HB := Lib.hid hb0
  clear hb0
  go_enter Try.func14, Try.ntmps14
  go_wp2_with fail
  have hx := Blk.new w 29 #[.bool false, .string ⟨#[]⟩, .int .i64 0, .bool false, .bool false, .bool false]
  have hB := HB.out.alloc HB.out.size (.cells #[.bool false, .string ⟨#[]⟩, .int .i64 0, .bool false, .bool false, .bool false] 29)
  clear HB
  obtain ⟨gx, hge⟩ : ∃ g, g = w.heap.size := ⟨_, rfl⟩
  rw [← hge] at hx ⊢
  have hle_x : w.heap.size ≤ gx := by omega
  clear hge
  generalize w.alloc _ = wn1 at *
  have Hx := Lib.hid hx
  clear hx
  have HB := Lib.hid hB
  clear hB
  have hn := none_nil wn1
  (with_reducible refine hn.mono ?_)
  rintro r w' ⟨rfl, rfl⟩
  have hf := fun i => Blk.frozen Hx.out i
  have x0 := Hx.out.cell 0
  have x1 := Hx.out.cell 1
  have x2 := Hx.out.cell 2
  have x3 := Hx.out.cell 3
  have x4 := Hx.out.cell 4
  have x5 := Hx.out.cell 5
  simp at x0 x1 x2 x3 x4 x5
  go_wp2
  have hY := Blk.set_ (Blk.set_ (Blk.set_ (Blk.set_ (Blk.set_ (Blk.set_ Hx.out 0 (.bool S0.opn)) 1 (.string S0.wr)) 2 (.int .i64 (S0.rd : Int))) 3 (.bool S0.cl)) 4 (.bool S0.eof)) 5 (.bool S0.dd)
  have hZ : Blk _ gx 29 (sdC S0) := hY
  have hBZ := below_set (below_set (below_set (below_set (below_set (below_set HB.out gx 0 (.bool S0.opn) hle_x) gx 1 (.string S0.wr) hle_x) gx 2 (.int .i64 (S0.rd : Int)) hle_x) gx 3 (.bool S0.cl) hle_x) gx 4 (.bool S0.eof) hle_x) gx 5 (.bool S0.dd) hle_x
  try dsimp only [S0] at hZ hBZ
  generalize World.setCell _ _ _ = W9 at *
  have x0 := hZ.cell 0
  have x1 := hZ.cell 1
  have x2 := hZ.cell 2
  have x3 := hZ.cell 3
  have x4 := hZ.cell 4
  have x5 := hZ.cell 5
  simp [sdC] at x0 x1 x2 x3 x4 x5
  try dsimp only [S0]
  exact bodyPost_ret (v := .agg (sdC S0)) (by simp [results, Try.results14, go_sem, sdC, S0, x0, x1, x2, x3, x4, x5]) rfl ⟨rfl, hBZ⟩
theorem side_0 (w : World) (b : Nat) (t : Tr) (h : TrAt w b t) : Calls Try.prog 14 #[.pointer (some ⟨b, 0, none⟩), .int .i64 0] w fun e w' => e = .returned (.agg (sdC t.s0)) ∧ Below w.heap.size w w' := by
  have Ht := Lib.hid h
  clear h
  have hb0 : Below w.heap.size w w := Below.refl _ _
  have HB := Lib.hid hb0
  clear hb0
  go_enter Try.func14, Try.ntmps14
  go_wp2_with fail
  have hx := Blk.new w 29 #[.bool false, .string ⟨#[]⟩, .int .i64 0, .bool false, .bool false, .bool false]
  have ht := Blk.alloc Ht.out (.cells #[.bool false, .string ⟨#[]⟩, .int .i64 0, .bool false, .bool false, .bool false] 29)
  clear Ht
  have hB := HB.out.alloc HB.out.size (.cells #[.bool false, .string ⟨#[]⟩, .int .i64 0, .bool false, .bool false, .bool false] 29)
  clear HB
  obtain ⟨gx, hge⟩ : ∃ g, g = w.heap.size := ⟨_, rfl⟩
  rw [← hge] at hx ⊢
  have hle_x : w.heap.size ≤ gx := by omega
  clear hge
  generalize w.alloc _ = wn1 at *
  have Ht := Lib.hid ht
  clear ht
  have Hx := Lib.hid hx
  clear hx
  have HB := Lib.hid hB
  clear hB
  have c13 := Ht.out.cell 13
  simp [trC] at c13
  have hn := none_at wn1 b c13
  (with_reducible refine hn.mono ?_)
  clear hn c13
  rintro r w' ⟨rfl, rfl⟩
  have c0 := Ht.out.cell 0
  have c1 := Ht.out.cell 1
  have c2 := Ht.out.cell 2
  have c3 := Ht.out.cell 3
  have c4 := Ht.out.cell 4
  have c5 := Ht.out.cell 5
  simp [trC] at c0 c1 c2 c3 c4 c5
  have hf := fun i => Blk.frozen Hx.out i
  have x0 := Hx.out.cell 0
  have x1 := Hx.out.cell 1
  have x2 := Hx.out.cell 2
  have x3 := Hx.out.cell 3
  have x4 := Hx.out.cell 4
  have x5 := Hx.out.cell 5
  simp at x0 x1 x2 x3 x4 x5
  go_wp2
  have hY := Blk.set_ (Blk.set_ (Blk.set_ (Blk.set_ (Blk.set_ (Blk.set_ Hx.out 0 (.bool t.s0.opn)) 1 (.string t.s0.wr)) 2 (.int .i64 (t.s0.rd : Int))) 3 (.bool t.s0.cl)) 4 (.bool t.s0.eof)) 5 (.bool t.s0.dd)
  have hZ : Blk _ gx 29 (sdC t.s0) := hY
  have hBZ := below_set (below_set (below_set (below_set (below_set (below_set HB.out gx 0 (.bool t.s0.opn) hle_x) gx 1 (.string t.s0.wr) hle_x) gx 2 (.int .i64 (t.s0.rd : Int)) hle_x) gx 3 (.bool t.s0.cl) hle_x) gx 4 (.bool t.s0.eof) hle_x) gx 5 (.bool t.s0.dd) hle_x
  try dsimp only [S0] at hZ hBZ
  generalize World.setCell _ _ _ = W9 at *
  have x0 := hZ.cell 0
  have x1 := hZ.cell 1
  have x2 := hZ.cell 2
  have x3 := hZ.cell 3
  have x4 := hZ.cell 4
  have x5 := hZ.cell 5
  simp [sdC] at x0 x1 x2 x3 x4 x5
  try dsimp only [S0]
  exact bodyPost_ret (v := .agg (sdC t.s0)) (by simp [results, Try.results14, go_sem, sdC, S0, x0, x1, x2, x3, x4, x5]) rfl ⟨rfl, hBZ⟩
theorem side_1 (w : World) (b : Nat) (t : Tr) (h : TrAt w b t) : Calls Try.prog 14 #[.pointer (some ⟨b, 0, none⟩), .int .i64 1] w fun e w' => e = .returned (.agg (sdC t.s1)) ∧ Below w.heap.size w w' := by
  have Ht := Lib.hid h
  clear h
  have hb0 : Below w.heap.size w w := Below.refl _ _
  have HB := Lib.hid hb0
  clear hb0
  go_enter Try.func14, Try.ntmps14
  go_wp2_with fail
  have hx := Blk.new w 29 #[.bool false, .string ⟨#[]⟩, .int .i64 0, .bool false, .bool false, .bool false]
  have ht := Blk.alloc Ht.out (.cells #[.bool false, .string ⟨#[]⟩, .int .i64 0, .bool false, .bool false, .bool false] 29)
  clear Ht
  have hB := HB.out.alloc HB.out.size (.cells #[.bool false, .string ⟨#[]⟩, .int .i64 0, .bool false, .bool false, .bool false] 29)
  clear HB
  obtain ⟨gx, hge⟩ : ∃ g, g = w.heap.size := ⟨_, rfl⟩
  rw [← hge] at hx ⊢
  have hle_x : w.heap.size ≤ gx := by omega
  clear hge
  generalize w.alloc _ = wn1 at *
  have Ht := Lib.hid ht
  clear ht
  have Hx := Lib.hid hx
  clear hx
  have HB := Lib.hid hB
  clear hB
  have c13 := Ht.out.cell 13
  simp [trC] at c13
  have hn := none_at wn1 b c13
  (with_reducible refine hn.mono ?_)
  clear hn c13
  rintro r w' ⟨rfl, rfl⟩
  have c0 := Ht.out.cell 6
  have c1 := Ht.out.cell 7
  have c2 := Ht.out.cell 8
  have c3 := Ht.out.cell 9
  have c4 := Ht.out.cell 10
  have c5 := Ht.out.cell 11
  simp [trC] at c0 c1 c2 c3 c4 c5
  have hf := fun i => Blk.frozen Hx.out i
  have x0 := Hx.out.cell 0
  have x1 := Hx.out.cell 1
  have x2 := Hx.out.cell 2
  have x3 := Hx.out.cell 3
  have x4 := Hx.out.cell 4
  have x5 := Hx.out.cell 5
  simp at x0 x1 x2 x3 x4 x5
  go_wp2
  have hY := Blk.set_ (Blk.set_ (Blk.set_ (Blk.set_ (Blk.set_ (Blk.set_ Hx.out 0 (.bool t.s1.opn)) 1 (.string t.s1.wr)) 2 (.int .i64 (t.s1.rd : Int))) 3 (.bool t.s1.cl)) 4 (.bool t.s1.eof)) 5 (.bool t.s1.dd)
  have hZ : Blk _ gx 29 (sdC t.s1) := hY
  have hBZ := below_set (below_set (below_set (below_set (below_set (below_set HB.out gx 0 (.bool t.s1.opn) hle_x) gx 1 (.string t.s1.wr) hle_x) gx 2 (.int .i64 (t.s1.rd : Int)) hle_x) gx 3 (.bool t.s1.cl) hle_x) gx 4 (.bool t.s1.eof) hle_x) gx 5 (.bool t.s1.dd) hle_x
  try dsimp only [S0] at hZ hBZ
  generalize World.setCell _ _ _ = W9 at *
  have x0 := hZ.cell 0
  have x1 := hZ.cell 1
  have x2 := hZ.cell 2
  have x3 := hZ.cell 3
  have x4 := hZ.cell 4
  have x5 := hZ.cell 5
  simp [sdC] at x0 x1 x2 x3 x4 x5
  try dsimp only [S0]
  exact bodyPost_ret (v := .agg (sdC t.s1)) (by simp [results, Try.results14, go_sem, sdC, S0, x0, x1, x2, x3, x4, x5]) rfl ⟨rfl, hBZ⟩
theorem side_out (w : World) (b : Nat) (t : Tr) (i : Int) (h : TrAt w b t) (hi : i < 0 ∨ 1 < i) : Calls Try.prog 14 #[.pointer (some ⟨b, 0, none⟩), .int .i64 i] w fun e w' => e = .returned (.agg (sdC S0)) ∧ Below w.heap.size w w' := by
  have Ht := Lib.hid h
  clear h
  rcases hi with hi | hi
  · have hb0 : Below w.heap.size w w := Below.refl _ _
    have HB := Lib.hid hb0
    clear hb0
    go_enter Try.func14, Try.ntmps14
    go_wp2_with fail
    have hx := Blk.new w 29 #[.bool false, .string ⟨#[]⟩, .int .i64 0, .bool false, .bool false, .bool false]
    have ht := Blk.alloc Ht.out (.cells #[.bool false, .string ⟨#[]⟩, .int .i64 0, .bool false, .bool false, .bool false] 29)
    clear Ht
    have hB := HB.out.alloc HB.out.size (.cells #[.bool false, .string ⟨#[]⟩, .int .i64 0, .bool false, .bool false, .bool false] 29)
    clear HB
    obtain ⟨gx, hge⟩ : ∃ g, g = w.heap.size := ⟨_, rfl⟩
    rw [← hge] at hx ⊢
    have hle_x : w.heap.size ≤ gx := by omega
    clear hge
    generalize w.alloc _ = wn1 at *
    have Ht := Lib.hid ht
    clear ht
    have Hx := Lib.hid hx
    clear hx
    have HB := Lib.hid hB
    clear hB
    have c13 := Ht.out.cell 13
    simp [trC] at c13
    have hn := none_at wn1 b c13
    (with_reducible refine hn.mono ?_)
    clear hn c13
    rintro r w' ⟨rfl, rfl⟩
    have hf := fun i => Blk.frozen Hx.out i
    have x0 := Hx.out.cell 0
    have x1 := Hx.out.cell 1
    have x2 := Hx.out.cell 2
    have x3 := Hx.out.cell 3
    have x4 := Hx.out.cell 4
    have x5 := Hx.out.cell 5
    simp at x0 x1 x2 x3 x4 x5
    go_wp2
    have hY := Blk.set_ (Blk.set_ (Blk.set_ (Blk.set_ (Blk.set_ (Blk.set_ Hx.out 0 (.bool S0.opn)) 1 (.string S0.wr)) 2 (.int .i64 (S0.rd : Int))) 3 (.bool S0.cl)) 4 (.bool S0.eof)) 5 (.bool S0.dd)
    have hZ : Blk _ gx 29 (sdC S0) := hY
    have hBZ := below_set (below_set (below_set (below_set (below_set (below_set HB.out gx 0 (.bool S0.opn) hle_x) gx 1 (.string S0.wr) hle_x) gx 2 (.int .i64 (S0.rd : Int)) hle_x) gx 3 (.bool S0.cl) hle_x) gx 4 (.bool S0.eof) hle_x) gx 5 (.bool S0.dd) hle_x
    try dsimp only [S0] at hZ hBZ
    generalize World.setCell _ _ _ = W9 at *
    have x0 := hZ.cell 0
    have x1 := hZ.cell 1
    have x2 := hZ.cell 2
    have x3 := hZ.cell 3
    have x4 := hZ.cell 4
    have x5 := hZ.cell 5
    simp [sdC] at x0 x1 x2 x3 x4 x5
    try dsimp only [S0]
    exact bodyPost_ret (v := .agg (sdC S0)) (by simp [results, Try.results14, go_sem, sdC, S0, x0, x1, x2, x3, x4, x5]) rfl ⟨rfl, hBZ⟩
  · have hb0 : Below w.heap.size w w := Below.refl _ _
    have HB := Lib.hid hb0
    clear hb0
    go_enter Try.func14, Try.ntmps14
    go_wp2_with fail
    have hx := Blk.new w 29 #[.bool false, .string ⟨#[]⟩, .int .i64 0, .bool false, .bool false, .bool false]
    have ht := Blk.alloc Ht.out (.cells #[.bool false, .string ⟨#[]⟩, .int .i64 0, .bool false, .bool false, .bool false] 29)
    clear Ht
    have hB := HB.out.alloc HB.out.size (.cells #[.bool false, .string ⟨#[]⟩, .int .i64 0, .bool false, .bool false, .bool false] 29)
    clear HB
    obtain ⟨gx, hge⟩ : ∃ g, g = w.heap.size := ⟨_, rfl⟩
    rw [← hge] at hx ⊢
    have hle_x : w.heap.size ≤ gx := by omega
    clear hge
    generalize w.alloc _ = wn1 at *
    have Ht := Lib.hid ht
    clear ht
    have Hx := Lib.hid hx
    clear hx
    have HB := Lib.hid hB
    clear hB
    have c13 := Ht.out.cell 13
    simp [trC] at c13
    have hn := none_at wn1 b c13
    (with_reducible refine hn.mono ?_)
    clear hn c13
    rintro r w' ⟨rfl, rfl⟩
    have hf := fun i => Blk.frozen Hx.out i
    have x0 := Hx.out.cell 0
    have x1 := Hx.out.cell 1
    have x2 := Hx.out.cell 2
    have x3 := Hx.out.cell 3
    have x4 := Hx.out.cell 4
    have x5 := Hx.out.cell 5
    simp at x0 x1 x2 x3 x4 x5
    go_wp2
    have hY := Blk.set_ (Blk.set_ (Blk.set_ (Blk.set_ (Blk.set_ (Blk.set_ Hx.out 0 (.bool S0.opn)) 1 (.string S0.wr)) 2 (.int .i64 (S0.rd : Int))) 3 (.bool S0.cl)) 4 (.bool S0.eof)) 5 (.bool S0.dd)
    have hZ : Blk _ gx 29 (sdC S0) := hY
    have hBZ := below_set (below_set (below_set (below_set (below_set (below_set HB.out gx 0 (.bool S0.opn) hle_x) gx 1 (.string S0.wr) hle_x) gx 2 (.int .i64 (S0.rd : Int)) hle_x) gx 3 (.bool S0.cl) hle_x) gx 4 (.bool S0.eof) hle_x) gx 5 (.bool S0.dd) hle_x
    try dsimp only [S0] at hZ hBZ
    generalize World.setCell _ _ _ = W9 at *
    have x0 := hZ.cell 0
    have x1 := hZ.cell 1
    have x2 := hZ.cell 2
    have x3 := hZ.cell 3
    have x4 := hZ.cell 4
    have x5 := hZ.cell 5
    simp [sdC] at x0 x1 x2 x3 x4 x5
    try dsimp only [S0]
    exact bodyPost_ret (v := .agg (sdC S0)) (by simp [results, Try.results14, go_sem, sdC, S0, x0, x1, x2, x3, x4, x5]) rfl ⟨rfl, hBZ⟩
end Go.Proofs.Ytcdbbdjabccjdaa
