/- Layer 31 (trace): the document's answer: Do as one contract; Over, All. -/
import Derived.Test.YtcdbbdjabccjdaaTraceT
set_option linter.unusedVariables false
set_option linter.unusedSimpArgs false
namespace Go.Proofs.Ytcdbbdjabccjdaa
open Go.RowKit Go.BigFrame

theorem nonempty (s : ByteArray) (hne : s.size ≠ 0) : (!s.toList.isEmpty) = true ∧ s.toList.isEmpty = false := by
  have : s.toList ≠ [] := fun h => hne ((toList_nil s).1 h)
  cases hq : s.toList with
  | nil => exact absurd hq this
  | cons a l => exact ⟨rfl, rfl⟩
theorem isempty (s : ByteArray) (h : s.size = 0) : s.toList = [] ∧ s.toList.isEmpty = true := by
  have := (toList_nil s).2 h
  exact ⟨this, by rw [this]; rfl⟩

theorem rdo_ok_at_0 (w : World) (b : Nat) (t : Tr) (d : Nat) (s : ByteArray) (h : RfAt w b t) (hz : Szd t) (hs : s.size ≤ 4194304) (hd : 1 ≤ d ∧ d ≤ 9) (htx : (d = 3 ∨ d = 4) ↔ s.size ≠ 0) :
    Calls Try.prog 13 #[.pointer (some ⟨b, 0, none⟩), .agg #[.int .i64 0, .int .u8 (d : Int), .string s]] w (RPost w b (doM t 0 d s).1 (doM t 0 d s).2) := by
  have hok : argOk 0 d s = true := by unfold argOk; simp only [decide_eq_true_eq]; exact ⟨hd, by omega, htx⟩
  unfold doM
  rw [if_pos hok, show ((0 : Int).toNat) = 0 from rfl]
  obtain rfl | rfl | rfl | rfl | rfl | rfl | rfl | rfl | rfl : d = 1 ∨ d = 2 ∨ d = 3 ∨ d = 4 ∨ d = 5 ∨ d = 6 ∨ d = 7 ∨ d = 8 ∨ d = 9 := by omega
  · obtain ⟨q1, q2⟩ := isempty s (by have := htx; omega)
    have hnf : fullB 0 1 t s = false := by simp [fullB]
    rw [hnf, if_neg (by decide)]
    cases hr : ruleM 1 0 t s with
    | none => exact rdo_no_1_0 w b t s h hz hs q1 q2 hr
    | some t' =>
      obtain rfl := ruleM_eff (by decide) hr
      exact rdo_ok_1_0 w b t s h hz hs q1 q2 hr
  · obtain ⟨q1, q2⟩ := isempty s (by have := htx; omega)
    have hnf : fullB 0 2 t s = false := by simp [fullB]
    rw [hnf, if_neg (by decide)]
    cases hr : ruleM 2 0 t s with
    | none => exact rdo_no_2_0 w b t s h hz hs q1 q2 hr
    | some t' => simp [ruleM] at hr
  · obtain ⟨q1, q2⟩ := nonempty s (htx.1 (by omega))
    cases hr : ruleM 3 0 t s with
    | none =>
      have hnf : fullB 0 3 t s = false := by
        simp [ruleM] at hr
        simp [fullB]
        intro a b
        have := hr a
        rw [b] at this
        cases this
      rw [hnf, if_neg (by decide)]
      exact rdo_no_3_0 w b t s h hz hs q1 q2 hr
    | some t' =>
      obtain rfl := ruleM_eff (by decide) hr
      have hc : ((t.own 0).live && !(t.own 0).cl) = true := by
        cases hq : ((t.own 0).live && !(t.own 0).cl) with
        | true => rfl
        | false => simp only [ruleM, hq] at hr; cases hr
      by_cases hf : 1048576 < t.s0.wr.size + s.size
      · have hnf : fullB 0 3 t s = true := by
          simp only [Bool.and_eq_true] at hc
          simp [fullB, hc.1]
          exact ⟨by simpa using hc.2, hf⟩
        rw [hnf, if_pos rfl]
        exact rdo_full_3_0 w b t s h hz hs q1 q2 hr hf
      · have hnf : fullB 0 3 t s = false := by
          simp [fullB]
          intro _ _
          simp [Tr.own]
          omega
        rw [hnf, if_neg (by decide)]
        exact rdo_ok_3_0 w b t s h hz hs q1 q2 hr (by omega)
  · obtain ⟨q1, q2⟩ := nonempty s (htx.1 (by omega))
    have hnf : fullB 0 4 t s = false := by simp [fullB]
    rw [hnf, if_neg (by decide)]
    cases hr : ruleM 4 0 t s with
    | none => exact rdo_no_4_0 w b t s h hz hs q1 q2 hr
    | some t' =>
      obtain rfl := ruleM_eff (by decide) hr
      exact rdo_ok_4_0 w b t s h hz hs q1 q2 hr
  · obtain ⟨q1, q2⟩ := isempty s (by have := htx; omega)
    have hnf : fullB 0 5 t s = false := by simp [fullB]
    rw [hnf, if_neg (by decide)]
    cases hr : ruleM 5 0 t s with
    | none => exact rdo_no_5_0 w b t s h hz hs q1 q2 hr
    | some t' =>
      obtain rfl := ruleM_eff (by decide) hr
      exact rdo_ok_5_0 w b t s h hz hs q1 q2 hr
  · obtain ⟨q1, q2⟩ := isempty s (by have := htx; omega)
    have hnf : fullB 0 6 t s = false := by simp [fullB]
    rw [hnf, if_neg (by decide)]
    cases hr : ruleM 6 0 t s with
    | none => exact rdo_no_6_0 w b t s h hz hs q1 q2 hr
    | some t' =>
      obtain rfl := ruleM_eff (by decide) hr
      exact rdo_ok_6_0 w b t s h hz hs q1 q2 hr
  · obtain ⟨q1, q2⟩ := isempty s (by have := htx; omega)
    have hnf : fullB 0 7 t s = false := by simp [fullB]
    rw [hnf, if_neg (by decide)]
    cases hr : ruleM 7 0 t s with
    | none => exact rdo_no_7_0 w b t s h hz hs q1 q2 hr
    | some t' =>
      obtain rfl := ruleM_eff (by decide) hr
      exact rdo_ok_7_0 w b t s h hz hs q1 q2 hr
  · obtain ⟨q1, q2⟩ := isempty s (by have := htx; omega)
    have hnf : fullB 0 8 t s = false := by simp [fullB]
    rw [hnf, if_neg (by decide)]
    cases hr : ruleM 8 0 t s with
    | none => exact rdo_no_8_0 w b t s h hz hs q1 q2 hr
    | some t' =>
      obtain rfl := ruleM_eff (by decide) hr
      exact rdo_ok_8_0 w b t s h hz hs q1 q2 hr
  · obtain ⟨q1, q2⟩ := isempty s (by have := htx; omega)
    have hnf : fullB 0 9 t s = false := by simp [fullB]
    rw [hnf, if_neg (by decide)]
    cases hr : ruleM 9 0 t s with
    | none => exact rdo_no_9_0 w b t s h hz hs q1 q2 hr
    | some t' =>
      obtain rfl := ruleM_eff (by decide) hr
      exact rdo_ok_9_0 w b t s h hz hs q1 q2 hr

theorem rdo_ok_at_1 (w : World) (b : Nat) (t : Tr) (d : Nat) (s : ByteArray) (h : RfAt w b t) (hz : Szd t) (hs : s.size ≤ 4194304) (hd : 1 ≤ d ∧ d ≤ 9) (htx : (d = 3 ∨ d = 4) ↔ s.size ≠ 0) :
    Calls Try.prog 13 #[.pointer (some ⟨b, 0, none⟩), .agg #[.int .i64 1, .int .u8 (d : Int), .string s]] w (RPost w b (doM t 1 d s).1 (doM t 1 d s).2) := by
  have hok : argOk 1 d s = true := by unfold argOk; simp only [decide_eq_true_eq]; exact ⟨hd, by omega, htx⟩
  unfold doM
  rw [if_pos hok, show ((1 : Int).toNat) = 1 from rfl]
  obtain rfl | rfl | rfl | rfl | rfl | rfl | rfl | rfl | rfl : d = 1 ∨ d = 2 ∨ d = 3 ∨ d = 4 ∨ d = 5 ∨ d = 6 ∨ d = 7 ∨ d = 8 ∨ d = 9 := by omega
  · obtain ⟨q1, q2⟩ := isempty s (by have := htx; omega)
    have hnf : fullB 1 1 t s = false := by simp [fullB]
    rw [hnf, if_neg (by decide)]
    cases hr : ruleM 1 1 t s with
    | none => exact rdo_no_1_1 w b t s h hz hs q1 q2 hr
    | some t' => simp [ruleM] at hr
  · obtain ⟨q1, q2⟩ := isempty s (by have := htx; omega)
    have hnf : fullB 1 2 t s = false := by simp [fullB]
    rw [hnf, if_neg (by decide)]
    cases hr : ruleM 2 1 t s with
    | none => exact rdo_no_2_1 w b t s h hz hs q1 q2 hr
    | some t' =>
      obtain rfl := ruleM_eff (by decide) hr
      exact rdo_ok_2_1 w b t s h hz hs q1 q2 hr
  · obtain ⟨q1, q2⟩ := nonempty s (htx.1 (by omega))
    cases hr : ruleM 3 1 t s with
    | none =>
      have hnf : fullB 1 3 t s = false := by
        simp [ruleM] at hr
        simp [fullB]
        intro a b
        have := hr a
        rw [b] at this
        cases this
      rw [hnf, if_neg (by decide)]
      exact rdo_no_3_1 w b t s h hz hs q1 q2 hr
    | some t' =>
      obtain rfl := ruleM_eff (by decide) hr
      have hc : ((t.own 1).live && !(t.own 1).cl) = true := by
        cases hq : ((t.own 1).live && !(t.own 1).cl) with
        | true => rfl
        | false => simp only [ruleM, hq] at hr; cases hr
      by_cases hf : 1048576 < t.s1.wr.size + s.size
      · have hnf : fullB 1 3 t s = true := by
          simp only [Bool.and_eq_true] at hc
          simp [fullB, hc.1]
          exact ⟨by simpa using hc.2, hf⟩
        rw [hnf, if_pos rfl]
        exact rdo_full_3_1 w b t s h hz hs q1 q2 hr hf
      · have hnf : fullB 1 3 t s = false := by
          simp [fullB]
          intro _ _
          simp [Tr.own]
          omega
        rw [hnf, if_neg (by decide)]
        exact rdo_ok_3_1 w b t s h hz hs q1 q2 hr (by omega)
  · obtain ⟨q1, q2⟩ := nonempty s (htx.1 (by omega))
    have hnf : fullB 1 4 t s = false := by simp [fullB]
    rw [hnf, if_neg (by decide)]
    cases hr : ruleM 4 1 t s with
    | none => exact rdo_no_4_1 w b t s h hz hs q1 q2 hr
    | some t' =>
      obtain rfl := ruleM_eff (by decide) hr
      exact rdo_ok_4_1 w b t s h hz hs q1 q2 hr
  · obtain ⟨q1, q2⟩ := isempty s (by have := htx; omega)
    have hnf : fullB 1 5 t s = false := by simp [fullB]
    rw [hnf, if_neg (by decide)]
    cases hr : ruleM 5 1 t s with
    | none => exact rdo_no_5_1 w b t s h hz hs q1 q2 hr
    | some t' =>
      obtain rfl := ruleM_eff (by decide) hr
      exact rdo_ok_5_1 w b t s h hz hs q1 q2 hr
  · obtain ⟨q1, q2⟩ := isempty s (by have := htx; omega)
    have hnf : fullB 1 6 t s = false := by simp [fullB]
    rw [hnf, if_neg (by decide)]
    cases hr : ruleM 6 1 t s with
    | none => exact rdo_no_6_1 w b t s h hz hs q1 q2 hr
    | some t' =>
      obtain rfl := ruleM_eff (by decide) hr
      exact rdo_ok_6_1 w b t s h hz hs q1 q2 hr
  · obtain ⟨q1, q2⟩ := isempty s (by have := htx; omega)
    have hnf : fullB 1 7 t s = false := by simp [fullB]
    rw [hnf, if_neg (by decide)]
    cases hr : ruleM 7 1 t s with
    | none => exact rdo_no_7_1 w b t s h hz hs q1 q2 hr
    | some t' =>
      obtain rfl := ruleM_eff (by decide) hr
      exact rdo_ok_7_1 w b t s h hz hs q1 q2 hr
  · obtain ⟨q1, q2⟩ := isempty s (by have := htx; omega)
    have hnf : fullB 1 8 t s = false := by simp [fullB]
    rw [hnf, if_neg (by decide)]
    cases hr : ruleM 8 1 t s with
    | none => exact rdo_no_8_1 w b t s h hz hs q1 q2 hr
    | some t' =>
      obtain rfl := ruleM_eff (by decide) hr
      exact rdo_ok_8_1 w b t s h hz hs q1 q2 hr
  · obtain ⟨q1, q2⟩ := isempty s (by have := htx; omega)
    have hnf : fullB 1 9 t s = false := by simp [fullB]
    rw [hnf, if_neg (by decide)]
    cases hr : ruleM 9 1 t s with
    | none => exact rdo_no_9_1 w b t s h hz hs q1 q2 hr
    | some t' =>
      obtain rfl := ruleM_eff (by decide) hr
      exact rdo_ok_9_1 w b t s h hz hs q1 q2 hr

theorem rdo_at (w : World) (b : Nat) (t : Tr) (e : Int) (d : Nat) (s : ByteArray) (h : RfAt w b t) (hz : Szd t) (hs : s.size ≤ 4194304) :
    Calls Try.prog 13 #[.pointer (some ⟨b, 0, none⟩), .agg #[.int .i64 e, .int .u8 (d : Int), .string s]] w (RPost w b (doM t e d s).1 (doM t e d s).2) := by
  have bad : argOk e d s = false → doM t e d s = (2, t) := fun hb => by unfold doM; rw [hb]; rfl
  by_cases he0 : e < 0
  · rw [bad (by unfold argOk; simp; intro h1 h2; omega)]
    exact rdo_neg w b t e d s h he0
  by_cases he1 : 1 < e
  · rw [bad (by unfold argOk; simp; intro h1 h2 h3; omega)]
    exact rdo_big w b t e d s h he1
  by_cases hd0 : d < 1
  · rw [bad (by unfold argOk; simp; intro h1 h2; omega)]
    exact rdo_low w b t e d s h (by omega) (by omega) (by omega)
  by_cases hd1 : 9 < d
  · rw [bad (by unfold argOk; simp; intro h1 h2; omega)]
    exact rdo_high w b t e d s h (by omega) (by omega) (by omega)
  by_cases htx : (d = 3 ∨ d = 4) ↔ s.size ≠ 0
  case neg =>
    rw [bad (by unfold argOk; simp only [decide_eq_false_iff_not]; intro h; exact htx h.2.2)]
    by_cases hq : d = 3 ∨ d = 4
    · have h0 : s.size = 0 := by
        apply Classical.byContradiction
        intro h0
        exact htx ⟨fun _ => h0, fun _ => hq⟩
      obtain ⟨q1, q2⟩ := isempty s h0
      exact rdo_text w b t e d s h (by omega) (by omega) (by omega) (by omega) (by simp; omega) q1
    · have h0 : s.size ≠ 0 := by
        intro h0
        exact htx ⟨fun h => absurd h hq, fun h => absurd h0 h⟩
      obtain ⟨q1, q2⟩ := nonempty s h0
      exact rdo_none w b t e d s h (by omega) (by omega) (by omega) (by omega) (by simp; omega) (by simp; omega) q1 q2
  obtain rfl | rfl : e = 0 ∨ e = 1 := by omega
  · exact rdo_ok_at_0 w b t d s h hz hs (by omega) htx
  · exact rdo_ok_at_1 w b t d s h hz hs (by omega) htx
theorem rover_at (w : World) (b : Nat) (t : Tr) (h : RfAt w b t) : Calls Try.prog 17 #[.pointer (some ⟨b, 0, none⟩)] w fun e w' => e = .returned (.bool (t.s0.over && t.s1.over)) ∧ w = w' := by
  have c3 := h.cell 3
  have c4 := h.cell 4
  have c5 := h.cell 5
  have c9 := h.cell 9
  have c10 := h.cell 10
  have c11 := h.cell 11
  simp at c3 c4 c5 c9 c10 c11
  obtain ⟨⟨o0, a0, r0, l0, e0, d0⟩, ⟨o1, a1, r1, l1, e1, d1⟩, cs⟩ := t
  simp only at c3 c4 c5 c9 c10 c11
  show Calls _ _ _ _ fun e w' => e = .returned (.bool ((d0 || (l0 && e0)) && (d1 || (l1 && e1)))) ∧ w = w'
  clear h
  go_enter Try.func17, Try.ntmps17
  go_wp2
  go_loopw [3] (fun i wr => wr = w ∧ (i = .int .i64 0 ∨ (i = .int .i64 1 ∧ (d0 || (l0 && e0)) = true) ∨ (i = .int .i64 2 ∧ ((d0 || (l0 && e0)) && (d1 || (l1 && e1))) = true))) (fun i _ => 2 - (intOf i).toNat)
  case atStart => exact ⟨rfl, .inl rfl⟩
  case round =>
    obtain ⟨hW, hrel⟩ := hrel
    subst hW
    rcases hrel with rfl | ⟨rfl, ho⟩ | ⟨rfl, ho⟩
    · cases d0 <;> cases l0 <;> cases e0
      all_goals go_wp2
      all_goals first
        | (go_ret; exact ⟨rfl, rfl⟩)
        | (go_roundw; (case rel => exact ⟨by first | trivial | rfl, .inr (.inl ⟨by go_num, rfl⟩)⟩); (case measure => simp [intOf]))
    · have hX : ∀ x, ((d0 || (l0 && e0)) && x) = x := fun x => by rw [ho]; rfl
      clear ho
      cases d1 <;> cases l1 <;> cases e1
      all_goals go_wp2
      all_goals first
        | (go_ret; exact ⟨(by rw [hX] <;> rfl), rfl⟩)
        | (go_roundw; (case rel => exact ⟨by first | trivial | rfl, .inr (.inr ⟨by go_num, (by rw [hX] <;> rfl)⟩)⟩); (case measure => simp [intOf]))
    · have HO := Lib.hid ho
      clear ho
      go_wp2
      go_ret
      exact ⟨ret_bool HO.out.symm, rfl⟩
/-- behind k acts of the document's All -/
def RllRel (w : World) (b : Nat) (l : List AAct) (k : Nat) (wr : World) : Prop := ∃ t, Szd t ∧ RfAt wr b t ∧ allM T0 l 0 = allM t (l.drop k) k ∧ Below w.heap.size w wr
theorem rall_at (w : World) (A : Option Addr) (len cap : Nat) (l : List AAct) (h : ARow w A len l) (hlen : len ≤ 9223372036854775807) (hs : ∀ k, (l.getD k aNil).s.size ≤ 4194304) :
    Calls Try.prog 19 #[.slice A len cap] w fun e w' => e = .returned (.tuple #[.int .i64 ((allM T0 l 0).1 : Int), .int .i64 (allM T0 l 0).2]) ∧ Below w.heap.size w w' := by
  have hi0 : (len : Int) ≤ 9223372036854775807 := by omega
  obtain ⟨ans, hans⟩ : ∃ a, a = allM T0 l 0 := ⟨_, rfl⟩
  rw [← hans]
  have H := Lib.hid h
  clear h
  have Hs := Lib.hid hs
  clear hs
  have Hans := Lib.hid hans
  clear hans
  clear hlen
  have hb0 : Below w.heap.size w w := Below.refl _ _
  have HB := Lib.hid hb0
  clear hb0
  go_enter Try.func19, Try.ntmps19
  go_upto_region 2 with fail
  have ht := Blk.new w 32 #[.bool false, .string ⟨#[]⟩, .int .i64 0, .bool false, .bool false, .bool false, .bool false, .string ⟨#[]⟩, .int .i64 0, .bool false, .bool false, .bool false, .bool false]
  have hB := HB.out.alloc HB.out.size (.cells #[.bool false, .string ⟨#[]⟩, .int .i64 0, .bool false, .bool false, .bool false, .bool false, .string ⟨#[]⟩, .int .i64 0, .bool false, .bool false, .bool false, .bool false] 32)
  clear HB
  obtain ⟨gt, hge⟩ : ∃ g, g = w.heap.size := ⟨_, rfl⟩
  rw [← hge] at ht ⊢
  have hle_t : w.heap.size ≤ gt := by omega
  clear hge
  generalize w.alloc _ = w2 at *
  have Ht := Lib.hid ht
  clear ht
  have HB := Lib.hid hB
  clear hB
  have hrel0 : RllRel w gt l 0 w2 := ⟨T0, szd_0, Ht.out, rfl, HB.out⟩
  have hb := hle_t
  clear hle_t Ht HB
  have Hrel0 := Lib.hid hrel0
  clear hrel0
  have Hb := Lib.hid hb
  clear hb
  go_wp2
  go_loopw [5] (fun i wr => ∃ k : Nat, k ≤ len ∧ i = .int .i64 (k : Int) ∧ RllRel w gt l k wr) (fun i _ => len - (intOf i).toNat)
  case atStart => exact ⟨0, Nat.zero_le _, rfl, Hrel0.out⟩
  case round =>
    obtain ⟨k, hk, rfl, t, hz, ht, hall, hB⟩ := hrel
    clear Hrel0
    have hrow := H.out.below hB
    by_cases hlt : k < len
    · obtain ⟨r, off, rfl, hrl, q0, q1, q2⟩ := hrow.2 k hlt
      have hsk := Hs.out k
      have hdrop : l.drop k = l.getD k aNil :: l.drop (k + 1) := by
        have hl : k < l.length := by rw [H.out.1]; exact hlt
        rw [List.drop_eq_getElem_cons hl]
        simp [List.getD, List.getElem?_eq_getElem hl]
      rw [hdrop] at hall
      generalize hx : l.getD k aNil = x at *
      clear hx hrow hdrop
      obtain ⟨e, d, s⟩ := x
      simp only at q0 q1 q2 hsk
      have e1 : decide (k < len) = true := decide_eq_true hlt
      have hdo := rdo_at wr gt t e d s ht hz hsk
      obtain ⟨rr, hrr⟩ : ∃ z, z = stepA t ⟨e, d, s⟩ := ⟨_, rfl⟩
      have hz2 : Szd rr.2 := by rw [hrr]; exact szd_step hz _
      rw [show doM t e d s = rr from hrr.symm] at hdo
      rw [allM_cons, ← hrr] at hall
      have Hall := Lib.hid hall
      clear hall
      have Hz2 := Lib.hid hz2
      clear hz2
      have Hdo := Lib.hid hdo
      clear hdo
      have HB := Lib.hid hB
      clear hB
      have Hrr := Lib.hid hrr
      clear hrr
      clear hz ht hsk
      go_wp2_with fail
      refine Hdo.out.mono ?_
      rintro rv w5 ⟨rfl, ht5, hg5⟩
      have hB5 := below_only HB.out hg5 Hb.out HB.out.size
      have hall := Hall.out
      have hz2 := Hz2.out
      clear hg5 Hdo Hrr Hall Hz2
      obtain ⟨re, rt⟩ := rr
      simp only at hall hz2 ht5 ⊢
      by_cases hr : re = 0
      · subst hr
        rw [if_pos rfl] at hall
        have hrel : RllRel w gt l (k + 1) w5 := ⟨rt, hz2, ht5, hall, hB5⟩
        have Hrel := Lib.hid hrel
        clear hrel
        clear hall hz2 ht5 hB5 HB
        go_wp2
        go_roundw
        case rel => exact ⟨k + 1, by omega, by go_num, Hrel.out⟩
        case measure => simp [intOf]; omega
      · have e2 : (re == 0) = false := by simpa using hr
        have e3 : (re != 0) = true := by simpa using hr
        rw [if_neg hr] at hall
        have hfin : ans = (k, re) := by rw [Hans.out]; exact hall
        have Hfin := Lib.hid hfin
        clear hfin
        have HB5 := Lib.hid hB5
        clear hB5
        clear hall hz2 ht5 HB hr
        go_wp2
        go_ret2
        exact ⟨by rw [Hfin.out]; rfl, HB5.out⟩
    · obtain rfl : k = len := by omega
      have e1 : decide (k < k) = false := by simp
      have hfin : ans = (k, 0) := by
        rw [Hans.out, hall, List.drop_of_length_le (by rw [H.out.1]; exact Nat.le_refl _)]
        rfl
      have HF := Lib.hid hfin
      have HB := Lib.hid hB
      clear hB
      clear hfin hall hz ht hrow
      go_wp2
      go_ret2
      exact ⟨by rw [HF.out]; rfl, HB.out⟩
end Go.Proofs.Ytcdbbdjabccjdaa
