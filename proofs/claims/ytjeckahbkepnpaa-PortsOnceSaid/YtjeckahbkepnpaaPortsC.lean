/- Layer 11 (ports): Give, Free. -/
import Derived.Test.YtjeckahbkepnpaaPortsB
set_option linter.unusedVariables false
set_option linter.unusedSimpArgs false
namespace Go.Proofs.Ytjeckahbkepnpaa
open Go.RowKit Go.Maps Go.BigFrame

def may (t : Int) : Prop := 0 ≤ t ∧ t ≤ 17592186044416
set_option maxRecDepth 100000 in
theorem give_arg {w : World} {b m1 m2 k : Nat} {s : Po} (h : PoAt w b m1 m2 s k) (p : Nat) (t : Int) (ht : ¬ may t) :
    Calls Try.prog 9 #[.pointer (some ⟨b, 0, none⟩), .int .u16 (p : Int), .int .i64 t] w fun e w' => e = .returned (.int .i64 2) ∧ w' = w := by
  have hc3 := h.blk.cell 3
  simp [poCells] at hc3
  have hem := eq_map_p m1
  have hm := may_no t ht w
  clear h ht
  go_enter Try.func9, Try.ntmps9
  go_wp2_with (go_at_call 11; with_reducible refine hm.mono ?_; rintro e w1 ⟨rfl, rfl⟩)
  go_ret
  exact ⟨rfl, rfl⟩
set_option maxRecDepth 100000 in
theorem give_none {w : World} {b m1 m2 k : Nat} {s : Po} (h : PoAt w b m1 m2 s k) (p : Nat) (hp : p < 65536) (t : Int) (ht : may t) (hL : s.L p = false) :
    Calls Try.prog 9 #[.pointer (some ⟨b, 0, none⟩), .int .u16 (p : Int), .int .i64 t] w fun e w' => e = .returned (.int .i64 5) ∧ w' = w := by
  have hc3 := h.blk.cell 3
  simp [poCells] at hc3
  have hem := eq_map_p m1
  have hm := may_yes t ht.1 ht.2 w
  have hl := h.look1 hp
  rw [if_neg (by rw [hL]; decide)] at hl
  clear h ht hL
  go_enter Try.func9, Try.ntmps9
  go_wp2_with (go_at_call 11; with_reducible refine hm.mono ?_; rintro e w1 ⟨rfl, rfl⟩)
  go_ret
  exact ⟨rfl, rfl⟩
theorem gave_L (s : Po) (p : Nat) (t : Int) (q : Nat) : (s.gave p t).L q = if q = p then false else s.L q := rfl
theorem gave_U (s : Po) (p : Nat) (t : Int) (q : Nat) : (s.gave p t).U q = if q = p then t else s.U q := rfl
theorem poL_gave {s : Po} {M : Lit → Option Value} {p : Nat} {t : Int} (hp : p < 65536) (h : poL s M) : poL (s.gave p t) (updM M (.int .u16 (p : Int)) none) := by
  intro q hq
  by_cases e : q = p
  · subst e
    have e1 : (s.gave q t).L q = false := by rw [gave_L, if_pos rfl]
    rw [updM_same, e1]; rfl
  · have e1 : (s.gave p t).L q = s.L q := by rw [gave_L, if_neg e]
    rw [updM_other M _ (by intro e2; apply e; injection e2 with _ e2; omega), h q hq, e1]
theorem poU_gave {s : Po} {M : Lit → Option Value} {p : Nat} {t : Int} (hp : p < 65536) (h : poU s M) : poU (s.gave p t) (updM M (.int .u16 (p : Int)) (some (.int .i64 t))) := by
  intro q hq
  by_cases e : q = p
  · subst e
    have e1 : (s.gave q t).U q = t := by rw [gave_U, if_pos rfl]
    rw [updM_same, e1]; rfl
  · have e1 : (s.gave p t).U q = s.U q := by rw [gave_U, if_neg e]
    rw [updM_other M _ (by intro e2; apply e; injection e2 with _ e2; omega), h q hq, e1]
set_option maxRecDepth 100000 in
theorem give_ok {w : World} {b m1 m2 k : Nat} {s : Po} (h : PoAt w b m1 m2 s k) (hk : k ≤ 1000000) (p : Nat) (hp : p < 65536) (t : Int) (ht : may t) (hL : s.L p = true) :
    Calls Try.prog 9 #[.pointer (some ⟨b, 0, none⟩), .int .u16 (p : Int), .int .i64 t] w fun e w' => e = .returned (.int .i64 0) ∧ PoAt w' b m1 m2 (s.gave p t) (k + 1) ∧ Out (fun i => i = b ∨ i = m1 ∨ i = m2) w w' := by
  obtain ⟨n1, M1, hn1, hM1, hL1⟩ := h.ml
  obtain ⟨n2, M2, hn2, hM2, hU2⟩ := h.mu
  have hc3 := h.blk.cell 3
  have hc4 := h.blk.cell 4
  simp [poCells] at hc3 hc4
  have hem := eq_map_p m1
  have hm := may_yes t ht.1 ht.2 w
  have hl := h.look1 hp
  rw [if_pos hL] at hl
  have hky := key16 hp
  have hb1 : b ≠ m1 := by
    rintro rfl
    obtain ⟨es, c, q1, _⟩ := hM1.size
    have := h.blk; unfold Blk at this; rw [q1] at this; cases this
  have hb2 : b ≠ m2 := by
    rintro rfl
    obtain ⟨es, c, q1, _⟩ := hM2.size
    have := h.blk; unfold Blk at this; rw [q1] at this; cases this
  have H := Lib.hid h
  have fin : ∀ wa wb : World, MapIs Try.prog 22 wa m1 (if (M1 (.int .u16 (p : Int))).isSome then n1 - 1 else n1) (updM M1 (.int .u16 (p : Int)) none) → w.mapTurned wa m1 → MapIs Try.prog 22 wb m2 (if (M2 (.int .u16 (p : Int))).isSome then n2 else n2 + 1) (updM M2 (.int .u16 (p : Int)) (some (.int .i64 t))) → wa.mapTurned wb m2 → PoAt wb b m1 m2 (s.gave p t) (k + 1) ∧ Out (fun i => i = b ∨ i = m1 ∨ i = m2) w wb := by
    intro wa wb q1 q2 q3 q4
    have ha := q2.grown
    have hb := q4.grown
    refine ⟨⟨?_, ⟨_, _, ?_, q1.kept hb (by simp; exact h.ne), poL_gave hp hL1⟩, ⟨_, _, ?_, q3, poU_gave hp hU2⟩, h.ne, h.lo⟩, ?_⟩
    · exact (h.blk.grown ha (by simp; exact hb1)).grown hb (by simp; exact hb2)
    · split <;> omega
    · split <;> omega
    · exact Out.trans (O := fun i => i = b ∨ i = m1 ∨ i = m2) (Out.grown ha (.inr (.inl rfl))) (Out.grown (O := fun i => i = m2) hb rfl) (fun _ _ e => .inr (.inr e))
  have hMa : ∀ wa, w.mapTurned wa m1 → MapIs Try.prog 22 wa m2 n2 M2 ∧ wa.cell? ⟨b, 4, none⟩ = some (.map (some m2)) := fun wa q2 => by
    have ha := q2.grown
    refine ⟨hM2.kept ha (by simp; exact h.ne.symm), ?_⟩
    have := (h.blk.grown ha (by simp; exact hb1)).cell 4
    simpa [poCells] using this
  have hnm : n2 < maxLen := by simp only [maxLen]; omega
  have HF := Lib.hid fin
  have HM1 := Lib.hid hM1
  have HMa := Lib.hid hMa
  have HK := Lib.hid hky
  have HN := Lib.hid hnm
  clear fin hMa hM2 hM1 hL1 hU2 h ht hL hn1 hn2 hky hb1 hb2 hnm
  go_enter Try.func9, Try.ntmps9
  go_wp2_with (first
    | (go_at_call 11; with_reducible refine hm.mono ?_; rintro e w1 ⟨rfl, rfl⟩)
    | (at_delete; refine wpList_delete_is _ rfl _ _ _ _ rfl 3 law16 Try.underlying40 m1 n1 _ rfl HM1.out _ _ rfl HK.out ?_; intro wa q1 q2; have hc4a := (HMa.out wa q2).2; have Q := Lib.hid (And.intro q1 q2); clear q1 q2)
    | (at_mapUpdate; refine wpList_mapUpdate_is _ rfl _ _ _ _ rfl 22 2 law16 Try.underlying29 m2 n2 _ rfl (HMa.out _ Q.out.2).1 HN.out _ _ _ rfl rfl HK.out ?_; intro wb q3 q4; have Q2 := Lib.hid (And.intro q3 q4); clear q3 q4))
  go_ret
  exact ⟨rfl, HF.out _ _ Q.out.1 Q.out.2 Q2.out.1 Q2.out.2⟩
theorem free_step (s : Po) (now : Int) (p : Nat) (h : p ≤ s.high) : s.freeN now (s.high + 1 - p) p = (if s.ok now p = true then 1 else 0) + s.freeN now (s.high + 1 - (p + 1)) (p + 1) := by
  rw [show s.high + 1 - p = (s.high + 1 - (p + 1)) + 1 by omega, Po.freeN]
theorem free_end (s : Po) (now : Int) (p : Nat) (h : s.high < p) : s.freeN now (s.high + 1 - p) p = 0 := by
  rw [show s.high + 1 - p = 0 by omega, Po.freeN]
theorem free_le (s : Po) (now : Int) : ∀ k p, s.freeN now k p ≤ k := by
  intro k
  induction k with
  | zero => intro p; rw [Po.freeN]; exact Nat.le_refl _
  | succ k ih => intro p; rw [Po.freeN]; have := ih (p + 1); split <;> omega
set_option maxRecDepth 100000 in
theorem free_any {w : World} {b m1 m2 k : Nat} {s : Po} (h : PoAt w b m1 m2 s k) (t : Int) :
    Calls Try.prog 7 #[.pointer (some ⟨b, 0, none⟩), .int .i64 t] w fun e w' => e = .returned (.int .i64 (s.free t : Nat)) ∧ w' = w := by
  have hc0 := h.blk.cell 0
  have hc1 := h.blk.cell 1
  have hc3 := h.blk.cell 3
  have hc4 := h.blk.cell 4
  simp [poCells] at hc0 hc1 hc3 hc4
  have hem := eq_map_p m1
  obtain ⟨q1, q2, q3, q4⟩ := h.lo
  have hfl := free_le s t (s.high + 1 - s.low) s.low
  obtain ⟨F, hF⟩ : ∃ F, F = s.free t := ⟨_, rfl⟩
  have hF2 : s.freeN t (s.high + 1 - s.low) s.low = F := hF.symm
  rw [hF2] at hfl
  rw [← hF]
  have H := Lib.hid h
  obtain ⟨lo, hlo⟩ : ∃ x, x = s.low := ⟨_, rfl⟩
  obtain ⟨hi, hhi⟩ : ∃ x, x = s.high := ⟨_, rfl⟩
  rw [← hlo] at hc0 q1 q2 hfl
  rw [← hhi] at hc1 q3 q4 hfl
  clear h hF
  have HF2 := Lib.hid hF2
  clear hF2
  have Hlo := Lib.hid hlo
  clear hlo
  have Hhi := Lib.hid hhi
  clear hhi
  go_enter Try.func7, Try.ntmps7
  go_wp2
  go_loopw [4, 5] (fun n v wr => ∃ (c p : Nat), n = .int .i64 c ∧ v = .int .i64 p ∧ lo ≤ p ∧ p ≤ hi + 1 ∧ c ≤ p ∧ wr = w ∧ Hid (c + s.freeN t (s.high + 1 - p) p = F)) (fun _ v _ => hi + 1 - (intOf v).toNat)
  case atStart => exact ⟨0, lo, rfl, rfl, Nat.le_refl _, by omega, by omega, rfl, Lib.hid (by rw [Hlo.out, Nat.zero_add]; exact HF2.out)⟩
  case round =>
    obtain ⟨c, p, rfl, rfl, h1, h2, h3, rfl, HC⟩ := hrel
    by_cases hp : p ≤ hi
    · have hpz : (p : Int) ≤ (hi : Int) := by omega
      have hl1 := H.out.look1 (p := p) (by omega)
      have hl2 := H.out.look2 (p := p) (by omega)
      have hst := free_step s t p (by rw [← Hhi.out]; exact hp)
      have hok : s.ok t p = (!s.L p && decide (s.U p ≤ t)) := rfl
      generalize s.U p = u at *
      have HS := Lib.hid hst
      have HO := Lib.hid hok
      clear hst hok
      cases hL : s.L p
      · rw [hL, if_neg (by decide)] at hl1
        by_cases hu : u ≤ t
        · have HL := Lib.hid hL
          clear hL
          go_wp2
          go_roundw
          case rel => exact ⟨c + 1, p + 1, by go_num, by go_num, by omega, by omega, by omega, by trivial, Lib.hid (by
            have := HC.out
            rw [HS.out, HO.out, HL.out] at this
            generalize s.freeN t (s.high + 1 - (p + 1)) (p + 1) = r at this ⊢
            simp [hu] at this
            omega)⟩
          case measure => simp [intOf]; omega
        · have HL := Lib.hid hL
          clear hL
          go_wp2
          go_roundw
          case rel => exact ⟨c, p + 1, rfl, by go_num, by omega, by omega, by omega, by trivial, Lib.hid (by
            have := HC.out
            rw [HS.out, HO.out, HL.out] at this
            generalize s.freeN t (s.high + 1 - (p + 1)) (p + 1) = r at this ⊢
            simp [hu] at this
            omega)⟩
          case measure => simp [intOf]; omega
      · rw [hL, if_pos rfl] at hl1
        have HL := Lib.hid hL
        clear hL
        go_wp2
        go_roundw
        case rel => exact ⟨c, p + 1, rfl, by go_num, by omega, by omega, by omega, by trivial, Lib.hid (by
          have := HC.out
          rw [HS.out, HO.out, HL.out] at this
          generalize s.freeN t (s.high + 1 - (p + 1)) (p + 1) = r at this ⊢
          simp at this
          omega)⟩
        case measure => simp [intOf]; omega
    · have hpz : ¬ (p : Int) ≤ (hi : Int) := by omega
      have he := free_end s t p (by rw [← Hhi.out]; omega)
      have HE := Lib.hid he
      clear he
      go_wp2
      go_ret
      have := HC.out
      rw [HE.out] at this
      exact ⟨by rw [← this]; rfl, rfl⟩
end Go.Proofs.Ytjeckahbkepnpaa
