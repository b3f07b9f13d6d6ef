/- Layer 11 (ports), plain: a port is found where there is one that is free; what the law's own map tells. -/
import Derived.Test.YtjeckahbkepnpaaPortsF
import Derived.Maps.RangeWalk
set_option linter.unusedVariables false
set_option linter.unusedSimpArgs false
namespace Go.Proofs.Ytjeckahbkepnpaa
open Go.RowKit Go.Maps Go.BigFrame

def Po.it (s : Po) : Nat → Nat → Nat
  | 0, p => p
  | j + 1, p => s.it j (s.nxt p)
theorem it_add (s : Po) : ∀ a b p, s.it (a + b) p = s.it b (s.it a p) := by
  intro a
  induction a with
  | zero => intro b p; rw [Nat.zero_add]; rfl
  | succ a ih => intro b p; rw [show a + 1 + b = (a + b) + 1 by omega]; exact ih b (s.nxt p)
theorem it_up (s : Po) : ∀ j p, p + j ≤ s.high → s.it j p = p + j := by
  intro j
  induction j with
  | zero => intro p _; rfl
  | succ j ih =>
    intro p h
    show s.it j (s.nxt p) = _
    have e : s.nxt p = p + 1 := by unfold Po.nxt; rw [if_neg (by omega)]
    rw [e, ih (p + 1) (by omega)]; omega
theorem seek_none (s : Po) (t : Int) : ∀ k p, s.seek t k p = none → ∀ j, j < k → s.ok t (s.it j p) = false := by
  intro k
  induction k with
  | zero => intro p _ j hj; omega
  | succ k ih =>
    intro p h j hj
    rw [seek_step] at h
    by_cases ho : s.ok t p = true
    · rw [if_pos ho] at h; cases h
    · rw [if_neg ho] at h
      cases j with
      | zero => exact Bool.eq_false_iff.2 ho
      | succ j => exact ih _ h j (by omega)
theorem none_all (s : Po) (t : Int) (h1 : s.low ≤ s.cur) (h2 : s.cur ≤ s.high) (h : s.seek t (s.high + 1 - s.low) s.cur = none) (q : Nat) (q1 : s.low ≤ q) (q2 : q ≤ s.high) : s.ok t q = false := by
  have hn := seek_none s t _ _ h
  by_cases hq : s.cur ≤ q
  · have := hn (q - s.cur) (by omega)
    rw [it_up s _ _ (by omega), show s.cur + (q - s.cur) = q by omega] at this
    exact this
  · have := hn ((s.high - s.cur) + (1 + (q - s.low))) (by omega)
    have e0 : s.it (s.high - s.cur) s.cur = s.high := by rw [it_up s _ _ (by omega)]; omega
    rw [it_add, e0, it_add] at this
    have e : s.it 1 s.high = s.low := by show s.nxt s.high = _; unfold Po.nxt; rw [if_pos rfl]
    rw [e, it_up s _ _ (by omega), show s.low + (q - s.low) = q by omega] at this
    exact this
theorem freeN_zero (s : Po) (t : Int) : ∀ k p, (∀ q, p ≤ q → q < p + k → s.ok t q = false) → s.freeN t k p = 0 := by
  intro k
  induction k with
  | zero => intro p _; rfl
  | succ k ih =>
    intro p h
    rw [Po.freeN, if_neg (by rw [h p (Nat.le_refl _) (by omega)]; decide), ih (p + 1) (fun q h1 h2 => h q (by omega) (by omega))]
theorem freeN_pos (s : Po) (t : Int) : ∀ k p q, p ≤ q → q < p + k → s.ok t q = true → 0 < s.freeN t k p := by
  intro k
  induction k with
  | zero => intro p q h1 h2; omega
  | succ k ih =>
    intro p q h1 h2 h3
    rw [Po.freeN]
    by_cases e : q = p
    · subst e; rw [if_pos h3]; omega
    · have := ih (p + 1) q (by omega) (by omega) h3; omega
theorem free_none (s : Po) (t : Int) (h1 : s.low ≤ s.cur) (h2 : s.cur ≤ s.high) (h : s.seek t (s.high + 1 - s.low) s.cur = none) : s.free t = 0 :=
  freeN_zero s t _ _ fun q q1 q2 => none_all s t h1 h2 h q q1 (by omega)
theorem free_some (s : Po) (t : Int) (h1 : s.low ≤ s.cur) (h2 : s.cur ≤ s.high) (r : Nat) (h : s.seek t (s.high + 1 - s.low) s.cur = some r) : 0 < s.free t := by
  obtain ⟨r1, r2, r3⟩ := seek_in s t (by omega) _ _ r h1 h2 h
  exact freeN_pos s t _ _ r r1 (by omega) r3
/-- what the law's own map tells of a port -/
def Po.V (s : Po) (p : Nat) : Int := if s.L p = true then -1 else s.U p
def lwM (s : Po) (M : Lit → Option Value) : Prop := ∀ p : Nat, p < 65536 → (M (.int .u16 (p : Int))).getD (.int .i64 0) = .int .i64 (s.V p)
/-- what the law holds between two steps -/
structure Once (w wr : World) (b m1 m2 mL F N k : Nat) (s : Po) : Prop where
  at_ : ∃ k', k' ≤ k ∧ PoAt wr b m1 m2 s k'
  low : s.low = F
  high : s.high = F + N
  law : ∃ n M, n ≤ k ∧ MapIs Try.prog 22 wr mL n M ∧ lwM s M
  pos : ∀ p, 0 ≤ s.U p
  apart : mL ≠ b ∧ mL ≠ m1 ∧ mL ≠ m2
  below : Below w.heap.size w wr
  old : w.heap.size ≤ b ∧ w.heap.size ≤ m1 ∧ w.heap.size ≤ m2 ∧ w.heap.size ≤ mL
theorem Once.keep {w wr wr' : World} {b m1 m2 mL F N k : Nat} {s : Po} (h : Once w wr b m1 m2 mL F N k s) (hb : Below wr.heap.size wr wr') : Once w wr' b m1 m2 mL F N k s where
  at_ := by obtain ⟨k', h1, h2⟩ := h.at_; exact ⟨k', h1, h2.below hb⟩
  low := h.low
  high := h.high
  law := by obtain ⟨n, M, h1, h2, h3⟩ := h.law; exact ⟨n, M, h1, h2.below hb h2.lt, h3⟩
  pos := h.pos
  apart := h.apart
  below := h.below.trans (hb.mono h.below.size)
  old := h.old
theorem Once.more {w wr : World} {b m1 m2 mL F N k k2 : Nat} {s : Po} (h : Once w wr b m1 m2 mL F N k s) (hk : k ≤ k2) : Once w wr b m1 m2 mL F N k2 s where
  at_ := by obtain ⟨k', h1, h2⟩ := h.at_; exact ⟨k', by omega, h2⟩
  low := h.low
  high := h.high
  law := by obtain ⟨n, M, h1, h2⟩ := h.law; exact ⟨n, M, by omega, h2⟩
  pos := h.pos
  apart := h.apart
  below := h.below
  old := h.old
theorem V_took (s : Po) (p q : Nat) : (s.took p).V q = if q = p then -1 else s.V q := by
  unfold Po.V
  rw [took_L]
  by_cases e : q = p
  · rw [if_pos e]; rw [if_pos e]; rfl
  · rw [if_neg e, if_neg e]; rfl
theorem V_gave (s : Po) (p : Nat) (t : Int) (q : Nat) : (s.gave p t).V q = if q = p then t else s.V q := by
  unfold Po.V
  rw [gave_L, gave_U]
  by_cases e : q = p
  · rw [if_pos e, if_pos e, if_pos e]; rfl
  · rw [if_neg e, if_neg e, if_neg e]
theorem lw_upd {s s2 : Po} {M : Lit → Option Value} {p : Nat} {v : Int} (h : lwM s M) (hv : ∀ q, s2.V q = if q = p then v else s.V q) : lwM s2 (updM M (.int .u16 (p : Int)) (some (.int .i64 v))) := by
  intro q hq
  rw [hv q]
  by_cases e : q = p
  · subst e
    rw [updM_same, if_pos rfl]; rfl
  · rw [updM_other M _ (by intro e2; apply e; injection e2 with _ e2; omega), h q hq, if_neg e]
/-- the ports' own blocks have turned, then the law's map -/
theorem Once.step {w wr wa wb : World} {b m1 m2 mL F N k n : Nat} {s s2 : Po} {M : Lit → Option Value} {p : Nat} {v : Int} (h : Once w wr b m1 m2 mL F N k s) (k' : Nat) (hk' : k' ≤ k) (h2 : PoAt wa b m1 m2 s2 (k' + 1)) (hlow : s2.low = s.low) (hhigh : s2.high = s.high) (ho : Out (fun i => i = b ∨ i = m1 ∨ i = m2) wr wa)
    (hn : n ≤ k) (hM : lwM s M) (hm : MapIs Try.prog 22 wb mL (if (M (.int .u16 (p : Int))).isSome then n else n + 1) (updM M (.int .u16 (p : Int)) (some (.int .i64 v)))) (ht : wa.mapTurned wb mL) (hv : ∀ q, s2.V q = if q = p then v else s.V q) (hp : ∀ q, 0 ≤ s2.U q) : Once w wb b m1 m2 mL F N (k + 1) s2 where
  at_ := ⟨k' + 1, by omega, h2.keep fun i hi hx => ht.grown.block i hi (by
    have := h.apart
    intro e; injection e with e
    subst e
    rcases hx with e | e | e
    · exact this.1 e
    · exact this.2.1 e
    · exact this.2.2 e)⟩
  low := hlow.trans h.low
  high := hhigh.trans h.high
  law := ⟨_, _, by split <;> omega, hm, lw_upd hM hv⟩
  pos := hp
  apart := h.apart
  below := by
    have q := h.old
    have b1 : Below w.heap.size wr wa := ho.below h.below.size (by rintro i hi (rfl | rfl | rfl) <;> omega)
    have b2 : Below w.heap.size wa wb := (Out.grown (O := fun i => i = mL) ht.grown rfl).below (Nat.le_trans h.below.size b1.size) (by rintro i hi rfl; omega)
    exact (h.below.trans b1).trans b2
  old := h.old
/-- where the law's map lies, when the ports' blocks have turned -/
theorem Once.law_at {w wr wa : World} {b m1 m2 mL F N k n : Nat} {s : Po} {M : Lit → Option Value} (h : Once w wr b m1 m2 mL F N k s) (hM : MapIs Try.prog 22 wr mL n M) (ho : Out (fun i => i = b ∨ i = m1 ∨ i = m2) wr wa) : MapIs Try.prog 22 wa mL n M :=
  hM.of_eq (ho.block _ hM.lt (by
    have := h.apart
    rintro (e | e | e)
    · exact this.1 e
    · exact this.2.1 e
    · exact this.2.2 e))
theorem lw_look {wr : World} {mL n : Nat} {s : Po} {M : Lit → Option Value} (hM : MapIs Try.prog 22 wr mL n M) (h : lwM s M) {p : Nat} (hp : p < 65536) : (Instr.lookup 29 (.map (some mL)) (.int .u16 (p : Int)) false).run Try.prog wr = .ok (.int .i64 (s.V p)) wr := by
  rw [hM.look law16 Try.underlying29 (zeroI64 wr) (key16 hp), h p hp]
end Go.Proofs.Ytjeckahbkepnpaa
