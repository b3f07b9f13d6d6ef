/- Plain: rows of spans, ordered by their beginnings: what insertion, a rotation and a merge in place leave. -/
import Derived.Test.YtnnpahjopfkchaaSpans
set_option linter.unusedVariables false
set_option linter.unusedSimpArgs false
namespace Go.Proofs.Ytnnpahjopfkchaa

abbrev Row := Nat → Sp
def swF (d : Row) (i j : Nat) : Row := fun k => if k = i then d j else if k = j then d i else d k
/-- within [a, b) the same spans stand, maybe elsewhere; outside all is as it was -/
structure Same (a b : Nat) (d d' : Row) : Prop where
  out : ∀ i, ¬ (a ≤ i ∧ i < b) → d' i = d i
  to_ : ∀ i, a ≤ i → i < b → ∃ j, a ≤ j ∧ j < b ∧ d' i = d j
  from_ : ∀ j, a ≤ j → j < b → ∃ i, a ≤ i ∧ i < b ∧ d' i = d j
def Srt (a b : Nat) (d : Row) : Prop := ∀ i j, a ≤ i → i < j → j < b → (d i).1 ≤ (d j).1
theorem Same.refl (a b : Nat) (d : Row) : Same a b d d := ⟨fun _ _ => rfl, fun i h1 h2 => ⟨i, h1, h2, rfl⟩, fun i h1 h2 => ⟨i, h1, h2, rfl⟩⟩
theorem Same.trans {a b : Nat} {d d' d'' : Row} (h : Same a b d d') (k : Same a b d' d'') : Same a b d d'' := by
  refine ⟨fun i hi => (k.out i hi).trans (h.out i hi), fun i h1 h2 => ?_, fun j h1 h2 => ?_⟩
  · obtain ⟨j, q1, q2, q3⟩ := k.to_ i h1 h2
    obtain ⟨m, r1, r2, r3⟩ := h.to_ j q1 q2
    exact ⟨m, r1, r2, q3.trans r3⟩
  · obtain ⟨m, r1, r2, r3⟩ := h.from_ j h1 h2
    obtain ⟨i, q1, q2, q3⟩ := k.from_ m r1 r2
    exact ⟨i, q1, q2, q3.trans r3⟩
theorem Same.mono {a b a' b' : Nat} {d d' : Row} (h : Same a b d d') (ha : a' ≤ a) (hb : b ≤ b') : Same a' b' d d' := by
  refine ⟨fun i hi => h.out i (by omega), fun i h1 h2 => ?_, fun j h1 h2 => ?_⟩
  · by_cases hi : a ≤ i ∧ i < b
    · obtain ⟨j, q1, q2, q3⟩ := h.to_ i hi.1 hi.2
      exact ⟨j, by omega, by omega, q3⟩
    · exact ⟨i, h1, h2, h.out i hi⟩
  · by_cases hi : a ≤ j ∧ j < b
    · obtain ⟨i, q1, q2, q3⟩ := h.from_ j hi.1 hi.2
      exact ⟨i, by omega, by omega, q3⟩
    · exact ⟨j, h1, h2, h.out j hi⟩
theorem Same.swap {a b i j : Nat} (d : Row) (hi : a ≤ i ∧ i < b) (hj : a ≤ j ∧ j < b) : Same a b d (swF d i j) := by
  refine ⟨fun k hk => ?_, fun k h1 h2 => ?_, fun k h1 h2 => ?_⟩
  · unfold swF; rw [if_neg (by omega), if_neg (by omega)]
  · unfold swF
    by_cases e1 : k = i
    · exact ⟨j, hj.1, hj.2, by rw [if_pos e1]⟩
    · by_cases e2 : k = j
      · exact ⟨i, hi.1, hi.2, by rw [if_neg e1, if_pos e2]⟩
      · exact ⟨k, h1, h2, by rw [if_neg e1, if_neg e2]⟩
  · unfold swF
    by_cases e1 : k = i
    · subst e1
      by_cases e2 : j = k
      · exact ⟨k, h1, h2, by rw [if_pos rfl, e2]⟩
      · exact ⟨j, hj.1, hj.2, by rw [if_neg e2, if_pos rfl]⟩
    · by_cases e2 : k = j
      · subst e2
        exact ⟨i, hi.1, hi.2, by rw [if_pos rfl]⟩
      · exact ⟨k, h1, h2, by rw [if_neg e1, if_neg e2]⟩
theorem Srt.mono {a b a' b' : Nat} {d : Row} (h : Srt a b d) (ha : a ≤ a') (hb : b' ≤ b) : Srt a' b' d := fun i j h1 h2 h3 => h i j (by omega) h2 (by omega)
theorem Srt.le {a b : Nat} {d : Row} (h : Srt a b d) {i j : Nat} (h1 : a ≤ i) (h2 : i ≤ j) (h3 : j < b) : (d i).1 ≤ (d j).1 := by
  rcases Nat.lt_or_eq_of_le h2 with h4 | h4
  · exact h i j h1 h4 h3
  · rw [h4]; exact Nat.le_refl _
theorem Srt.small {a b : Nat} (d : Row) (h : b ≤ a + 1) : Srt a b d := fun i j h1 h2 h3 => by omega
theorem Srt.congr {a b : Nat} {d d' : Row} (h : Srt a b d) (he : ∀ i, a ≤ i → i < b → d' i = d i) : Srt a b d' := fun i j h1 h2 h3 => by
  rw [he i h1 (by omega), he j (by omega) h3]; exact h i j h1 h2 h3
/-! ## one more is put in -/
/-- [a, i] is in order, but that what stands at j may be less than what stands ahead of it -/
def Ins (a i j : Nat) (d : Row) : Prop := ∀ p q, a ≤ p → p < q → q ≤ i → q ≠ j → (d p).1 ≤ (d q).1
theorem Ins.start {a i : Nat} {d : Row} (h : Srt a i d) : Ins a i i d := fun p q h1 h2 h3 h4 => h p q h1 h2 (by omega)
theorem Ins.step {a i j : Nat} {d : Row} (h : Ins a i j d) (hj : a < j) (hi : j ≤ i) (hlt : (d j).1 < (d (j - 1)).1) : Ins a i (j - 1) (swF d j (j - 1)) := by
  intro p q h1 h2 h3 h4
  unfold swF
  by_cases q1 : q = j
  · subst q1
    rw [if_pos rfl]
    by_cases p1 : p = q - 1
    · rw [if_neg (by omega), if_pos p1]; omega
    · rw [if_neg (by omega), if_neg p1]
      exact h p (q - 1) h1 (by omega) (by omega) (by omega)
  · rw [if_neg q1, if_neg h4]
    by_cases p1 : p = j
    · subst p1
      rw [if_pos rfl]
      exact h (p - 1) q (by omega) (by omega) h3 q1
    · rw [if_neg p1]
      by_cases p2 : p = j - 1
      · rw [if_pos p2]
        exact h j q (by omega) (by omega) h3 q1
      · rw [if_neg p2]
        exact h p q h1 h2 h3 q1
theorem Ins.stop {a i j : Nat} {d : Row} (h : Ins a i j d) (hs : j ≤ a ∨ (d (j - 1)).1 ≤ (d j).1) : Srt a (i + 1) d := by
  intro p q h1 h2 h3
  by_cases q1 : q = j
  · subst q1
    rcases hs with hs | hs
    · omega
    · by_cases p1 : p = q - 1
      · rw [p1]; exact hs
      · exact Nat.le_trans (h p (q - 1) h1 (by omega) (by omega) (by omega)) hs
  · exact h p q h1 h2 (by omega) q1
/-! ## ranges that change places, and a rotation -/
def srF (d : Row) (a b n : Nat) : Row := fun k => if a ≤ k ∧ k < a + n then d (b + (k - a)) else if b ≤ k ∧ k < b + n then d (a + (k - b)) else d k
theorem srF_zero (d : Row) (a b : Nat) : srF d a b 0 = d := by
  funext k
  unfold srF
  rw [if_neg (by omega), if_neg (by omega)]
theorem srF_step (d : Row) (a b n : Nat) (h : a + n < b) : swF (srF d a b n) (a + n) (b + n) = srF d a b (n + 1) := by
  funext k
  unfold swF srF
  repeat' split
  all_goals first | rfl | omega | (congr 1 <;> omega)
/-- [a, m) and [m, b) change places -/
def rotF (d : Row) (a m b : Nat) : Row := fun k => if a ≤ k ∧ k < b then (if k < a + (b - m) then d (k + (m - a)) else d (k - (b - m))) else d k
theorem rotF_left (d : Row) {m i j : Nat} (hi : i ≤ m) (h : j < i) (hj : 0 < j) : rotF (srF d (m - i) m j) (m - (i - j)) m (m + j) = rotF d (m - i) m (m + j) := by
  funext k
  unfold rotF srF
  repeat' split
  all_goals first | rfl | omega | (congr 1 <;> omega)
theorem rotF_right (d : Row) {m i j : Nat} (hi : i ≤ m) (h : i < j) (hi0 : 0 < i) : rotF (srF d (m - i) (m + j - i) i) (m - i) m (m + (j - i)) = rotF d (m - i) m (m + j) := by
  funext k
  unfold rotF srF
  repeat' split
  all_goals first | rfl | omega | (congr 1 <;> omega)
theorem rotF_even (d : Row) {m i : Nat} (hi : i ≤ m) : srF d (m - i) m i = rotF d (m - i) m (m + i) := by
  funext k
  unfold rotF srF
  repeat' split
  all_goals first | rfl | omega | (congr 1 <;> omega)
theorem rotF_none (d : Row) {a m b : Nat} (h : a = m ∨ m = b) (h1 : a ≤ m) (h2 : m ≤ b) : rotF d a m b = d := by
  funext k
  unfold rotF
  repeat' split
  all_goals first | rfl | omega | (congr 1 <;> omega)
theorem rotF_same (d : Row) {a m b : Nat} (h1 : a ≤ m) (h2 : m ≤ b) : Same a b d (rotF d a m b) := by
  refine ⟨fun k hk => by unfold rotF; rw [if_neg hk], fun k k1 k2 => ?_, fun k k1 k2 => ?_⟩
  · unfold rotF
    rw [if_pos ⟨k1, k2⟩]
    by_cases k3 : k < a + (b - m)
    · exact ⟨k + (m - a), by omega, by omega, by rw [if_pos k3]⟩
    · exact ⟨k - (b - m), by omega, by omega, by rw [if_neg k3]⟩
  · unfold rotF
    by_cases k3 : k < m
    · refine ⟨k + (b - m), by omega, by omega, ?_⟩
      rw [if_pos (by omega), if_neg (by omega)]
      congr 1; omega
    · refine ⟨k - (m - a), by omega, by omega, ?_⟩
      rw [if_pos (by omega), if_pos (by omega)]
      congr 1; omega
/-! ## one against many -/
/-- what stood at a stands at k now, what stood behind it has moved up -/
def upF (d : Row) (a k : Nat) : Row := fun i => if a ≤ i ∧ i < k then d (i + 1) else if i = k then d a else d i
theorem upF_start (d : Row) (a : Nat) : upF d a a = d := by
  funext i
  unfold upF
  rw [if_neg (by omega)]
  split
  · rename_i h; rw [h]
  · rfl
theorem upF_step (d : Row) {a k : Nat} (h : a ≤ k) : swF (upF d a k) k (k + 1) = upF d a (k + 1) := by
  funext i
  unfold swF upF
  by_cases i1 : i = k
  · subst i1
    rw [if_pos rfl, if_neg (by omega), if_neg (by omega), if_pos (by omega)]
  · rw [if_neg i1]
    by_cases i2 : i = k + 1
    · subst i2
      rw [if_pos rfl, if_neg (by omega), if_pos rfl, if_neg (by omega), if_pos rfl]
    · rw [if_neg i2]
      by_cases i3 : a ≤ i ∧ i < k
      · rw [if_pos i3, if_pos (by omega)]
      · rw [if_neg i3, if_neg i1, if_neg (by omega), if_neg i2]
theorem upF_same (d : Row) {a k b : Nat} (h : a ≤ k) (hb : k < b) : Same a b d (upF d a k) := by
  refine ⟨fun i hi => by unfold upF; rw [if_neg (by omega), if_neg (by omega)], fun i h1 h2 => ?_, fun j h1 h2 => ?_⟩
  · unfold upF
    by_cases i1 : a ≤ i ∧ i < k
    · exact ⟨i + 1, by omega, by omega, by rw [if_pos i1]⟩
    · by_cases i2 : i = k
      · exact ⟨a, Nat.le_refl _, by omega, by rw [if_neg i1, if_pos i2]⟩
      · exact ⟨i, h1, h2, by rw [if_neg i1, if_neg i2]⟩
  · unfold upF
    by_cases j1 : j = a
    · exact ⟨k, h, hb, by rw [if_neg (by omega), if_pos rfl, j1]⟩
    · by_cases j2 : j ≤ k
      · exact ⟨j - 1, by omega, by omega, by rw [if_pos (by omega)]; congr 1; omega⟩
      · exact ⟨j, h1, h2, by rw [if_neg (by omega), if_neg (by omega)]⟩
theorem upF_srt {d : Row} {a b i : Nat} (h1 : a + 1 ≤ i) (h2 : i ≤ b) (hs : Srt (a + 1) b d) (hlo : ∀ q, a + 1 ≤ q → q < i → (d q).1 < (d a).1) (hhi : ∀ q, i ≤ q → q < b → (d a).1 ≤ (d q).1) : Srt a b (upF d a (i - 1)) := by
  intro p q p1 p2 p3
  unfold upF
  by_cases k1 : a ≤ p ∧ p < i - 1
  · rw [if_pos k1]
    by_cases k2 : a ≤ q ∧ q < i - 1
    · rw [if_pos k2]; exact hs _ _ (by omega) (by omega) (by omega)
    · rw [if_neg k2]
      by_cases k3 : q = i - 1
      · rw [if_pos k3]; exact Nat.le_of_lt (hlo _ (by omega) (by omega))
      · rw [if_neg k3]; exact hs _ _ (by omega) (by omega) (by omega)
  · rw [if_neg k1]
    by_cases k4 : p = i - 1
    · rw [if_pos k4, if_neg (by omega), if_neg (by omega)]
      exact hhi q (by omega) p3
    · rw [if_neg k4, if_neg (by omega), if_neg (by omega)]
      exact hs _ _ (by omega) p2 p3
/-- what stood at m stands at k now, what stood ahead of it has moved down -/
def dnF (d : Row) (m k : Nat) : Row := fun i => if k < i ∧ i ≤ m then d (i - 1) else if i = k then d m else d i
theorem dnF_start (d : Row) (m : Nat) : dnF d m m = d := by
  funext i
  unfold dnF
  rw [if_neg (by omega)]
  split
  · rename_i h; rw [h]
  · rfl
theorem dnF_step (d : Row) {m k : Nat} (h : k ≤ m) (h0 : 0 < k) : swF (dnF d m k) k (k - 1) = dnF d m (k - 1) := by
  funext i
  unfold swF dnF
  by_cases i1 : i = k
  · subst i1
    rw [if_pos rfl, if_neg (by omega), if_neg (by omega), if_pos (by omega)]
  · rw [if_neg i1]
    by_cases i2 : i = k - 1
    · subst i2
      rw [if_pos rfl, if_neg (by omega), if_pos rfl, if_neg (by omega), if_pos rfl]
    · rw [if_neg i2]
      by_cases i3 : k < i ∧ i ≤ m
      · rw [if_pos i3, if_pos (by omega)]
      · rw [if_neg i3, if_neg i1, if_neg (by omega), if_neg i2]
theorem dnF_same (d : Row) {a m k : Nat} (h : k ≤ m) (ha : a ≤ k) : Same a (m + 1) d (dnF d m k) := by
  refine ⟨fun i hi => by unfold dnF; rw [if_neg (by omega), if_neg (by omega)], fun i h1 h2 => ?_, fun j h1 h2 => ?_⟩
  · unfold dnF
    by_cases i1 : k < i ∧ i ≤ m
    · exact ⟨i - 1, by omega, by omega, by rw [if_pos i1]⟩
    · by_cases i2 : i = k
      · exact ⟨m, by omega, by omega, by rw [if_neg i1, if_pos i2]⟩
      · exact ⟨i, h1, h2, by rw [if_neg i1, if_neg i2]⟩
  · unfold dnF
    by_cases j1 : j = m
    · exact ⟨k, ha, by omega, by rw [if_neg (by omega), if_pos rfl, j1]⟩
    · by_cases j2 : k ≤ j
      · exact ⟨j + 1, by omega, by omega, by rw [if_pos (by omega)]; congr 1⟩
      · exact ⟨j, h1, h2, by rw [if_neg (by omega), if_neg (by omega)]⟩
theorem dnF_srt {d : Row} {a m i : Nat} (h1 : a ≤ i) (h2 : i ≤ m) (hs : Srt a m d) (hlo : ∀ q, a ≤ q → q < i → (d q).1 ≤ (d m).1) (hhi : ∀ q, i ≤ q → q < m → (d m).1 < (d q).1) : Srt a (m + 1) (dnF d m i) := by
  intro p q p1 p2 p3
  unfold dnF
  by_cases k1 : i < q ∧ q ≤ m
  · rw [if_pos k1]
    by_cases k2 : i < p ∧ p ≤ m
    · rw [if_pos k2]; exact hs _ _ (by omega) (by omega) (by omega)
    · rw [if_neg k2]
      by_cases k3 : p = i
      · rw [if_pos k3]; exact Nat.le_of_lt (hhi _ (by omega) (by omega))
      · rw [if_neg k3]; exact hs.le (by omega) (by omega) (by omega)
  · rw [if_neg k1]
    by_cases k4 : q = i
    · rw [if_pos k4, if_neg (by omega), if_neg (by omega)]
      exact hlo p p1 (by omega)
    · rw [if_neg k4, if_neg (by omega), if_neg (by omega)]
      exact hs _ _ p1 p2 (by omega)
/-! ## two halves -/
/-- behind the rotation: both halves are two runs each, and no span of the first is behind one of the second -/
theorem halves {d : Row} {a m b mid s e : Nat} (ha : a ≤ s) (hs1 : s ≤ m) (hs2 : s ≤ mid) (he : e = mid + m - s) (heb : e ≤ b) (hme : m ≤ e) (h1 : Srt a m d) (h2 : Srt m b d)
    (hL : a < s → e < b → (d (s - 1)).1 ≤ (d e).1) (hR : s < m → m < e → (d (e - 1)).1 < (d s).1) :
    Srt a s (rotF d s m e) ∧ Srt s mid (rotF d s m e) ∧ Srt mid e (rotF d s m e) ∧ Srt e b (rotF d s m e) ∧ ∀ i j, a ≤ i → i < mid → mid ≤ j → j < b → ((rotF d s m e) i).1 ≤ ((rotF d s m e) j).1 := by
  have o1 : ∀ i, ¬ (s ≤ i ∧ i < e) → (rotF d s m e) i = d i := fun i hi => by unfold rotF; rw [if_neg hi]
  have o2 : ∀ i, s ≤ i → i < mid → (rotF d s m e) i = d (i + (m - s)) := fun i k1 k2 => by unfold rotF; rw [if_pos (by omega), if_pos (by omega)]
  have o3 : ∀ i, mid ≤ i → i < e → (rotF d s m e) i = d (i - (e - m)) := fun i k1 k2 => by unfold rotF; rw [if_pos (by omega), if_neg (by omega)]
  refine ⟨?_, ?_, ?_, ?_, ?_⟩
  · intro i j k1 k2 k3
    rw [o1 i (by omega), o1 j (by omega)]
    exact h1 i j k1 k2 (by omega)
  · intro i j k1 k2 k3
    rw [o2 i k1 (by omega), o2 j (by omega) k3]
    exact h2 _ _ (by omega) (by omega) (by omega)
  · intro i j k1 k2 k3
    rw [o3 i k1 (by omega), o3 j (by omega) k3]
    exact h1 _ _ (by omega) (by omega) (by omega)
  · intro i j k1 k2 k3
    rw [o1 i (by omega), o1 j (by omega)]
    exact h2 i j (by omega) k2 k3
  · intro i j k1 k2 k3 k4
    by_cases k5 : i < s
    · rw [o1 i (by omega)]
      by_cases k6 : j < e
      · rw [o3 j k3 k6]
        exact h1.le k1 (by omega) (by omega)
      · rw [o1 j (by omega)]
        have q1 := h1.le (i := i) (j := s - 1) k1 (by omega) (by omega)
        have q2 := h2.le (i := e) (j := j) (by omega) (by omega) k4
        have q3 := hL (by omega) (by omega)
        omega
    · rw [o2 i (by omega) k2]
      by_cases k6 : j < e
      · rw [o3 j k3 k6]
        have q1 := h2.le (i := i + (m - s)) (j := e - 1) (by omega) (by omega) (by omega)
        have q2 := h1.le (i := s) (j := j - (e - m)) (by omega) (by omega) (by omega)
        have q3 := hR (by omega) (by omega)
        omega
      · rw [o1 j (by omega)]
        exact h2.le (by omega) (by omega) k4
/-- two runs, none of the first behind one of the second, are one -/
theorem Srt.glue {a m b : Nat} {d : Row} (h1 : Srt a m d) (h2 : Srt m b d) (hc : ∀ i j, a ≤ i → i < m → m ≤ j → j < b → (d i).1 ≤ (d j).1) : Srt a b d := by
  intro i j k1 k2 k3
  by_cases k4 : j < m
  · exact h1 i j k1 k2 k4
  · by_cases k5 : i < m
    · exact hc i j k1 k5 (by omega) k3
    · exact h2 i j (by omega) k2 k3
/-- each half may be set in order by itself -/
theorem cross {a m b : Nat} {d d1 d2 : Row} (hc : ∀ i j, a ≤ i → i < m → m ≤ j → j < b → (d i).1 ≤ (d j).1) (h1 : Same a m d d1) (h2 : Same m b d1 d2) (i j : Nat) (k1 : a ≤ i) (k2 : i < m) (k3 : m ≤ j) (k4 : j < b) : (d2 i).1 ≤ (d2 j).1 := by
  rw [h2.out i (by omega)]
  obtain ⟨p, p1, p2, p3⟩ := h1.to_ i k1 k2
  obtain ⟨q, q1, q2, q3⟩ := h2.to_ j k3 k4
  rw [p3, q3, h1.out q (by omega)]
  exact hc p q p1 p2 q1 q2
/-! ## blocks -/
/-- the row of n spans is in order in blocks of z -/
def Blocks (z n : Nat) (d : Row) : Prop := ∀ q, Srt (q * z) (min ((q + 1) * z) n) d
end Go.Proofs.Ytnnpahjopfkchaa
