/- Plain: which list transomref02.made makes of the pieces between the places. -/
import Derived.Test.YtnnpahjopfkchaaSpEnds
import Derived.Test.YtnnpahjopfkchaaSpan5
set_option linter.unusedVariables false
set_option linter.unusedSimpArgs false
namespace Go.Proofs.Ytnnpahjopfkchaa

def pn (p : List Nat) (i : Nat) : Nat := p.getD i 0
theorem pn_get (p : List Nat) {i : Nat} (h : i < p.length) : pn p i = p[i] := by simp [pn, h]
theorem pn_lt {p : List Nat} (hs : p.Pairwise (· < ·)) {i j : Nat} (hij : i < j) (hj : j < p.length) : pn p i < pn p j := by
  rw [pn_get p (by omega), pn_get p hj]
  exact List.pairwise_iff_getElem.1 hs i j (by omega) hj hij
theorem pn_le {p : List Nat} (hs : p.Pairwise (· < ·)) {i j : Nat} (hij : i ≤ j) (hj : j < p.length) : pn p i ≤ pn p j := by
  rcases Nat.lt_or_eq_of_le hij with h | h
  · exact Nat.le_of_lt (pn_lt hs h hj)
  · rw [h]; exact Nat.le_refl _
theorem mem_pn {p : List Nat} {v : Nat} (h : v ∈ p) : ∃ i, i < p.length ∧ pn p i = v := by
  obtain ⟨i, hi, rfl⟩ := List.mem_iff_getElem.1 h
  exact ⟨i, hi, pn_get p hi⟩
/-- between two places beside each other nothing begins or ends -/
theorem between {p : List Nat} (hs : p.Pairwise (· < ·)) {i n a b : Nat} (hi : i + 1 < p.length) (h1 : pn p i ≤ n) (h2 : n < pn p (i + 1)) (ha : a ∈ p) (hb : b ∈ p) : (a ≤ pn p i ∧ pn p i < b) ↔ (a ≤ n ∧ n < b) := by
  obtain ⟨ia, hia, rfl⟩ := mem_pn ha
  obtain ⟨ib, hib, rfl⟩ := mem_pn hb
  constructor
  · rintro ⟨h3, h4⟩
    refine ⟨by omega, ?_⟩
    have : i < ib := by
      rcases Nat.lt_or_ge i ib with h | h
      · exact h
      · have := pn_le hs h (by omega : i < p.length); omega
    have := pn_le hs (by omega : i + 1 ≤ ib) hib
    omega
  · rintro ⟨h3, h4⟩
    refine ⟨?_, by omega⟩
    have : ia < i + 1 := by
      rcases Nat.lt_or_ge ia (i + 1) with h | h
      · exact h
      · have := pn_le hs h hia; omega
    exact pn_le hs (by omega : ia ≤ i) (by omega)
theorem piece {p : List Nat} (hs : p.Pairwise (· < ·)) {n a b : Nat} (ha : a ∈ p) (hb : b ∈ p) (h1 : a ≤ n) (h2 : n < b) : ∃ i, i + 1 < p.length ∧ pn p i ≤ n ∧ n < pn p (i + 1) := by
  obtain ⟨ia, hia, rfl⟩ := mem_pn ha
  obtain ⟨ib, hib, rfl⟩ := mem_pn hb
  obtain ⟨N, hN⟩ := stopG (fun j => n < pn p j) p.length
  have hlt := hN.ex.1 ⟨ib, hib, h2⟩
  have hh := hN.here hlt
  have h0 : ia < N := by
    rcases Nat.lt_or_ge ia N with h | h
    · exact h
    · have := pn_le hs h hia; omega
  obtain ⟨i, rfl⟩ : ∃ i, N = i + 1 := ⟨N - 1, by omega⟩
  have := hN.ahead i (by omega)
  exact ⟨i, hlt, by omega, hh⟩
def want (add : Bool) (l : List Sp) (x : Sp) (n : Nat) : Prop := (cov l n ∧ (add = true ∨ ¬ (x.1 ≤ n ∧ n < x.2))) ∨ (add = true ∧ x.1 ≤ n ∧ n < x.2)
section
variable {add : Bool} {l : List Sp} {x : Sp} {p : List Nat}
theorem EndK.from_ (h : EndK (l ++ [x]) p) {q : Sp} (hq : q ∈ l ++ [x]) : q.1 ∈ p ∧ q.2 ∈ p := ⟨(h.mem _).2 ⟨q, hq, .inl rfl⟩, (h.mem _).2 ⟨q, hq, .inr rfl⟩⟩
theorem want_const (h : EndK (l ++ [x]) p) {i n : Nat} (hi : i + 1 < p.length) (h1 : pn p i ≤ n) (h2 : n < pn p (i + 1)) : want add l x (pn p i) ↔ want add l x n := by
  have hx := between h.sorted hi h1 h2 (h.from_ (q := x) (by simp)).1 (h.from_ (q := x) (by simp)).2
  have hl : cov l (pn p i) ↔ cov l n := by
    constructor
    · rintro ⟨q, hq, h3⟩
      exact ⟨q, hq, (between h.sorted hi h1 h2 (h.from_ (List.mem_append_left _ hq)).1 (h.from_ (List.mem_append_left _ hq)).2).1 h3⟩
    · rintro ⟨q, hq, h3⟩
      exact ⟨q, hq, (between h.sorted hi h1 h2 (h.from_ (List.mem_append_left _ hq)).1 (h.from_ (List.mem_append_left _ hq)).2).2 h3⟩
  unfold want
  rw [hl, hx]
theorem want_piece (h : EndK (l ++ [x]) p) {n : Nat} (hw : want add l x n) : ∃ i, i + 1 < p.length ∧ pn p i ≤ n ∧ n < pn p (i + 1) := by
  rcases hw with ⟨⟨q, hq, h1, h2⟩, _⟩ | ⟨_, h1, h2⟩
  · exact piece h.sorted (h.from_ (List.mem_append_left _ hq)).1 (h.from_ (List.mem_append_left _ hq)).2 h1 h2
  · exact piece h.sorted (h.from_ (q := x) (by simp)).1 (h.from_ (q := x) (by simp)).2 h1 h2
/-- the state of made's loop -/
structure InvM (add : Bool) (l : List Sp) (x : Sp) (p : List Nat) (k : Nat) (o : List Sp) : Prop where
  norm : Norm o
  cov_ : ∀ n, cov o n ↔ ∃ i, i < k ∧ pn p i ≤ n ∧ n < pn p (i + 1) ∧ want add l x (pn p i)
  top : ∀ q ∈ o, q.2 ≤ pn p k
  len : o.length ≤ k
theorem invM_nil : InvM add l x p 0 [] := ⟨trivial, fun n => ⟨fun h => absurd h (cov_nil n), fun ⟨i, h, _⟩ => by omega⟩, fun q hq => by (cases hq), Nat.le_refl _⟩
variable {k : Nat} {o : List Sp} {q : Sp}
theorem InvM.skip (h : InvM add l x p k o) (hs : p.Pairwise (· < ·)) (hk : k + 1 < p.length) (hw : ¬ want add l x (pn p k)) : InvM add l x p (k + 1) o := by
  refine ⟨h.norm, fun n => ?_, fun q hq => ?_, by have := h.len; omega⟩
  · rw [h.cov_]
    constructor
    · rintro ⟨i, h1, h2⟩; exact ⟨i, by omega, h2⟩
    · rintro ⟨i, h1, h2, h3, h4⟩
      by_cases e : i = k
      · subst e; exact absurd h4 hw
      · exact ⟨i, by omega, h2, h3, h4⟩
  · have := h.top q hq
    have := pn_lt hs (by omega : k < k + 1) hk
    omega
theorem InvM.new (h : InvM add l x p k o) (hs : p.Pairwise (· < ·)) (hk : k + 1 < p.length) (hw : want add l x (pn p k)) (hlt : ∀ q ∈ o, q.2 ≠ pn p k) : InvM add l x p (k + 1) (o ++ [(pn p k, pn p (k + 1))]) := by
  have hp := pn_lt hs (by omega : k < k + 1) hk
  refine ⟨(norm_snoc _ _).2 ⟨h.norm, hp, fun r hr => by have := h.top r hr; have := hlt r hr; simp only; omega⟩, fun n => ?_, fun q hq => ?_, by have := h.len; simp; omega⟩
  · rw [cov_append, h.cov_, cov_one]
    simp only
    constructor
    · rintro (⟨i, h1, h2⟩ | h1)
      · exact ⟨i, by omega, h2⟩
      · exact ⟨k, by omega, h1.1, h1.2, hw⟩
    · rintro ⟨i, h1, h2, h3, h4⟩
      by_cases e : i = k
      · subst e; exact .inr ⟨h2, h3⟩
      · exact .inl ⟨i, by omega, h2, h3, h4⟩
  · rcases List.mem_append.1 hq with hq | hq
    · have := h.top q hq; omega
    · rw [List.mem_singleton.1 hq]; exact Nat.le_refl _
theorem InvM.join (h : InvM add l x p k (o ++ [q])) (hs : p.Pairwise (· < ·)) (hk : k + 1 < p.length) (hw : want add l x (pn p k)) (hq : q.2 = pn p k) : InvM add l x p (k + 1) (o ++ [(q.1, pn p (k + 1))]) := by
  have hp := pn_lt hs (by omega : k < k + 1) hk
  obtain ⟨n1, n2, n3⟩ := (norm_snoc _ _).1 h.norm
  refine ⟨(norm_snoc _ _).2 ⟨n1, by simp only; omega, n3⟩, fun n => ?_, fun r hr => ?_, by have := h.len; simp at this ⊢; omega⟩
  · have hc := h.cov_ n
    rw [cov_append, cov_one] at hc
    rw [cov_append, cov_one]
    simp only
    constructor
    · rintro (h1 | h1)
      · obtain ⟨i, h2, h3⟩ := hc.1 (.inl h1)
        exact ⟨i, by omega, h3⟩
      · by_cases h2 : n < q.2
        · obtain ⟨i, h3, h4⟩ := hc.1 (.inr ⟨h1.1, h2⟩)
          exact ⟨i, by omega, h4⟩
        · exact ⟨k, by omega, by omega, h1.2, hw⟩
    · rintro ⟨i, h1, h2, h3, h4⟩
      by_cases e : i = k
      · subst e; exact .inr (by omega)
      · rcases hc.2 ⟨i, by omega, h2, h3, h4⟩ with h5 | h5
        · exact .inl h5
        · exact .inr (by omega)
  · rcases List.mem_append.1 hr with hr | hr
    · have := h.top r (List.mem_append_left _ hr); omega
    · rw [List.mem_singleton.1 hr]; exact Nat.le_refl _
theorem InvM.done (h : InvM add l x p k o) (hE : EndK (l ++ [x]) p) (hk : k + 1 = p.length) (hl : Norm l) (hx : x.1 ≤ x.2) : o = setS add l x :=
  Norm.ext h.norm (setS_norm hl hx) fun n => by
    rw [setS_cov hl hx, h.cov_]
    show _ ↔ want add l x n
    constructor
    · rintro ⟨i, h1, h2, h3, h4⟩
      exact (want_const hE (by omega) h2 h3).1 h4
    · intro hw
      obtain ⟨i, h1, h2, h3⟩ := want_piece hE hw
      exact ⟨i, by omega, h2, h3, (want_const hE h1 h2 h3).2 hw⟩
end
end Go.Proofs.Ytnnpahjopfkchaa
