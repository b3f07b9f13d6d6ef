/- Plain: lists of spans, in order and apart from each other, are told by their numbers. -/
import Derived.Test.YtnnpahjopfkchaaBase
set_option linter.unusedVariables false
set_option linter.unusedSimpArgs false
namespace Go.Proofs.Ytnnpahjopfkchaa

abbrev Sp := Nat × Nat
def cov (l : List Sp) (x : Nat) : Prop := ∃ q ∈ l, q.1 ≤ x ∧ x < q.2
def Norm : List Sp → Prop
  | [] => True
  | q :: l => q.1 < q.2 ∧ (∀ r ∈ l, q.2 < r.1) ∧ Norm l
theorem cov_nil (x : Nat) : ¬ cov [] x := by rintro ⟨q, h, _⟩; cases h
theorem cov_cons (q : Sp) (l : List Sp) (x : Nat) : cov (q :: l) x ↔ (q.1 ≤ x ∧ x < q.2) ∨ cov l x := by
  constructor
  · rintro ⟨r, h, h1, h2⟩
    rcases List.mem_cons.1 h with rfl | h
    · exact .inl ⟨h1, h2⟩
    · exact .inr ⟨r, h, h1, h2⟩
  · rintro (h | ⟨r, h, h1⟩)
    · exact ⟨q, List.mem_cons_self, h⟩
    · exact ⟨r, List.mem_cons_of_mem _ h, h1⟩
theorem cov_append (l m : List Sp) (x : Nat) : cov (l ++ m) x ↔ cov l x ∨ cov m x := by
  constructor
  · rintro ⟨r, h, h1⟩
    rcases List.mem_append.1 h with h | h
    · exact .inl ⟨r, h, h1⟩
    · exact .inr ⟨r, h, h1⟩
  · rintro (⟨r, h, h1⟩ | ⟨r, h, h1⟩)
    · exact ⟨r, List.mem_append_left _ h, h1⟩
    · exact ⟨r, List.mem_append_right _ h, h1⟩
theorem Norm.lt {l : List Sp} (h : Norm l) : ∀ q ∈ l, q.1 < q.2 := by
  induction l with
  | nil => intro q hq; cases hq
  | cons r l ih =>
    intro q hq
    rcases List.mem_cons.1 hq with rfl | hq
    · exact h.1
    · exact ih h.2.2 q hq
theorem Norm.tail {q : Sp} {l : List Sp} (h : Norm (q :: l)) : Norm l := h.2.2
theorem Norm.after {q : Sp} {l : List Sp} (h : Norm (q :: l)) {x : Nat} (hx : cov l x) : q.2 < x := by
  obtain ⟨r, hr, h1, _⟩ := hx
  have := h.2.1 r hr
  omega
theorem Norm.ext : ∀ {l m : List Sp}, Norm l → Norm m → (∀ x, cov l x ↔ cov m x) → l = m
  | [], [], _, _, _ => rfl
  | [], q :: m, _, hm, h => (cov_nil q.1 ((h q.1).2 ((cov_cons _ _ _).2 (.inl ⟨Nat.le_refl _, hm.1⟩)))).elim
  | p :: l, [], hl, _, h => (cov_nil p.1 ((h p.1).1 ((cov_cons _ _ _).2 (.inl ⟨Nat.le_refl _, hl.1⟩)))).elim
  | p :: l, q :: m, hl, hm, h => by
    have h1 : p.1 = q.1 := by
      have a := (h p.1).1 ((cov_cons _ _ _).2 (.inl ⟨Nat.le_refl _, hl.1⟩))
      have b := (h q.1).2 ((cov_cons _ _ _).2 (.inl ⟨Nat.le_refl _, hm.1⟩))
      rw [cov_cons] at a b
      have c : q.1 ≤ p.1 := by
        rcases a with a | a
        · exact a.1
        · have := hm.after a; have := hm.1; omega
      have d : p.1 ≤ q.1 := by
        rcases b with b | b
        · exact b.1
        · have := hl.after b; have := hl.1; omega
      omega
    have h2 : p.2 = q.2 := by
      rcases Nat.lt_trichotomy p.2 q.2 with hlt | he | hlt
      · have a := (h p.2).2 ((cov_cons _ _ _).2 (.inl ⟨by have := hl.1; omega, hlt⟩))
        rw [cov_cons] at a
        rcases a with a | a
        · omega
        · have := hl.after a; omega
      · exact he
      · have a := (h q.2).1 ((cov_cons _ _ _).2 (.inl ⟨by have := hm.1; omega, hlt⟩))
        rw [cov_cons] at a
        rcases a with a | a
        · omega
        · have := hm.after a; omega
    have h3 : p = q := Prod.ext h1 h2
    subst h3
    rw [Norm.ext hl.2.2 hm.2.2 (fun x => by
      have a := h x
      rw [cov_cons, cov_cons] at a
      constructor
      · intro hx
        have := hl.after hx
        rcases a.1 (.inr hx) with b | b
        · omega
        · exact b
      · intro hx
        have := hm.after hx
        rcases a.2 (.inr hx) with b | b
        · omega
        · exact b)]
/-- a list, and one more span: what touches becomes one -/
def joinS : List Sp → Sp → List Sp
  | [], p => [p]
  | q :: l, p => if q.2 < p.1 then q :: joinS l p else if p.2 < q.1 then p :: q :: l else joinS l (min p.1 q.1, max p.2 q.2)
theorem joinS_low : ∀ (l : List Sp) (p : Sp) (b : Nat), (∀ r ∈ l, b < r.1) → b < p.1 → ∀ r ∈ joinS l p, b < r.1
  | [], p, b, _, hp, r, hr => by
    obtain rfl : r = p := by simpa [joinS] using hr
    exact hp
  | q :: l, p, b, hl, hp, r, hr => by
    have hq := hl q List.mem_cons_self
    have hl' : ∀ r ∈ l, b < r.1 := fun r h => hl r (List.mem_cons_of_mem _ h)
    unfold joinS at hr
    split at hr
    · rcases List.mem_cons.1 hr with rfl | hr
      · exact hq
      · exact joinS_low l p b hl' hp r hr
    · split at hr
      · rcases List.mem_cons.1 hr with rfl | hr
        · exact hp
        · exact hl r hr
      · exact joinS_low l _ b hl' (by simp only; omega) r hr
theorem joinS_norm : ∀ (l : List Sp) (p : Sp), Norm l → p.1 < p.2 → Norm (joinS l p)
  | [], p, _, hp => ⟨hp, fun r h => by (cases h), trivial⟩
  | q :: l, p, hl, hp => by
    have hq := hl.1
    unfold joinS
    split
    · exact ⟨hq, joinS_low l p q.2 hl.2.1 (by assumption), joinS_norm l p hl.2.2 hp⟩
    · split
      · refine ⟨hp, fun r hr => ?_, hl⟩
        rcases List.mem_cons.1 hr with rfl | hr
        · assumption
        · have := hl.2.1 r hr; omega
      · exact joinS_norm l _ hl.2.2 (by simp only; omega)
theorem joinS_cov : ∀ (l : List Sp) (p : Sp) (x : Nat), p.1 < p.2 → (∀ r ∈ l, r.1 < r.2) → (cov (joinS l p) x ↔ cov l x ∨ (p.1 ≤ x ∧ x < p.2))
  | [], p, x, _, _ => by
    unfold joinS
    rw [cov_cons]
    exact or_comm
  | q :: l, p, x, hp, hl => by
    have hq := hl q List.mem_cons_self
    have hl' : ∀ r ∈ l, r.1 < r.2 := fun r h => hl r (List.mem_cons_of_mem _ h)
    unfold joinS
    split
    · rw [cov_cons, cov_cons, joinS_cov l p x hp hl', or_assoc]
    · split
      · rw [cov_cons, or_comm]
      · rw [joinS_cov l _ x (by simp only; omega) hl', cov_cons]
        simp only
        constructor
        · rintro (h | h)
          · exact .inl (.inr h)
          · by_cases h1 : p.1 ≤ x ∧ x < p.2
            · exact .inr h1
            · exact .inl (.inl (by omega))
        · rintro ((h | h) | h)
          · exact .inr (by omega)
          · exact .inl h
          · exact .inr (by omega)
theorem joinS_len : ∀ (l : List Sp) (p : Sp), (joinS l p).length ≤ l.length + 1
  | [], p => by simp [joinS]
  | q :: l, p => by
    unfold joinS
    split
    · have := joinS_len l p; simp only [List.length_cons]; omega
    · split
      · simp
      · have := joinS_len l (min p.1 q.1, max p.2 q.2); simp only [List.length_cons]; omega
theorem joinS_in : ∀ (l : List Sp) (p : Sp), ∃ r ∈ joinS l p, r.1 ≤ p.1 ∧ p.2 ≤ r.2
  | [], p => ⟨p, by simp [joinS], Nat.le_refl _, Nat.le_refl _⟩
  | q :: l, p => by
    unfold joinS
    split
    · obtain ⟨r, h, h1⟩ := joinS_in l p
      exact ⟨r, List.mem_cons_of_mem _ h, h1⟩
    · split
      · exact ⟨p, List.mem_cons_self, Nat.le_refl _, Nat.le_refl _⟩
      · obtain ⟨r, h, h1, h2⟩ := joinS_in l (min p.1 q.1, max p.2 q.2)
        simp only at h1 h2
        exact ⟨r, h, by omega, by omega⟩
/-- what is in one of them already adds nothing -/
theorem joinS_same {l : List Sp} {p : Sp} (hl : Norm l) (hp : p.1 < p.2) {r : Sp} (hr : r ∈ l) (h1 : r.1 ≤ p.1) (h2 : p.2 ≤ r.2) : joinS l p = l :=
  Norm.ext (joinS_norm l p hl hp) hl fun x => by
    rw [joinS_cov l p x hp hl.lt]
    constructor
    · rintro (h | h)
      · exact h
      · exact ⟨r, hr, by omega, by omega⟩
    · exact .inl
theorem Norm.head {q : Sp} {l : List Sp} (h : Norm (q :: l)) {x : Nat} (hx : cov (q :: l) x) : q.1 ≤ x := by
  rw [cov_cons] at hx
  rcases hx with hx | hx
  · exact hx.1
  · have := h.after hx; have := h.1; omega
/-- two of them that have a number in common are one -/
theorem Norm.uniq {l : List Sp} (h : Norm l) {q r : Sp} (hq : q ∈ l) (hr : r ∈ l) {x : Nat} (h1 : q.1 ≤ x) (h2 : x < q.2) (h3 : r.1 ≤ x) (h4 : x < r.2) : q = r := by
  induction l with
  | nil => cases hq
  | cons p l ih =>
    rcases List.mem_cons.1 hq with e1 | e1 <;> rcases List.mem_cons.1 hr with e2 | e2
    · rw [e1, e2]
    · have := h.2.1 r e2; subst e1; omega
    · have := h.2.1 q e1; subst e2; omega
    · exact ih h.2.2 e1 e2
end Go.Proofs.Ytnnpahjopfkchaa
