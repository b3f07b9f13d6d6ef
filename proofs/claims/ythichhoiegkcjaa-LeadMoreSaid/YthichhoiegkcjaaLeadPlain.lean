/- PLAIN: how a stream begins with a text (layer 21): no program in sight. -/
namespace Go.Proofs.Ythichhoiegkcjaa

/-- how many bytes two lists have that are the same, from the front on -/
def lcp : List UInt8 → List UInt8 → Nat
  | a :: l, b :: m => if a = b then lcp l m + 1 else 0
  | _, _ => 0

theorem lcp_le_left (l m : List UInt8) : lcp l m ≤ l.length := by
  induction l generalizing m with
  | nil => simp [lcp]
  | cons a l ih => cases m with
    | nil => simp [lcp]
    | cons b m => simp only [lcp]; have := ih m; split <;> simp <;> omega

theorem lcp_le_right (l m : List UInt8) : lcp l m ≤ m.length := by
  induction l generalizing m with
  | nil => simp [lcp]
  | cons a l ih => cases m with
    | nil => simp [lcp]
    | cons b m => simp only [lcp]; have := ih m; split <;> simp <;> omega

theorem lcp_step (l m : List UInt8) (k : Nat) (h1 : k < l.length) (h2 : k < m.length) (h : k ≤ lcp l m) : (l[k] = m[k] → k + 1 ≤ lcp l m) ∧ (l[k] ≠ m[k] → k = lcp l m) := by
  induction l generalizing m k with
  | nil => simp at h1
  | cons a l ih => cases m with
    | nil => simp at h2
    | cons b m =>
      cases k with
      | zero =>
        simp only [lcp]
        constructor
        · intro e; simp at e; simp [e]
        · intro e; simp at e; simp [e]
      | succ k =>
        simp only [lcp] at h ⊢
        split at h
        · rename_i e
          have := ih m k (by simpa using h1) (by simpa using h2) (by omega)
          simp only [List.getElem_cons_succ, if_pos e]
          exact ⟨fun e => by have := this.1 e; omega, fun e => by have := this.2 e; omega⟩
        · omega

theorem lcp_right (p t : List UInt8) : lcp p t = t.length ↔ t <+: p := by
  induction p generalizing t with
  | nil => cases t <;> simp [lcp]
  | cons a l ih => cases t with
    | nil => simp [lcp]
    | cons b m =>
      simp only [lcp, List.cons_prefix_cons, List.length_cons]
      by_cases h : a = b
      · simp [h, ih m]
      · simp [h, Ne.symm h]

theorem lcp_left (p t : List UInt8) : lcp p t = p.length ↔ p <+: t := by
  induction p generalizing t with
  | nil => cases t <;> simp [lcp]
  | cons a l ih => cases t with
    | nil => simp [lcp]
    | cons b m =>
      simp only [lcp, List.cons_prefix_cons, List.length_cons]
      by_cases h : a = b
      · simp [h, ih m]
      · simp [h]

theorem lcp_lt (p t : List UInt8) : lcp p t < p.length ↔ ¬ p <+: t := by
  have := lcp_le_left p t
  rw [← lcp_left]
  omega

/-- what 'lead.Of' answers: 2 yes, 1 no, 0 unknown -/
def leadOf (p t : List UInt8) (over : Bool) : Int := if t <+: p then 2 else if p <+: t ∧ over = false then 0 else 1

theorem leadOf_bounds (p t : List UInt8) (over : Bool) : leadOf p t over = 0 ∨ leadOf p t over = 1 ∨ leadOf p t over = 2 := by
  unfold leadOf; split
  · simp
  · split <;> simp

theorem leadOf_stays (p t m : List UInt8) (h : leadOf p t false ≠ 0) : leadOf (p ++ m) t false = leadOf p t false ∧ leadOf p t true = leadOf p t false := by
  unfold leadOf at h ⊢
  by_cases h1 : t <+: p
  · simp only [h1, if_true]
    rw [if_pos (h1.trans (List.prefix_append _ _))]
    simp
  · simp only [h1, if_false] at h ⊢
    by_cases h2 : p <+: t
    · simp [h2] at h
    · have h3 : ¬ t <+: p ++ m := by
        intro h3
        rcases List.prefix_or_prefix_of_prefix h3 (List.prefix_append p m) with h | h
        · exact h1 h
        · exact h2 h
      have h4 : ¬ p ++ m <+: t := fun h4 => h2 ((List.prefix_append _ _).trans h4)
      simp [h2, h3, h4]

theorem leadOf_zero {p t : List UInt8} (h : leadOf p t false = 0) : p.length < t.length ∧ ∃ r, r ≠ [] ∧ t = p ++ r ∧ t.drop p.length = r := by
  unfold leadOf at h
  by_cases h1 : t <+: p
  · simp [h1] at h
  · by_cases h2 : p <+: t
    · obtain ⟨r, rfl⟩ := h2
      have hr : r ≠ [] := by rintro rfl; simp at h1
      refine ⟨?_, r, hr, rfl, by simp⟩
      have := List.length_pos_iff.2 hr
      simp; omega
    · simp [h1, h2] at h

theorem leadOf_refl (p : List UInt8) (over : Bool) : leadOf p p over = 2 := by simp [leadOf]

theorem leadOf_over {p t : List UInt8} (h : leadOf p t false = 0) : leadOf p t true = 1 := by
  unfold leadOf at h ⊢
  by_cases h1 : t <+: p
  · simp [h1] at h
  · simp [h1]

theorem leadOf_other (p : List UInt8) (a b : UInt8) (r s : List UInt8) (h : a ≠ b) : leadOf (p ++ b :: s) (p ++ a :: r) false = 1 := by
  unfold leadOf
  rw [if_neg, if_neg]
  · rw [List.prefix_append_right_inj, List.cons_prefix_cons]
    rintro ⟨⟨h1, _⟩, _⟩
    exact h h1.symm
  · rw [List.prefix_append_right_inj, List.cons_prefix_cons]
    rintro ⟨h1, _⟩
    exact h h1

theorem leadOf_two {p t : List UInt8} {over : Bool} : leadOf p t over = 2 ↔ t <+: p := by
  unfold leadOf
  by_cases h : t <+: p
  · simp [h]
  · by_cases h2 : p <+: t ∧ over = false <;> simp [h, h2]
theorem leadOf_nil {p t : List UInt8} {over : Bool} : leadOf p t over = 0 ↔ ¬ t <+: p ∧ p <+: t ∧ over = false := by
  unfold leadOf
  by_cases h : t <+: p
  · simp [h]
  · by_cases h2 : p <+: t ∧ over = false <;> simp [h, h2]
theorem leadOf_one {p t : List UInt8} {over : Bool} : leadOf p t over = 1 ↔ ¬ t <+: p ∧ ¬ (p <+: t ∧ over = false) := by
  unfold leadOf
  by_cases h : t <+: p
  · simp [h]
  · by_cases h2 : p <+: t ∧ over = false <;> simp [h, h2]

/-- a stream that begins with a text begins with each beginning of it: which answers may stand beside each other -/
theorem leadOf_take (p a : List UInt8) (k : Nat) (over : Bool) :
    (leadOf p a over = 2 → leadOf p (a.take k) over = 2) ∧ (leadOf p (a.take k) over = 1 → leadOf p a over = 1) ∧ (leadOf p (a.take k) over = 0 → leadOf p a over = 0) := by
  have ht := List.take_prefix k a
  simp only [leadOf_two, leadOf_one, leadOf_nil]
  refine ⟨fun h => ht.trans h, fun ⟨h1, h2⟩ => ⟨fun h => h1 (ht.trans h), fun ⟨h3, h4⟩ => ?_⟩, fun ⟨h1, h2, h3⟩ => ⟨fun h => h1 (ht.trans h), h2.trans ht, h3⟩⟩
  rcases List.prefix_or_prefix_of_prefix h3 ht with h | h
  · exact h2 ⟨h, h4⟩
  · exact h1 h

theorem leadOf_both (p a b : List UInt8) (over : Bool) (h1 : leadOf p a over = 2) (h2 : leadOf p b over = 2) : leadOf a b true = 2 ∨ leadOf b a true = 2 := by
  simp only [leadOf_two] at *
  rcases List.prefix_or_prefix_of_prefix h1 h2 with h | h
  · exact .inr h
  · exact .inl h

theorem leadOf_head (a : List UInt8) (k : Nat) : leadOf a (a.take k) true = 2 := leadOf_two.2 (List.take_prefix k a)
end Go.Proofs.Ythichhoiegkcjaa
