/- Plain: what Add and Cut make of a list; the steps of their loops. -/
import Derived.Test.YtnnpahjopfkchaaSpan1
set_option linter.unusedVariables false
set_option linter.unusedSimpArgs false
namespace Go.Proofs.Ytnnpahjopfkchaa

theorem norm_snoc : ∀ (o : List Sp) (y : Sp), Norm (o ++ [y]) ↔ Norm o ∧ y.1 < y.2 ∧ ∀ r ∈ o, r.2 < y.1
  | [], y => ⟨fun h => ⟨trivial, h.1, fun r hr => by cases hr⟩, fun h => ⟨h.2.1, fun r hr => by (cases hr), trivial⟩⟩
  | q :: o, y => by
    have ih := norm_snoc o y
    constructor
    · rintro ⟨h1, h2, h3⟩
      obtain ⟨i1, i2, i3⟩ := ih.1 h3
      refine ⟨⟨h1, fun r hr => h2 r (List.mem_append_left _ hr), i1⟩, i2, fun r hr => ?_⟩
      rcases List.mem_cons.1 hr with rfl | hr
      · exact h2 y (by simp)
      · exact i3 r hr
    · rintro ⟨⟨h1, h2, h3⟩, h4, h5⟩
      refine ⟨h1, fun r hr => ?_, ih.2 ⟨h3, h4, fun r hr => h5 r (List.mem_cons_of_mem _ hr)⟩⟩
      rcases List.mem_append.1 hr with hr | hr
      · exact h2 r hr
      · obtain rfl : r = y := by simpa using hr
        exact h5 q List.mem_cons_self
theorem cov_one (q : Sp) (n : Nat) : cov [q] n ↔ q.1 ≤ n ∧ n < q.2 := by
  rw [cov_cons]
  exact ⟨fun h => h.elim id fun h => absurd h (cov_nil n), .inl⟩
/-- the state of Add's loop -/
structure InvA (m o : List Sp) : Prop where
  norm : Norm o
  cov_ : ∀ n, cov o n ↔ cov m n
  from_ : ∀ q ∈ o, ∃ r ∈ m, r.1 = q.1
  len : o.length ≤ m.length
theorem invA_nil : InvA [] [] := ⟨trivial, fun _ => Iff.rfl, fun q hq => by (cases hq), Nat.le_refl _⟩
theorem InvA.empty {m : List Sp} {o : List Sp} {y : Sp} (h : InvA m o) (hy : y.1 < y.2) (hf : ∀ q ∈ o, q.2 < y.1) : InvA (m ++ [y]) (o ++ [y]) where
  norm := (norm_snoc _ _).2 ⟨h.norm, hy, hf⟩
  cov_ n := by rw [cov_append, cov_append, h.cov_]
  from_ q hq := by
    rcases List.mem_append.1 hq with hq | hq
    · obtain ⟨r, hr, e⟩ := h.from_ q hq
      exact ⟨r, List.mem_append_left _ hr, e⟩
    · exact ⟨q, List.mem_append_right _ hq, rfl⟩
  len := by have := h.len; simp; omega
theorem InvA.join {m : List Sp} {o : List Sp} {q y : Sp} (h : InvA m (o ++ [q])) (hy : y.1 < y.2) (hm : ∀ r ∈ m, r.1 ≤ y.1) (hq : y.1 ≤ q.2) : InvA (m ++ [y]) (o ++ [(q.1, max q.2 y.2)]) := by
  obtain ⟨h1, h2, h3⟩ := (norm_snoc _ _).1 h.norm
  obtain ⟨r, hr, e⟩ := h.from_ q (by simp)
  have hqy := hm r hr
  rw [e] at hqy
  refine ⟨(norm_snoc _ _).2 ⟨h1, by simp only; omega, h3⟩, fun n => ?_, fun p hp => ?_, ?_⟩
  · rw [cov_append, cov_append, ← h.cov_, cov_append, cov_one, cov_one, cov_one]
    simp only
    constructor
    · rintro (h | h)
      · exact .inl (.inl h)
      · by_cases hc : n < q.2
        · exact .inl (.inr ⟨h.1, hc⟩)
        · exact .inr (by omega)
    · rintro ((h | h) | h)
      · exact .inl h
      · exact .inr (by omega)
      · exact .inr (by omega)
  · rcases List.mem_append.1 hp with hp | hp
    · obtain ⟨s, hs, e⟩ := h.from_ p (List.mem_append_left _ hp)
      exact ⟨s, List.mem_append_left _ hs, e⟩
    · obtain rfl : p = (q.1, max q.2 y.2) := by simpa using hp
      exact ⟨r, List.mem_append_left _ hr, e⟩
  · have := h.len; simp at this ⊢; omega
theorem cov_mem {l m : List Sp} (h : ∀ x, x ∈ l ↔ x ∈ m) (n : Nat) : cov l n ↔ cov m n :=
  ⟨fun ⟨q, hq, h1⟩ => ⟨q, (h q).1 hq, h1⟩, fun ⟨q, hq, h1⟩ => ⟨q, (h q).2 hq, h1⟩⟩
theorem InvA.done {l L o : List Sp} {x : Sp} (h : InvA L o) (hl : Norm l) (hx : x.1 < x.2) (hL : ∀ q, q ∈ L ↔ q ∈ l ++ [x]) : o = joinS l x :=
  Norm.ext h.norm (joinS_norm l x hl hx) fun n => by rw [h.cov_, cov_mem hL, cov_append, cov_one, joinS_cov l x n hx hl.lt]
/-- what is left of a span -/
def cutP (x q : Sp) : List Sp := (if q.1 < min q.2 x.1 then [(q.1, min q.2 x.1)] else []) ++ (if max q.1 x.2 < q.2 then [(max q.1 x.2, q.2)] else [])
def cutS (l : List Sp) (x : Sp) : List Sp := l.flatMap (cutP x)
theorem cutP_cov {x q : Sp} (hx : x.1 ≤ x.2) (n : Nat) : cov (cutP x q) n ↔ (q.1 ≤ n ∧ n < q.2) ∧ ¬ (x.1 ≤ n ∧ n < x.2) := by
  unfold cutP
  rw [cov_append]
  constructor
  · rintro (h | h)
    · split at h
      · rw [cov_one] at h
        simp only at h
        omega
      · exact absurd h (cov_nil n)
    · split at h
      · rw [cov_one] at h
        simp only at h
        omega
      · exact absurd h (cov_nil n)
  · rintro ⟨h1, h2⟩
    by_cases h3 : n < x.1
    · refine .inl ?_
      rw [if_pos (by omega), cov_one]
      simp only
      omega
    · refine .inr ?_
      rw [if_pos (by omega), cov_one]
      simp only
      omega
theorem cutP_in {x q r : Sp} (h : r ∈ cutP x q) : q.1 ≤ r.1 ∧ r.2 ≤ q.2 ∧ r.1 < r.2 := by
  unfold cutP at h
  rcases List.mem_append.1 h with h | h
  · split at h
    · obtain rfl := List.mem_singleton.1 h
      simp only
      omega
    · cases h
  · split at h
    · obtain rfl := List.mem_singleton.1 h
      simp only
      omega
    · cases h
theorem norm_append : ∀ (l m : List Sp), Norm l → Norm m → (∀ q ∈ l, ∀ r ∈ m, q.2 < r.1) → Norm (l ++ m)
  | [], m, _, hm, _ => hm
  | q :: l, m, hl, hm, h => by
    refine ⟨hl.1, fun r hr => ?_, norm_append l m hl.2.2 hm fun p hp => h p (List.mem_cons_of_mem _ hp)⟩
    rcases List.mem_append.1 hr with hr | hr
    · exact hl.2.1 r hr
    · exact h q List.mem_cons_self r hr
theorem norm_one {q : Sp} (h : q.1 < q.2) : Norm [q] := ⟨h, fun r hr => by (cases hr), trivial⟩
theorem cutP_norm {x q : Sp} (hx : x.1 < x.2) : Norm (cutP x q) := by
  unfold cutP
  refine norm_append _ _ ?_ ?_ fun p hp r hr => ?_
  · split
    · exact norm_one (by simpa)
    · exact trivial
  · split
    · exact norm_one (by simpa)
    · exact trivial
  · split at hp
    · split at hr
      · obtain rfl := List.mem_singleton.1 hp
        obtain rfl := List.mem_singleton.1 hr
        simp only
        omega
      · cases hr
    · cases hp
theorem cutS_norm : ∀ (l : List Sp) (x : Sp), x.1 < x.2 → Norm l → Norm (cutS l x)
  | [], x, _, _ => trivial
  | q :: l, x, hx, hl => by
    rw [cutS, List.flatMap_cons]
    refine norm_append _ _ (cutP_norm hx) (cutS_norm l x hx hl.2.2) fun p hp r hr => ?_
    obtain ⟨s, hs, hr⟩ := List.mem_flatMap.1 hr
    have h1 := cutP_in hp
    have h2 := cutP_in hr
    have h3 := hl.2.1 s hs
    omega
theorem cutS_cov (l : List Sp) (x : Sp) (hx : x.1 ≤ x.2) (n : Nat) : cov (cutS l x) n ↔ cov l n ∧ ¬ (x.1 ≤ n ∧ n < x.2) := by
  induction l with
  | nil => exact ⟨fun h => absurd h (cov_nil n), fun h => absurd h.1 (cov_nil n)⟩
  | cons q l ih =>
    have ih' : cov (List.flatMap (cutP x) l) n ↔ _ := ih
    rw [cutS, List.flatMap_cons, cov_append, cutP_cov hx, ih', cov_cons]
    constructor
    · rintro (h | h)
      · exact ⟨.inl h.1, h.2⟩
      · exact ⟨.inr h.1, h.2⟩
    · rintro ⟨h | h, h2⟩
      · exact .inl ⟨h, h2⟩
      · exact .inr ⟨h, h2⟩
theorem cutP_len (x q : Sp) : (cutP x q).length ≤ 2 := by
  unfold cutP
  split <;> split <;> simp
theorem cutS_far : ∀ (l : List Sp) (x : Sp), (∀ r ∈ l, x.1 ≤ r.1) → (cutS l x).length ≤ l.length
  | [], x, _ => Nat.le_refl _
  | q :: l, x, h => by
    have ih := cutS_far l x fun r hr => h r (List.mem_cons_of_mem _ hr)
    have h1 := h q List.mem_cons_self
    have h2 : (cutP x q).length ≤ 1 := by
      unfold cutP
      rw [if_neg (by omega)]
      split <;> simp
    have e : (cutS (q :: l) x).length = (cutP x q).length + (cutS l x).length := by rw [cutS, List.flatMap_cons, List.length_append]; rfl
    rw [e, List.length_cons]
    omega
theorem cutS_len : ∀ (l : List Sp) (x : Sp), x.1 < x.2 → Norm l → (cutS l x).length ≤ l.length + 1
  | [], x, _, _ => by simp [cutS]
  | q :: l, x, hx, hl => by
    have e : (cutS (q :: l) x).length = (cutP x q).length + (cutS l x).length := by rw [cutS, List.flatMap_cons, List.length_append]; rfl
    have h2 := cutP_len x q
    rw [e, List.length_cons]
    by_cases h : (cutP x q).length ≤ 1
    · have := cutS_len l x hx hl.2.2
      omega
    · have hq : x.2 < q.2 := by
        by_cases h3 : x.2 < q.2
        · exact h3
        · exfalso
          apply h
          unfold cutP
          rw [if_neg (show ¬ max q.1 x.2 < q.2 by omega)]
          split <;> simp
      have := cutS_far l x fun r hr => by have := hl.2.1 r hr; omega
      omega
/-- which list Add (Cut) answers, when none is wrong -/
def setS (add : Bool) (l : List Sp) (x : Sp) : List Sp := if x.1 = x.2 then l else if add = true then joinS l x else cutS l x
theorem setS_norm {add : Bool} {l : List Sp} {x : Sp} (hl : Norm l) (hx : x.1 ≤ x.2) : Norm (setS add l x) := by
  unfold setS
  split
  · exact hl
  · split
    · exact joinS_norm l x hl (by omega)
    · exact cutS_norm l x (by omega) hl
theorem setS_cov {add : Bool} {l : List Sp} {x : Sp} (hl : Norm l) (hx : x.1 ≤ x.2) (n : Nat) : cov (setS add l x) n ↔ (cov l n ∧ (add = true ∨ ¬ (x.1 ≤ n ∧ n < x.2))) ∨ (add = true ∧ x.1 ≤ n ∧ n < x.2) := by
  unfold setS
  split
  · constructor
    · intro h; exact .inl ⟨h, .inr (by omega)⟩
    · rintro (h | h)
      · exact h.1
      · omega
  · split
    · rename_i ha
      rw [joinS_cov l x n (by omega) hl.lt]
      constructor
      · rintro (h | h)
        · exact .inl ⟨h, .inl ha⟩
        · exact .inr ⟨ha, h⟩
      · rintro (h | h)
        · exact .inl h.1
        · exact .inr h.2
    · rename_i ha
      rw [cutS_cov l x hx]
      constructor
      · rintro h; exact .inl ⟨h.1, .inr h.2⟩
      · rintro (⟨h, h1 | h1⟩ | h)
        · exact absurd h1 ha
        · exact ⟨h, h1⟩
        · exact absurd h.1 ha
theorem setS_len {add : Bool} {l : List Sp} {x : Sp} (hl : Norm l) (hx : x.1 ≤ x.2) : (setS add l x).length ≤ l.length + 1 := by
  unfold setS
  split
  · omega
  · split
    · exact joinS_len l x
    · exact cutS_len l x (by omega) hl
/-- what Add (Cut) answers -/
noncomputable def setR (add : Bool) (l : List Sp) (x : Sp) : List Sp × Nat :=
  if mayB l = false then ([], 8) else if x.2 < x.1 then ([], 2) else if 256 < (setS add l x).length then ([], 6) else (setS add l x, 0)
end Go.Proofs.Ytnnpahjopfkchaa
