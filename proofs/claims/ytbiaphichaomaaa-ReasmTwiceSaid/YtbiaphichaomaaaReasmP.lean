/- Layer 16 (reasm), plain: a stream that is put together; what is there; what comes again; a stream in pieces. -/
import Derived.Test.YtbiaphichaomaaaSpans
set_option linter.unusedVariables false
set_option linter.unusedSimpArgs false
namespace Go.Proofs.Ytbiaphichaomaaa

structure Rs where
  most : Nat
  next : Nat
  ready : List UInt8
  far : Nat → Option UInt8
  parts : List Sp
  got : Nat
def newR (next most : Nat) : Rs := ⟨most, next, [], fun _ => none, [], 0⟩
/-- the bytes of far from a place on -/
def farL (far : Nat → Option UInt8) (a n : Nat) : List UInt8 := (List.range n).map fun i => (far (a + i)).getD 0
/-- what is there from next on is ready -/
def movesR (s : Rs) : Rs := match s.parts with
  | [] => s
  | p :: l => if p.1 = s.next then { s with next := p.2, ready := s.ready ++ farL s.far s.next (p.2 - s.next), far := fun i => if s.next ≤ i ∧ i < p.2 then none else s.far i, parts := l } else s
/-- how many of the first n numbers from a on are not there -/
def newN (far : Nat → Option UInt8) (a : Nat) : Nat → Nat
  | 0 => 0
  | n + 1 => newN far a n + if (far (a + n)).isSome then 0 else 1
/-- the bytes of a text, laid at a place, where there is none -/
def layF (far : Nat → Option UInt8) (at_ : Nat) (t : List UInt8) (a b : Nat) (i : Nat) : Option UInt8 :=
  if a ≤ i ∧ i < b then some ((far i).getD (t.getD (i - at_) 0)) else far i
def fromR (s : Rs) (at_ : Nat) : Nat := max at_ s.next
def toR (s : Rs) (at_ n : Nat) : Nat := min (at_ + n) (s.next + (s.most - s.ready.length))
def manyR (s : Rs) (l : List Sp) : Bool := (decide (64 < l.length) && decide (s.next < (l.headD (0, 0)).1)) || decide (65 < l.length)
def putR (s : Rs) (at_ : Nat) (t : List UInt8) : Rs × Nat × Nat :=
  if 4611686018427387904 < at_ ∨ 65536 < t.length then (s, 0, 2)
  else if toR s at_ t.length ≤ fromR s at_ then (s, 0, 0)
  else if manyR s (joinS s.parts (fromR s at_, toR s at_ t.length)) then (s, 0, 0)
  else (movesR { s with far := layF s.far at_ t (fromR s at_) (toR s at_ t.length), parts := joinS s.parts (fromR s at_, toR s at_ t.length), got := s.got + newN s.far (fromR s at_) (toR s at_ t.length - fromR s at_) },
    newN s.far (fromR s at_) (toR s at_ t.length - fromR s at_), 0)
def takeR (s : Rs) (n : Int) : Rs × List UInt8 :=
  if n ≤ 0 then (s, []) else ({ s with ready := s.ready.drop (min n.toNat s.ready.length) }, s.ready.take (min n.toNat s.ready.length))

structure RsOk (s : Rs) : Prop where
  norm : Norm s.parts
  above : ∀ q ∈ s.parts, s.next < q.1
  below : ∀ q ∈ s.parts, q.2 ≤ s.next + (s.most - s.ready.length)
  there : ∀ x, (s.far x).isSome = true ↔ cov s.parts x
  len : s.ready.length ≤ s.most
  few : s.parts.length ≤ 64
  most_le : s.most ≤ 65536
  next_le : s.next ≤ 4611686018427387904 + 65536
  ends : ∀ q ∈ s.parts, q.2 ≤ 4611686018427387904 + 65536
theorem newR_ok {next most : Nat} (h : next ≤ 4611686018427387904) (hm : most ≤ 65536) : RsOk (newR next most) :=
  ⟨trivial, fun q h => (by cases h), fun q h => (by cases h), fun x => ⟨fun h => by simp [newR] at h, fun h => (cov_nil x h).elim⟩, Nat.zero_le _, Nat.zero_le _, hm, by simp only [newR]; omega, fun q h => (by cases h)⟩
theorem newN_le (far : Nat → Option UInt8) (a : Nat) : ∀ n, newN far a n ≤ n
  | 0 => Nat.le_refl _
  | n + 1 => by have := newN_le far a n; unfold newN; split <;> omega
theorem newN_zero {far : Nat → Option UInt8} {a : Nat} : ∀ {n}, (∀ i, a ≤ i → i < a + n → (far i).isSome = true) → newN far a n = 0
  | 0, _ => rfl
  | n + 1, h => by
    have := newN_zero (n := n) (fun i h1 h2 => h i h1 (by omega))
    unfold newN
    rw [this, if_pos (h (a + n) (by omega) (by omega))]
theorem farL_len (far : Nat → Option UInt8) (a n : Nat) : (farL far a n).length = n := by simp [farL]
theorem manyR_no {s : Rs} {l : List Sp} (h : manyR s l = false) : l.length ≤ 65 ∧ (l.length ≤ 64 ∨ (l.headD (0, 0)).1 ≤ s.next) := by
  unfold manyR at h
  rw [Bool.or_eq_false_iff, Bool.and_eq_false_iff, decide_eq_false_iff_not, decide_eq_false_iff_not, decide_eq_false_iff_not] at h
  omega

/-- what a Put lays, before it moves -/
def laidR (s : Rs) (at_ : Nat) (t : List UInt8) : Rs :=
  { s with far := layF s.far at_ t (fromR s at_) (toR s at_ t.length), parts := joinS s.parts (fromR s at_, toR s at_ t.length), got := s.got + newN s.far (fromR s at_) (toR s at_ t.length - fromR s at_) }
theorem putR_bad {s : Rs} {at_ : Nat} {t : List UInt8} (h : 4611686018427387904 < at_ ∨ 65536 < t.length) : putR s at_ t = (s, 0, 2) := by unfold putR; rw [if_pos h]
theorem putR_none {s : Rs} {at_ : Nat} {t : List UInt8} (h : ¬ (4611686018427387904 < at_ ∨ 65536 < t.length)) (h1 : toR s at_ t.length ≤ fromR s at_) : putR s at_ t = (s, 0, 0) := by unfold putR; rw [if_neg h, if_pos h1]
theorem putR_many {s : Rs} {at_ : Nat} {t : List UInt8} (h : ¬ (4611686018427387904 < at_ ∨ 65536 < t.length)) (h2 : manyR s (joinS s.parts (fromR s at_, toR s at_ t.length)) = true) : putR s at_ t = (s, 0, 0) := by
  unfold putR; rw [if_neg h]
  split
  · rfl
  · rfl
theorem putR_lays {s : Rs} {at_ : Nat} {t : List UInt8} (h : ¬ (4611686018427387904 < at_ ∨ 65536 < t.length)) (h1 : ¬ toR s at_ t.length ≤ fromR s at_) (h2 : manyR s (joinS s.parts (fromR s at_, toR s at_ t.length)) = false) :
    putR s at_ t = (movesR (laidR s at_ t), newN s.far (fromR s at_) (toR s at_ t.length - fromR s at_), 0) := by
  unfold putR; rw [if_neg h, if_neg h1, if_neg (by rw [h2]; decide)]; rfl

/-- the state between the laying and the moving -/
structure LaidOk (s : Rs) : Prop where
  norm : Norm s.parts
  above : ∀ q ∈ s.parts, s.next ≤ q.1
  below : ∀ q ∈ s.parts, q.2 ≤ s.next + (s.most - s.ready.length)
  there : ∀ x, (s.far x).isSome = true ↔ cov s.parts x
  len : s.ready.length ≤ s.most
  few : s.parts.length ≤ 65 ∧ (s.parts.length ≤ 64 ∨ (s.parts.headD (0, 0)).1 ≤ s.next)
  some_ : s.parts ≠ []
  most_le : s.most ≤ 65536
  next_le : s.next ≤ 4611686018427387904 + 65536
  ends : ∀ q ∈ s.parts, q.2 ≤ 4611686018427387904 + 65536
theorem laid_ok {s : Rs} {at_ : Nat} {t : List UInt8} (hs : RsOk s) (h : ¬ (4611686018427387904 < at_ ∨ 65536 < t.length)) (h1 : ¬ toR s at_ t.length ≤ fromR s at_) (h2 : manyR s (joinS s.parts (fromR s at_, toR s at_ t.length)) = false) : LaidOk (laidR s at_ t) := by
  have hlt : (fromR s at_, toR s at_ t.length).1 < (fromR s at_, toR s at_ t.length).2 := by simp only; omega
  have hlow : ∀ q ∈ joinS s.parts (fromR s at_, toR s at_ t.length), s.next ≤ q.1 := by
    intro q hq
    have hn := joinS_norm s.parts _ hs.norm hlt
    have hc : cov (joinS s.parts (fromR s at_, toR s at_ t.length)) q.1 := ⟨q, hq, Nat.le_refl _, hn.lt q hq⟩
    rw [joinS_cov _ _ _ hlt hs.norm.lt] at hc
    rcases hc with ⟨r, hr, h3, _⟩ | h3
    · have := hs.above r hr; omega
    · have h3 := h3.1; unfold fromR at h3; simp only at h3; omega
  have hhigh : ∀ q ∈ joinS s.parts (fromR s at_, toR s at_ t.length), q.2 ≤ s.next + (s.most - s.ready.length) := by
    intro q hq
    have hn := joinS_norm s.parts _ hs.norm hlt
    have hq1 := hn.lt q hq
    have hc : cov (joinS s.parts (fromR s at_, toR s at_ t.length)) (q.2 - 1) := ⟨q, hq, by omega, by omega⟩
    rw [joinS_cov _ _ _ hlt hs.norm.lt] at hc
    rcases hc with ⟨r, hr, _, h3⟩ | h3
    · have := hs.below r hr; omega
    · have h3 := h3.2; unfold toR at h3; simp only at h3; omega
  refine ⟨joinS_norm _ _ hs.norm hlt, hlow, hhigh, ?_, hs.len, manyR_no h2, ?_, hs.most_le, hs.next_le, ?_⟩
  · intro x
    show (layF s.far at_ t (fromR s at_) (toR s at_ t.length) x).isSome = true ↔ cov (joinS s.parts (fromR s at_, toR s at_ t.length)) x
    rw [joinS_cov _ _ _ hlt hs.norm.lt, ← hs.there x]
    unfold layF
    split
    · rename_i h3
      exact ⟨fun _ => .inr h3, fun _ => rfl⟩
    · rename_i h3
      exact ⟨.inl, fun h4 => h4.resolve_right h3⟩
  · intro e
    obtain ⟨r, hr, _⟩ := joinS_in s.parts (fromR s at_, toR s at_ t.length)
    rw [show joinS s.parts (fromR s at_, toR s at_ t.length) = [] from e] at hr
    cases hr
  · intro q hq
    have hn := joinS_norm s.parts _ hs.norm hlt
    have hq1 := hn.lt q hq
    have hc : cov (joinS s.parts (fromR s at_, toR s at_ t.length)) (q.2 - 1) := ⟨q, hq, by omega, by omega⟩
    rw [joinS_cov _ _ _ hlt hs.norm.lt] at hc
    rcases hc with ⟨r, hr, _, h3⟩ | h3
    · have := hs.ends r hr; omega
    · have h3 := h3.2; unfold toR at h3; simp only at h3; omega
theorem moves_ok {s : Rs} (h : LaidOk s) : RsOk (movesR s) := by
  unfold movesR
  cases hp : s.parts with
  | nil => exact absurd hp h.some_
  | cons p l =>
    have hN := h.norm
    have hA := h.above
    have hB := h.below
    have hT := h.there
    have hF := h.few
    have hE := h.ends
    rw [hp] at hN hA hB hT hF hE
    have hp1 := hN.1
    by_cases he : p.1 = s.next
    · simp only [if_pos he]
      have hb := hB p List.mem_cons_self
      refine ⟨hN.2.2, fun q hq => hN.2.1 q hq, fun q hq => ?_, fun x => ?_, ?_, ?_, h.most_le, hE p List.mem_cons_self, fun q hq => hE q (List.mem_cons_of_mem _ hq)⟩
      · have := hB q (List.mem_cons_of_mem _ hq)
        simp only [List.length_append, farL_len]
        have := hN.2.1 q hq
        omega
      · simp only
        split
        · rename_i h3
          constructor
          · intro h4; simp at h4
          · intro h4; have := hN.after h4; omega
        · rename_i h3
          rw [hT x, cov_cons]
          constructor
          · rintro (h4 | h4)
            · omega
            · exact h4
          · exact .inr
      · simp only [List.length_append, farL_len]
        have := h.len
        omega
      · simp only [List.length_cons] at hF ⊢
        omega
    · simp only [if_neg he]
      have hlt : s.next < p.1 := by have := hA p List.mem_cons_self; omega
      refine ⟨by rw [hp]; exact hN, fun q hq => ?_, h.below, h.there, h.len, ?_, h.most_le, h.next_le, h.ends⟩
      · rw [hp] at hq
        rcases List.mem_cons.1 hq with rfl | hq
        · exact hlt
        · have := hN.2.1 q hq; omega
      · rw [hp]
        rcases hF.2 with h3 | h3
        · exact h3
        · simp only [List.headD_cons] at h3
          omega
theorem putR_ok {s : Rs} (hs : RsOk s) (at_ : Nat) (t : List UInt8) : RsOk (putR s at_ t).1 := by
  by_cases h : 4611686018427387904 < at_ ∨ 65536 < t.length
  · rw [putR_bad h]; exact hs
  · by_cases h1 : toR s at_ t.length ≤ fromR s at_
    · rw [putR_none h h1]; exact hs
    · cases h2 : manyR s (joinS s.parts (fromR s at_, toR s at_ t.length)) with
      | true => rw [putR_many h h2]; exact hs
      | false =>
        rw [putR_lays h h1 h2]
        exact moves_ok (laid_ok hs h h1 h2)
theorem newN_full {far : Nat → Option UInt8} {a : Nat} : ∀ {n}, newN far a n = n → ∀ i, a ≤ i → i < a + n → far i = none
  | 0, _, i, h1, h2 => by omega
  | n + 1, h, i, h1, h2 => by
    have hle := newN_le far a n
    unfold newN at h
    split at h
    · omega
    · rename_i h3
      by_cases e : i = a + n
      · subst e; simpa using h3
      · exact newN_full (n := n) (by omega) i h1 (by omega)
theorem moves_same {s : Rs} (h : ∀ q ∈ s.parts, s.next < q.1) : movesR s = s := by
  unfold movesR
  cases hp : s.parts with
  | nil => rfl
  | cons p l =>
    have := h p (by rw [hp]; exact List.mem_cons_self)
    simp only
    rw [if_neg (by omega)]
theorem moves_end {s : Rs} (h : LaidOk s) : (movesR s).next + ((movesR s).most - (movesR s).ready.length) = s.next + (s.most - s.ready.length) := by
  unfold movesR
  cases hp : s.parts with
  | nil => rfl
  | cons p l =>
    simp only
    split
    · have hb := h.below p (by rw [hp]; exact List.mem_cons_self)
      have hN := h.norm
      rw [hp] at hN
      have := hN.1
      have := h.len
      simp only [List.length_append, farL_len]
      omega
    · rfl
/-- what comes again adds nothing -/
theorem putR_again {s : Rs} (hs : RsOk s) {at_ : Nat} {t u : List UInt8} (hl : u.length = t.length) (hn : ¬ ((putR s at_ t).2.1 < t.length ∧ (putR s at_ t).2.2 = 0)) :
    putR (putR s at_ t).1 at_ u = ((putR s at_ t).1, 0, (putR s at_ t).2.2) := by
  by_cases h : 4611686018427387904 < at_ ∨ 65536 < t.length
  · rw [putR_bad h] at hn ⊢
    exact putR_bad (by rw [hl]; exact h)
  · have hu : ¬ (4611686018427387904 < at_ ∨ 65536 < u.length) := by rw [hl]; exact h
    by_cases h1 : toR s at_ t.length ≤ fromR s at_
    · rw [putR_none h h1] at hn ⊢
      exact putR_none hu (by rw [hl]; exact h1)
    · cases h2 : manyR s (joinS s.parts (fromR s at_, toR s at_ t.length)) with
      | true =>
        rw [putR_many h h2] at hn ⊢
        exact putR_many hu (by rw [hl]; exact h2)
      | false =>
        have hk := putR_ok hs at_ t
        rw [putR_lays h h1 h2] at hn hk ⊢
        have hL := laid_ok hs h h1 h2
        simp only at hn hk ⊢
        have hle := newN_le s.far (fromR s at_) (toR s at_ t.length - fromR s at_)
        have hge : ¬ newN s.far (fromR s at_) (toR s at_ t.length - fromR s at_) < t.length := fun e => hn ⟨e, by trivial⟩
        have hft : fromR s at_ = at_ ∧ toR s at_ t.length = at_ + t.length := by
          generalize newN s.far (fromR s at_) (toR s at_ t.length - fromR s at_) = q at *
          unfold fromR toR at *; omega
        have hlen : t.length ≠ 0 := by omega
        have hnl : s.next ≤ at_ := by have := hft.1; unfold fromR at this; omega
        have hend : at_ + t.length ≤ s.next + (s.most - s.ready.length) := by have := hft.2; unfold toR at this; omega
        have hlt : (fromR s at_, toR s at_ t.length).1 < (fromR s at_, toR s at_ t.length).2 := by simp only; omega
        obtain ⟨r, hr, h3, h4⟩ := joinS_in s.parts (fromR s at_, toR s at_ t.length)
        simp only [hft] at h3 h4
        have hr' : r ∈ (laidR s at_ t).parts := hr
        have he := moves_end hL
        have hto : toR (movesR (laidR s at_ t)) at_ u.length = at_ + t.length := by
          unfold toR
          rw [he, hl]
          show min (at_ + t.length) (s.next + (s.most - s.ready.length)) = at_ + t.length
          omega
        by_cases h5 : toR (movesR (laidR s at_ t)) at_ u.length ≤ fromR (movesR (laidR s at_ t)) at_
        · exact putR_none hu h5
        · -- r is among the parts that are left
          have hin : r ∈ (movesR (laidR s at_ t)).parts := by
            rw [hto] at h5
            unfold fromR at h5
            have h6 : (movesR (laidR s at_ t)).next < at_ + t.length := by omega
            unfold movesR at h6 ⊢
            cases hp : (laidR s at_ t).parts with
            | nil => rw [hp] at hr'; cases hr'
            | cons p l =>
              rw [hp] at hr' h6
              simp only at h6 ⊢
              split
              · rename_i h7
                rw [if_pos h7] at h6
                simp only at h6 ⊢
                rcases List.mem_cons.1 hr' with rfl | hr'
                · omega
                · exact hr'
              · rw [hp]; exact hr'
          have hab := hk.above r hin
          have hfr : fromR (movesR (laidR s at_ t)) at_ = at_ := by unfold fromR; omega
          have hsame : joinS (movesR (laidR s at_ t)).parts (fromR (movesR (laidR s at_ t)) at_, toR (movesR (laidR s at_ t)) at_ u.length) = (movesR (laidR s at_ t)).parts := by
            rw [hfr, hto]
            exact joinS_same hk.norm (by simp only; omega) hin h3 h4
          have hfar : ∀ i, at_ ≤ i → i < at_ + t.length → ((movesR (laidR s at_ t)).far i).isSome = true := fun i h6 h7 => (hk.there i).2 ⟨r, hin, by omega, by omega⟩
          have hz : newN (movesR (laidR s at_ t)).far at_ (at_ + t.length - at_) = 0 := newN_zero (fun i h6 h7 => hfar i h6 (by omega))
          have hmany : manyR (movesR (laidR s at_ t)) (joinS (movesR (laidR s at_ t)).parts (fromR (movesR (laidR s at_ t)) at_, toR (movesR (laidR s at_ t)) at_ u.length)) = false := by
            rw [hsame]
            unfold manyR
            have := hk.few
            rw [Bool.or_eq_false_iff, Bool.and_eq_false_iff, decide_eq_false_iff_not, decide_eq_false_iff_not, decide_eq_false_iff_not]
            omega
          rw [putR_lays hu h5 hmany]
          generalize hS : movesR (laidR s at_ t) = S at *
          have hst : laidR S at_ u = S := by
            unfold laidR
            rw [hsame, hfr, hto, hz]
            have hfe : layF S.far at_ u at_ (at_ + t.length) = S.far := by
              funext i
              unfold layF
              split
              · rename_i h6
                have := hfar i h6.1 h6.2
                obtain ⟨b, hb⟩ := Option.isSome_iff_exists.1 this
                rw [hb]; rfl
              · rfl
            rw [hfe]
            rfl
          rw [hst, moves_same hk.above, hfr, hto, hz]
/-- what of a stream is there (it begins at 7), and nothing else -/
structure OfStream (t : List UInt8) (s : Rs) : Prop where
  next_ : 7 ≤ s.next ∧ s.next ≤ 7 + t.length
  ready : s.ready = t.take (s.next - 7)
  far : ∀ i b, s.far i = some b → 7 ≤ i ∧ t[i - 7]? = some b
theorem newR_of (t : List UInt8) (most : Nat) : OfStream t (newR 7 most) := ⟨⟨Nat.le_refl _, by simp [newR]⟩, by simp [newR], fun i b h => by simp [newR] at h⟩
theorem cov_of {s : Rs} {t : List UInt8} (h : OfStream t s) (ht : ∀ x, (s.far x).isSome = true ↔ cov s.parts x) {x : Nat} (hx : cov s.parts x) : 7 ≤ x ∧ x < 7 + t.length := by
  obtain ⟨b, hb⟩ := Option.isSome_iff_exists.1 ((ht x).2 hx)
  obtain ⟨h1, h2⟩ := h.far x b hb
  have := (List.getElem?_eq_some_iff.1 h2).1
  omega
theorem moves_of {s : Rs} {t : List UInt8} (h : LaidOk s) (ho : OfStream t s) : OfStream t (movesR s) := by
  unfold movesR
  cases hp : s.parts with
  | nil => exact ho
  | cons p l =>
    have hN := h.norm
    rw [hp] at hN
    have hp1 := hN.1
    simp only
    split
    · rename_i he
      have hall : ∀ i, s.next ≤ i → i < p.2 → ∃ b, s.far i = some b ∧ 7 ≤ i ∧ t[i - 7]? = some b := fun i h1 h2 => by
        obtain ⟨b, hb⟩ := Option.isSome_iff_exists.1 ((h.there i).2 ⟨p, by rw [hp]; exact List.mem_cons_self, by omega, h2⟩)
        obtain ⟨h3, h4⟩ := ho.far i b hb
        exact ⟨b, hb, h3, h4⟩
      have hend : p.2 ≤ 7 + t.length := by
        obtain ⟨b, _, h3, h4⟩ := hall (p.2 - 1) (by omega) (by omega)
        have := (List.getElem?_eq_some_iff.1 h4).1
        omega
      have hn := ho.next_
      refine ⟨⟨by simp only; omega, hend⟩, ?_, fun i b hb => ?_⟩
      · simp only
        rw [ho.ready]
        apply List.ext_getElem?
        intro i
        by_cases h1 : i < s.next - 7
        · rw [List.getElem?_append_left (by simp; omega), List.getElem?_take_of_lt (by omega), List.getElem?_take_of_lt (by omega)]
        · have hlen : (t.take (s.next - 7)).length = s.next - 7 := by simp; omega
          rw [List.getElem?_append_right (by rw [hlen]; omega), hlen]
          by_cases h2 : i < p.2 - 7
          · obtain ⟨b, hb, _, hb2⟩ := hall (i + 7) (by omega) (by omega)
            rw [List.getElem?_take_of_lt (by omega)]
            unfold farL
            rw [List.getElem?_map, List.getElem?_range (by omega)]
            simp only [Option.map_some]
            rw [show s.next + (i - (s.next - 7)) = i + 7 by omega, hb]
            rw [show i + 7 - 7 = i by omega] at hb2
            rw [hb2]; rfl
          · rw [List.getElem?_eq_none (by simp [farL_len]; omega), List.getElem?_eq_none (by simp; omega)]
      · simp only at hb
        split at hb
        · cases hb
        · exact ho.far i b hb
    · exact ho
theorem putR_of {s : Rs} (hs : RsOk s) {t : List UInt8} (ho : OfStream t s) {k : Nat} {u : List UInt8} (hu : ∀ i, i < u.length → t[k + i]? = u[i]?) : OfStream t (putR s (7 + k) u).1 := by
  by_cases h : 4611686018427387904 < 7 + k ∨ 65536 < u.length
  · rw [putR_bad h]; exact ho
  · by_cases h1 : toR s (7 + k) u.length ≤ fromR s (7 + k)
    · rw [putR_none h h1]; exact ho
    · cases h2 : manyR s (joinS s.parts (fromR s (7 + k), toR s (7 + k) u.length)) with
      | true => rw [putR_many h h2]; exact ho
      | false =>
        rw [putR_lays h h1 h2]
        refine moves_of (laid_ok hs h h1 h2) ⟨ho.next_, ho.ready, fun i b hb => ?_⟩
        have hb : layF s.far (7 + k) u (fromR s (7 + k)) (toR s (7 + k) u.length) i = some b := hb
        unfold layF at hb
        split at hb
        · rename_i h3
          cases hf : s.far i with
          | some c => rw [hf] at hb; exact ho.far i b (by rw [hf]; exact hb)
          | none =>
            rw [hf] at hb
            have h4 := h3.1
            have h5 := h3.2
            unfold fromR at h4
            unfold toR at h5
            have := hu (i - (7 + k)) (by omega)
            rw [show k + (i - (7 + k)) = i - 7 by omega] at this
            refine ⟨by omega, ?_⟩
            rw [this, ← hb]
            simp only [Option.getD_none]
            rw [List.getD_eq_getElem?_getD, List.getElem?_eq_getElem (by omega)]
            rfl
        · exact ho.far i b hb
/-- a piece that comes in order is taken -/
theorem putR_next {s : Rs} (hs : RsOk s) (hm : s.most = 65536) {t : List UInt8} (ht : t.length ≤ 2048) (ho : OfStream t s) {k : Nat} {u : List UInt8} (hk : k ≤ t.length) (hul : k + u.length ≤ t.length) (hn : 7 + k ≤ s.next) :
    (putR s (7 + k) u).2.2 = 0 ∧ 7 + k + u.length ≤ (putR s (7 + k) u).1.next := by
  have h : ¬ (4611686018427387904 < 7 + k ∨ 65536 < u.length) := by omega
  have hrl : s.ready.length ≤ 2048 := by rw [ho.ready]; simp; omega
  have hnx := ho.next_
  by_cases h1 : toR s (7 + k) u.length ≤ fromR s (7 + k)
  · rw [putR_none h h1]
    refine ⟨rfl, ?_⟩
    unfold toR fromR at h1
    simp only
    omega
  · have hft : fromR s (7 + k) = s.next ∧ toR s (7 + k) u.length = 7 + k + u.length := by unfold fromR toR at *; omega
    have hlt : (fromR s (7 + k), toR s (7 + k) u.length).1 < (fromR s (7 + k), toR s (7 + k) u.length).2 := by simp only; omega
    obtain ⟨r, hr, h3, h4⟩ := joinS_in s.parts (fromR s (7 + k), toR s (7 + k) u.length)
    have hN := joinS_norm s.parts _ hs.norm hlt
    simp only [hft] at h3 h4
    have hr1 : s.next ≤ r.1 := by
      have hc : cov (joinS s.parts (fromR s (7 + k), toR s (7 + k) u.length)) r.1 := ⟨r, hr, Nat.le_refl _, hN.lt r hr⟩
      rw [joinS_cov _ _ _ hlt hs.norm.lt] at hc
      rcases hc with ⟨q, hq, h5, _⟩ | h5
      · have := hs.above q hq; omega
      · simp only [hft] at h5; omega
    have hhead : ∃ l, joinS s.parts (fromR s (7 + k), toR s (7 + k) u.length) = r :: l := by
      cases hj : joinS s.parts (fromR s (7 + k), toR s (7 + k) u.length) with
      | nil => rw [hj] at hr; cases hr
      | cons p l =>
        rw [hj] at hr hN
        rcases List.mem_cons.1 hr with rfl | hr
        · exact ⟨l, rfl⟩
        · exfalso
          have hp : cov (joinS s.parts (fromR s (7 + k), toR s (7 + k) u.length)) p.1 := ⟨p, by rw [hj]; exact List.mem_cons_self, Nat.le_refl _, hN.1⟩
          rw [joinS_cov _ _ _ hlt hs.norm.lt] at hp
          have := hN.2.1 r hr
          have := hN.1
          rcases hp with ⟨q, hq, h5, _⟩ | h5
          · have := hs.above q hq; omega
          · simp only [hft] at h5; omega
    obtain ⟨l, hl⟩ := hhead
    have h2 : manyR s (joinS s.parts (fromR s (7 + k), toR s (7 + k) u.length)) = false := by
      have hlen := joinS_len s.parts (fromR s (7 + k), toR s (7 + k) u.length)
      have := hs.few
      unfold manyR
      rw [Bool.or_eq_false_iff, Bool.and_eq_false_iff, decide_eq_false_iff_not, decide_eq_false_iff_not, decide_eq_false_iff_not]
      refine ⟨.inr ?_, by omega⟩
      rw [hl]
      simp only [List.headD_cons]
      omega
    rw [putR_lays h h1 h2]
    refine ⟨rfl, ?_⟩
    have hp : (laidR s (7 + k) u).parts = r :: l := hl
    have hx : (laidR s (7 + k) u).next = s.next := rfl
    unfold movesR
    rw [hp]
    simp only
    rw [hx, if_pos (by omega)]
    simp only
    omega
/-- all of the stream is there -/
theorem all_there {s : Rs} (hs : RsOk s) {t : List UInt8} (ho : OfStream t s) (hn : 7 + t.length ≤ s.next) : s.ready = t ∧ s.parts = [] := by
  have hnx := ho.next_
  refine ⟨by rw [ho.ready]; exact List.take_of_length_le (by omega), ?_⟩
  cases hp : s.parts with
  | nil => rfl
  | cons p l =>
    have h1 := hs.above p (by rw [hp]; exact List.mem_cons_self)
    have hN := hs.norm
    rw [hp] at hN
    have := cov_of ho hs.there (x := p.1) (by rw [hp]; exact ⟨p, List.mem_cons_self, Nat.le_refl _, hN.1⟩)
    omega
end Go.Proofs.Ytbiaphichaomaaa
