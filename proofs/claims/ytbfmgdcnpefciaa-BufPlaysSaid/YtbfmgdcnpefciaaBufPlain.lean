/- PLAIN: bytes in a ring (layer 15): no program in sight. -/
set_option linter.unusedVariables false
namespace Go.Proofs.Ytbfmgdcnpefciaa

/-- the ring R holds the bytes l, from index f on -/
def Holds (R : List UInt8) (f : Nat) (l : List UInt8) : Prop := l.length ≤ R.length ∧ ∀ i (h : i < l.length), R[(f + i) % R.length]? = some l[i]
/-- the ring, behind a text that is laid in two parts -/
def laid (R T : List UInt8) (s k : Nat) : List UInt8 := T.drop k ++ ((R.take s ++ (T.take k ++ R.drop (s + k))).drop (T.length - k))
theorem laid_length {R T : List UInt8} {s k : Nat} (h1 : s + k ≤ R.length) (h2 : k ≤ T.length) (h3 : T.length ≤ R.length) : (laid R T s k).length = R.length := by
  unfold laid
  simp only [List.length_append, List.length_drop, List.length_take]
  omega
theorem mod_two {p m e : Nat} (h : p % m = e) (h2 : p < 2 * m) : p = e ∨ p = e + m := by
  rcases Nat.lt_or_ge p m with h3 | h3
  · left; rw [Nat.mod_eq_of_lt h3] at h; exact h
  · right
    rw [Nat.mod_eq_sub_mod h3, Nat.mod_eq_of_lt (by omega)] at h
    omega
theorem laid_at {R T : List UInt8} {s k : Nat} (h1 : s + k ≤ R.length) (h2 : k ≤ T.length) (h3 : T.length ≤ R.length) (h4 : k < T.length → s + k = R.length) (p : Nat) (hp : p < R.length) :
    (laid R T s k)[p]? = if p < T.length - k then T[k + p]? else if s ≤ p ∧ p < s + k then T[p - s]? else R[p]? := by
  unfold laid
  by_cases c1 : p < T.length - k
  · rw [if_pos c1, List.getElem?_append_left (by rw [List.length_drop]; exact c1), List.getElem?_drop]
  · rw [if_neg c1, List.getElem?_append_right (by rw [List.length_drop]; omega), List.getElem?_drop, List.length_drop]
    rw [show T.length - k + (p - (T.length - k)) = p by omega]
    by_cases c2 : s ≤ p ∧ p < s + k
    · rw [if_pos c2, List.getElem?_append_right (by rw [List.length_take]; omega), List.length_take, Nat.min_eq_left (by omega), List.getElem?_append_left (by rw [List.length_take]; omega), List.getElem?_take_of_lt (by omega)]
    · rw [if_neg c2]
      by_cases c3 : p < s
      · rw [List.getElem?_append_left (by rw [List.length_take]; omega), List.getElem?_take_of_lt c3]
      · rw [List.getElem?_append_right (by rw [List.length_take]; omega), List.length_take, Nat.min_eq_left (by omega), List.getElem?_append_right (by rw [List.length_take]; omega), List.length_take, Nat.min_eq_left h2, List.getElem?_drop]
        congr 1
        omega
theorem holds_put {R T l : List UInt8} {f k : Nat} (h : Holds R f l) (hn : l.length + T.length ≤ R.length) (h0 : 0 < T.length) (hk : k = min (R.length - (f + l.length) % R.length) T.length) :
    Holds (laid R T ((f + l.length) % R.length) k) f (l ++ T) := by
  have hm : 0 < R.length := by omega
  have hs := Nat.mod_lt (f + l.length) hm
  generalize hse : (f + l.length) % R.length = s at *
  have hl := laid_length (R := R) (T := T) (s := s) (k := k) (by omega) (by omega) (by omega)
  refine ⟨by rw [hl, List.length_append]; exact hn, fun i hi => ?_⟩
  rw [hl]
  have hpl := Nat.mod_lt (f + i) hm
  rw [laid_at (by omega) (by omega) (by omega) (by omega) _ hpl]
  rw [List.length_append] at hi
  rcases Nat.lt_or_ge i l.length with hil | hil
  · have h2 := h.2 i hil
    have hp : ((f + i) % R.length + (l.length - i)) % R.length = s := by
      rw [Nat.mod_add_mod, show f + i + (l.length - i) = f + l.length by omega]; exact hse
    have := mod_two hp (by omega)
    rw [if_neg (by omega), if_neg (by omega), h2, List.getElem_append_left hil]
  · have hp : (f + i) % R.length = (s + (i - l.length)) % R.length := by
      rw [← hse, Nat.mod_add_mod, show f + l.length + (i - l.length) = f + i by omega]
    have := mod_two hp.symm (by omega)
    generalize (f + i) % R.length = p at *
    have e : (l ++ T)[i]'(by rw [List.length_append]; omega) = T[i - l.length]'(by omega) := List.getElem_append_right hil
    rw [e]
    rcases this with h3 | h3
    · by_cases c : p < T.length - k
      · exfalso; omega
      · rw [if_neg c, if_pos (by omega), show p - s = i - l.length by omega, List.getElem?_eq_getElem (by omega)]
    · rw [if_pos (by omega), show k + p = i - l.length by omega, List.getElem?_eq_getElem (by omega)]
theorem holds_drop {R l : List UInt8} {f n : Nat} (h : Holds R f l) (hn : n ≤ l.length) : Holds R (f + n) (l.drop n) := by
  refine ⟨by rw [List.length_drop]; have := h.1; omega, fun i hi => ?_⟩
  rw [List.length_drop] at hi
  have := h.2 (n + i) (by omega)
  rw [show f + n + i = f + (n + i) by omega, this, List.getElem_drop]
/-- what is read of a ring, in two parts -/
theorem holds_get {R l : List UInt8} {f q n k : Nat} (h : Holds R f l) (hq : q + n ≤ l.length) (h0 : 0 < n) (hk : k = min n (R.length - (f + q) % R.length)) :
    (R.drop ((f + q) % R.length)).take k ++ R.take (n - k) = (l.drop q).take n := by
  have h1 := h.1
  have hm : 0 < R.length := by omega
  have hs := Nat.mod_lt (f + q) hm
  generalize hse : (f + q) % R.length = s at *
  have hk1 : k ≤ n := by omega
  have hk2 : k ≤ R.length - s := by omega
  have hk3 : k = n ∨ k = R.length - s := by omega
  clear hk
  apply List.ext_getElem?
  intro i
  rcases Nat.lt_or_ge i n with hi | hi
  · have h2 := h.2 (q + i) (by omega)
    have hp : (f + (q + i)) % R.length = (s + i) % R.length := by rw [← hse, Nat.mod_add_mod, Nat.add_assoc]
    have hpl := Nat.mod_lt (f + (q + i)) hm
    have hm2 := mod_two hp.symm (by omega)
    rw [List.getElem?_take_of_lt hi, List.getElem?_drop, List.getElem?_eq_getElem (l := l) (i := q + i) (by omega), ← h2]
    generalize (f + (q + i)) % R.length = p at *
    rcases Nat.lt_or_ge i k with c | c
    · rw [List.getElem?_append_left (by rw [List.length_take, List.length_drop]; omega), List.getElem?_take_of_lt c, List.getElem?_drop]
      congr 1
      omega
    · have e : (List.take k (List.drop s R)).length = k := by rw [List.length_take, List.length_drop]; omega
      rw [List.getElem?_append_right (by omega), e, List.getElem?_take_of_lt (by omega)]
      congr 1
      omega
  · rw [List.getElem?_eq_none (by simp only [List.length_append, List.length_take, List.length_drop]; omega), List.getElem?_eq_none (by simp only [List.length_take, List.length_drop]; omega)]
end Go.Proofs.Ytbfmgdcnpefciaa
