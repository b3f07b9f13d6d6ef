/- PLAIN: a checksum that is turned along with words (layer 3). -/
import Derived.Test.YtcfomapeiaobaaaSum2
namespace Go.Proofs.Ytcfomapeiaobaaa

theorem wordsL_append : ∀ (a b : List UInt8), a.length % 2 = 0 → wordsL (a ++ b) = wordsL a ++ wordsL b
  | [], b, _ => rfl
  | [x], b, h => absurd h (by simp)
  | x :: y :: t, b, h => by
    have := wordsL_append t b (by simp only [List.length_cons] at h; omega)
    simp only [List.cons_append, wordsL, this]
theorem turn_step {R was now : Nat} (hR : 0 < R) (hw : was < 65536) : turnL (65535 - nrm (R + was)) was now = 65535 - nrm (R + now) := by
  unfold turnL
  have h1 := nrm_le (R + was)
  have e : 131070 - (65535 - nrm (R + was)) - was + now = 65535 + nrm (R + was) - was + now := by omega
  rw [e]
  congr 1
  unfold nrm
  rw [if_neg (show ¬ R + was = 0 by omega), if_neg (show ¬ R + now = 0 by omega), if_neg (by omega)]
  omega
theorem turns_all : ∀ (P : List (Nat × Nat)) (R : Nat), 0 < R → (∀ p ∈ P, p.1 < 65536) → turnsL (65535 - nrm (R + (P.map Prod.fst).sum)) P = 65535 - nrm (R + (P.map Prod.snd).sum)
  | [], R, _, _ => by simp [turnsL]
  | p :: ps, R, hR, hp => by
    have h1 := turn_step (R := R + (ps.map Prod.fst).sum) (was := p.1) (now := p.2) (by omega) (hp p (by simp))
    have h2 := turns_all ps (R + p.2) (by omega) (fun q hq => hp q (by simp [hq]))
    simp only [List.map_cons, List.sum_cons]
    show turnsL (turnL _ p.1 p.2) ps = _
    rw [show R + (p.1 + (ps.map Prod.fst).sum) = R + (ps.map Prod.fst).sum + p.1 by omega, h1, show R + (ps.map Prod.fst).sum + p.2 = R + p.2 + (ps.map Prod.fst).sum by omega, h2]
    congr 2
    omega
/-- the checksum, turned along with a row of words, is that of the text with the other words -/
theorem turns_text (p mid o r : List UInt8) (hp : p.length % 2 = 0) (hm : mid.length % 2 = 0) (ho : o.length = mid.length) (hR : 0 < (wordsL p).sum + (wordsL r).sum) :
    turnsL (ofL (p ++ (mid ++ r))) ((wordsL mid).zip (wordsL o)) = ofL (p ++ (o ++ r)) := by
  have hl : (wordsL mid).length = (wordsL o).length := by rw [wordsL_length, wordsL_length, ho]
  have e1 : ((wordsL mid).zip (wordsL o)).map Prod.fst = wordsL mid := List.map_fst_zip (by omega)
  have e2 : ((wordsL mid).zip (wordsL o)).map Prod.snd = wordsL o := List.map_snd_zip (by omega)
  have h := turns_all ((wordsL mid).zip (wordsL o)) ((wordsL p).sum + (wordsL r).sum) hR (fun q hq => wordsL_lt mid q.1 (List.of_mem_zip hq).1)
  rw [e1, e2] at h
  unfold ofL
  rw [wordsL_append p _ hp, wordsL_append mid r hm, wordsL_append p _ hp, wordsL_append o r (by omega)]
  simp only [List.sum_append]
  rw [show (wordsL p).sum + ((wordsL mid).sum + (wordsL r).sum) = (wordsL p).sum + (wordsL r).sum + (wordsL mid).sum by omega,
    show (wordsL p).sum + ((wordsL o).sum + (wordsL r).sum) = (wordsL p).sum + (wordsL r).sum + (wordsL o).sum by omega]
  exact h
/-- .. with one word -/
theorem turn_text (p r : List UInt8) (x y a b : UInt8) (hp : p.length % 2 = 0) (hR : 0 < (wordsL p).sum + (wordsL r).sum) :
    turnL (ofL (p ++ (x :: y :: r))) (x.toNat * 256 + y.toNat) (a.toNat * 256 + b.toNat) = ofL (p ++ (a :: b :: r)) := by
  have h := turns_text p [x, y] [a, b] r hp (by simp) (by simp) hR
  simpa [wordsL, turnsL] using h
theorem wordAt_le : ∀ (i : Nat) (l : List UInt8), i % 2 = 0 → wordAt l i ≤ (wordsL l).sum
  | 0, l, _ => by
    unfold wordAt
    rw [List.drop_zero]
    cases wordsL l with
    | nil => simp
    | cons x y => simp only [List.headD_cons, List.sum_cons]; omega
  | 1, l, h => absurd h (by omega)
  | i + 2, l, h => by
    have ih := wordAt_le i (l.drop 2) (by omega)
    have e : wordAt (l.drop 2) i = wordAt l (i + 2) := by unfold wordAt; rw [List.drop_drop, Nat.add_comm]
    rw [e] at ih
    rcases Nat.lt_or_ge 0 l.length with hl | hl
    · have := wordAt_sum (l := l) (i := 0) hl
      rw [List.drop_zero] at this
      have e2 : l.drop (0 + 2) = l.drop 2 := rfl
      rw [e2] at this
      omega
    · have : l = [] := List.eq_nil_of_length_eq_zero (by omega)
      subst this
      simpa using ih
/-- a word outside of the row -/
theorem word_out (l : List UInt8) (k m i : Nat) (hk : k % 2 = 0) (hm : m % 2 = 0) (hi : i % 2 = 0) (hil : i + 1 < l.length) (ho : i < k ∨ m ≤ i) :
    l[i].toNat * 256 + l[i + 1].toNat ≤ (wordsL (l.take k)).sum + (wordsL (l.drop m)).sum := by
  rcases ho with h | h
  · have h1 := wordAt_le i (l.take k) hi
    rw [wordAt_two (l := l.take k) (i := i) (by rw [List.length_take]; omega), List.getElem_take, List.getElem_take] at h1
    omega
  · have h1 := wordAt_le (i - m) (l.drop m) (by omega)
    rw [wordAt_two (l := l.drop m) (i := i - m) (by rw [List.length_drop]; omega), List.getElem_drop, List.getElem_drop] at h1
    have e1 : m + (i - m) = i := by omega
    have e2 : m + (i - m + 1) = i + 1 := by omega
    simp only [e1, e2] at h1
    omega
end Go.Proofs.Ytcfomapeiaobaaa
