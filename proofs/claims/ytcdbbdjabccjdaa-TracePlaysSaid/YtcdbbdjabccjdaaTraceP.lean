/- Layer 31 (trace): plain laws: acts of two ends, in either order; a trace's beginnings. -/
import Derived.Test.YtcdbbdjabccjdaaTraceN
set_option linter.unusedVariables false
set_option linter.unusedSimpArgs false
namespace Go.Proofs.Ytcdbbdjabccjdaa
open Go.RowKit

/-- what an act does to its end -/
def gA (d : Nat) (s : ByteArray) (o : Sd) : Sd := match d with
  | 1 => { o with opn := true }
  | 2 => { o with opn := true }
  | 3 => { o with wr := o.wr ++ s }
  | 4 => { o with rd := o.rd + s.size }
  | 5 => { o with cl := true }
  | 6 => { o with eof := true }
  | 7 => { o with dd := true }
  | 8 => { o with dd := true }
  | _ => o
def cA (d : Nat) : Bool := d == 7 || d == 9
def eff (e d : Nat) (s : ByteArray) (t : Tr) : Tr := { t.put e (gA d s (t.own e)) with cause := t.cause || cA d }
theorem ruleM_eff {d e : Nat} {t t' : Tr} {s : ByteArray} (he : e ≤ 1) (h : ruleM d e t s = some t') : t' = eff e d s t := by
  obtain rfl | rfl : e = 0 ∨ e = 1 := by omega
  all_goals
    unfold ruleM at h
    split at h
    case h_10 => cases h
    case h_9 => injection h with h; subst h; obtain ⟨⟨_, _, _, _, _, _⟩, ⟨_, _, _, _, _, _⟩, _⟩ := t; simp [eff, gA, cA, Tr.put, Tr.own]
    all_goals
      split at h
      case isFalse => cases h
      injection h with h
      subst h
      obtain ⟨⟨_, _, _, _, _, _⟩, ⟨_, _, _, _, _, _⟩, _⟩ := t
      simp [eff, gA, cA, Tr.put, Tr.own]
theorem step_ok {t : Tr} {x : AAct} (h : (stepA t x).1 = 0) : ∃ e : Nat, e ≤ 1 ∧ x.e = (e : Int) ∧ (1 ≤ x.d ∧ x.d ≤ 9) ∧ ((x.d = 3 ∨ x.d = 4) ↔ x.s.size ≠ 0) ∧ ruleM x.d e t x.s = some (eff e x.d x.s t) ∧ (stepA t x).2 = eff e x.d x.s t := by
  unfold stepA doM at h ⊢
  by_cases hok : argOk x.e x.d x.s = true
  case neg => rw [if_neg hok] at h; cases h
  rw [if_pos hok] at h ⊢
  by_cases hf : fullB x.e.toNat x.d t x.s = true
  · rw [if_pos hf] at h; cases h
  rw [if_neg hf] at h ⊢
  unfold argOk at hok
  simp only [decide_eq_true_eq] at hok
  obtain ⟨h1, h2, h3⟩ := hok
  cases hr : ruleM x.d x.e.toNat t x.s with
  | none => rw [hr] at h; cases h
  | some t' =>
    have := ruleM_eff (by omega) hr
    subst this
    exact ⟨x.e.toNat, by omega, by omega, h1, h3, hr, rfl⟩
theorem eff_comm (e f d g : Nat) (s r : ByteArray) (t : Tr) (he : e ≤ 1) (hf : f ≤ 1) (hne : e ≠ f) : eff f g r (eff e d s t) = eff e d s (eff f g r t) := by
  obtain ⟨rfl, rfl⟩ | ⟨rfl, rfl⟩ : (e = 0 ∧ f = 1) ∨ (e = 1 ∧ f = 0) := by omega
  all_goals
    obtain ⟨s0, s1, c⟩ := t
    simp [eff, Tr.put, Tr.own, Bool.or_assoc, Bool.or_comm, Bool.or_left_comm]
theorem swap {t : Tr} {a b : AAct} (hne : a.e ≠ b.e) (h1 : (stepA t a).1 = 0) (h2 : (stepA (stepA t a).2 b).1 = 0) (h3 : (stepA t b).1 = 0) (h4 : (stepA (stepA t b).2 a).1 = 0) :
    (stepA (stepA t a).2 b).2 = (stepA (stepA t b).2 a).2 := by
  obtain ⟨e, he, hea, _, _, _, q1⟩ := step_ok h1
  obtain ⟨f, hf, hfb, _, _, _, q2⟩ := step_ok h2
  obtain ⟨f', hf', hfb', _, _, _, q3⟩ := step_ok h3
  obtain ⟨e', he', hea', _, _, _, q4⟩ := step_ok h4
  obtain rfl : f' = f := by omega
  obtain rfl : e' = e := by omega
  rw [q2, q4, q1, q3]
  exact eff_comm _ _ _ _ _ _ _ he hf (by omega)
theorem allM_cons (t : Tr) (x : AAct) (l : List AAct) (k : Nat) : allM t (x :: l) k = if (stepA t x).1 = 0 then allM (stepA t x).2 l (k + 1) else (k, (stepA t x).1) := rfl
theorem all_prefix : ∀ (l : List AAct) (t : Tr) (k : Nat), k ≤ (allM t l k).1 ∧ (allM t l k).1 ≤ k + l.length ∧ allM t (l.take ((allM t l k).1 - k)) k = ((allM t l k).1, 0)
  | [], t, k => by simp [allM]
  | x :: l, t, k => by
    by_cases h : (stepA t x).1 = 0
    · rw [allM_cons, if_pos h]
      obtain ⟨h1, h2, h3⟩ := all_prefix l (stepA t x).2 (k + 1)
      refine ⟨by omega, by simp; omega, ?_⟩
      rw [show (allM (stepA t x).2 l (k + 1)).1 - k = ((allM (stepA t x).2 l (k + 1)).1 - (k + 1)) + 1 by omega, List.take_succ_cons, allM_cons, if_pos h, h3]
    · rw [allM_cons, if_neg h]
      refine ⟨Nat.le_refl _, by simp, ?_⟩
      simp [allM]
theorem ARow.take {w : World} {A : Option Addr} {len n : Nat} {l : List AAct} (h : ARow w A len l) (hn : n ≤ len) : ARow w A n (l.take n) := by
  refine ⟨by rw [List.length_take, h.1]; omega, fun k hk => ?_⟩
  have e : (l.take n).getD k aNil = l.getD k aNil := by simp only [List.getD]; rw [List.getElem?_take, if_pos hk]
  rw [e]
  exact h.2 k (by omega)
theorem neq_same (s : Sd) (W : World) : (binOp .neq 29 (.agg #[.bool s.opn, .string s.wr, .int .i64 (s.rd : Int), .bool s.cl, .bool s.eof, .bool s.dd]) (.agg #[.bool s.opn, .string s.wr, .int .i64 (s.rd : Int), .bool s.cl, .bool s.eof, .bool s.dd])).run Try.prog W = .ok (.bool false) W := by
  go_simp
end Go.Proofs.Ytcdbbdjabccjdaa
