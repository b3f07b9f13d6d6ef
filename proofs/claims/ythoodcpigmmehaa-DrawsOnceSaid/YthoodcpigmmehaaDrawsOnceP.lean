/- PLAIN: numbers that come by the rule, one behind the other, are never the same (layer 14). -/
import Derived.Test.YthoodcpigmmehaaDraws
set_option linter.unusedVariables false
set_option linter.unusedSimpArgs false
namespace Go.Proofs.Ythoodcpigmmehaa

/-- the number that comes behind x by the rule, taken k times -/
def ruleN (x : Nat) : Nat → Nat
  | 0 => x
  | k + 1 => rule (ruleN x k)
theorem rule_lt (x : Nat) : rule x < 4294967296 := Nat.mod_lt _ (by decide)
theorem ruleN_lt {x : Nat} (hx : x < 4294967296) (k : Nat) : ruleN x k < 4294967296 := by
  cases k with
  | zero => exact hx
  | succ k => exact rule_lt _
theorem ruleN_add (x i d : Nat) : ruleN x (i + d) = ruleN (ruleN x i) d := by
  induction d with
  | zero => rfl
  | succ d ih => rw [← Nat.add_assoc]; show rule (ruleN x (i + d)) = rule (ruleN (ruleN x i) d); rw [ih]
/-- what k steps multiply by, and add -/
def stepA (k : Nat) : Nat × Nat := k.repeat (fun p => (p.1 * 1664525 % 4294967296, (p.2 * 1664525 + 1013904223) % 4294967296)) (1, 0)
theorem ruleN_step (x : Nat) (hx : x < 4294967296) (k : Nat) : ruleN x k = ((stepA k).1 * x + (stepA k).2) % 4294967296 := by
  induction k with
  | zero =>
    show x = (1 * x + 0) % 4294967296
    omega
  | succ k ih =>
    show rule (ruleN x k) = _
    rw [ih]
    show _ = (((stepA k).1 * 1664525 % 4294967296) * x + ((stepA k).2 * 1664525 + 1013904223) % 4294967296) % 4294967296
    unfold rule
    generalize (stepA k).1 = a
    generalize (stepA k).2 = c
    have e1 : ((a * x + c) % 4294967296 * 1664525 + 1013904223) % 4294967296 = ((a * x + c) * 1664525 + 1013904223) % 4294967296 := by omega
    have e2 : (a * 1664525 % 4294967296 * x + (c * 1664525 + 1013904223) % 4294967296) % 4294967296 = (a * 1664525 * x + (c * 1664525 + 1013904223)) % 4294967296 := by
      rw [Nat.add_mod, Nat.mod_mul_mod, ← Nat.add_mod, Nat.add_mod, Nat.mod_mod, ← Nat.add_mod]
    have e3 : (a * x + c) * 1664525 + 1013904223 = a * 1664525 * x + (c * 1664525 + 1013904223) := by
      rw [Nat.add_mul, Nat.mul_right_comm, Nat.add_assoc]
    rw [e1, e2, e3]
/-- a step's numbers, as odd as they must be -/
def okA (p : Nat × Nat) : Bool := (List.range 12).any fun e => p.2 % 2 ^ (e + 1) == 2 ^ e && p.1 % 2 ^ (e + 1) == 1
def chkA : Nat → Nat × Nat → Bool
  | 0, _ => true
  | n + 1, p => okA p && chkA n (p.1 * 1664525 % 4294967296, (p.2 * 1664525 + 1013904223) % 4294967296)
theorem chkA_true : chkA 3001 (stepA 1) = true := by decide +kernel
theorem chkA_ok : ∀ (n k : Nat), chkA n (stepA k) = true → ∀ d, k ≤ d → d < k + n → okA (stepA d) = true
  | 0, k, _, d, h1, h2 => by omega
  | n + 1, k, h, d, h1, h2 => by
    simp only [chkA, Bool.and_eq_true] at h
    rcases Nat.eq_or_lt_of_le h1 with rfl | h1
    · exact h.1
    · exact chkA_ok n (k + 1) h.2 d h1 (by omega)
theorem okA_ne {p : Nat × Nat} (h : okA p = true) (x : Nat) (hx : x < 4294967296) : (p.1 * x + p.2) % 4294967296 ≠ x := by
  unfold okA at h
  obtain ⟨e, he, h⟩ := List.any_eq_true.1 h
  simp only [Bool.and_eq_true, beq_iff_eq] at h
  rw [List.mem_range] at he
  obtain ⟨h1, h2⟩ := h
  obtain ⟨a, c⟩ := p
  simp only at h1 h2 ⊢
  have hm : ∀ m, m ∣ 4294967296 → (a * x + c) % 4294967296 = x → (a * x + c) % m = x % m := fun m hm h => by
    rw [← Nat.mod_mod_of_dvd _ hm, h]
  intro hx2
  have h3 := hm (2 ^ (e + 1)) (by
    rw [show (4294967296 : Nat) = 2 ^ 32 from rfl]
    exact Nat.pow_dvd_pow 2 (by omega)) hx2
  rw [Nat.add_mod, Nat.mul_mod, h2, h1] at h3
  have hp : 2 ^ e < 2 ^ (e + 1) := Nat.pow_lt_pow_right (by decide) (by omega)
  have hp2 : 2 ^ (e + 1) = 2 ^ e * 2 := Nat.pow_succ 2 e
  have hlt : x % 2 ^ (e + 1) < 2 ^ (e + 1) := Nat.mod_lt _ (Nat.two_pow_pos _)
  rw [Nat.one_mul, Nat.mod_mod] at h3
  generalize 2 ^ (e + 1) = M at *
  generalize 2 ^ e = P at *
  generalize x % M = y at *
  subst hp2
  have : (y + P) % (P * 2) = y := h3
  rcases Nat.lt_or_ge (y + P) (P * 2) with h4 | h4
  · rw [Nat.mod_eq_of_lt h4] at this; omega
  · rw [Nat.mod_eq_sub_mod h4, Nat.mod_eq_of_lt (by omega)] at this; omega
/-- none is the same as another one -/
theorem ruleN_ne {x : Nat} (hx : x < 4294967296) {i j : Nat} (hij : i < j) (hj : j ≤ 3000) : ruleN x j ≠ ruleN x i := by
  obtain ⟨d, rfl⟩ : ∃ d, j = i + d := ⟨j - i, by omega⟩
  rw [ruleN_add, ruleN_step _ (ruleN_lt hx i)]
  exact okA_ne (chkA_ok 3001 1 chkA_true d (by omega) (by omega)) _ (ruleN_lt hx i)
end Go.Proofs.Ythoodcpigmmehaa
