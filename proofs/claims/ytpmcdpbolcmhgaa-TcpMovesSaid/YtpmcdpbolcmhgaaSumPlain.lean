/- PLAIN: checksums by ones' complement (layer 3): no program in sight. -/
namespace Go.Proofs.Ytpmcdpbolcmhgaa

/-- the full words of bytes -/
def pairs : List UInt8 → List Nat
  | a :: b :: t => (a.toNat * 256 + b.toNat) :: pairs t
  | _ => []
/-- all words of bytes, the last one filled with a zero -/
def wordsL : List UInt8 → List Nat
  | a :: b :: t => (a.toNat * 256 + b.toNat) :: wordsL t
  | [a] => [a.toNat * 256]
  | [] => []
theorem wordsL_pairs : ∀ c : List UInt8, wordsL c = pairs c ++ (if c.length % 2 = 1 then [(c.getLastD 0).toNat * 256] else [])
  | [] => rfl
  | [a] => by simp [wordsL, pairs]
  | a :: b :: t => by
    have ih := wordsL_pairs t
    have e : (t.length + 1 + 1) % 2 = t.length % 2 := by omega
    simp only [wordsL, pairs, ih, List.cons_append, List.length_cons, e]
    by_cases h : t.length % 2 = 1
    · rw [if_pos h, if_pos h]
      cases t with
      | nil => simp at h
      | cons x y => simp [List.getLastD]
    · rw [if_neg h, if_neg h]
theorem pairs_snoc : ∀ (c : List UInt8) (x : UInt8), pairs (c ++ [x]) = if c.length % 2 = 1 then pairs c ++ [(c.getLastD 0).toNat * 256 + x.toNat] else pairs c
  | [], x => rfl
  | [a], x => by simp [pairs]
  | a :: b :: t, x => by
    have ih := pairs_snoc t x
    have e : (t.length + 1 + 1) % 2 = t.length % 2 := by omega
    simp only [List.cons_append, pairs, ih, List.length_cons, e]
    by_cases h : t.length % 2 = 1
    · rw [if_pos h, if_pos h]
      cases t with
      | nil => simp at h
      | cons x y => simp [List.getLastD]
    · rw [if_neg h, if_neg h]
theorem pairs_snoc_odd {c : List UInt8} (h : c.length % 2 = 1) (x : UInt8) : pairs (c ++ [x]) = pairs c ++ [(c.getLastD 0).toNat * 256 + x.toNat] := by rw [pairs_snoc, if_pos h]
theorem pairs_snoc_even {c : List UInt8} (h : ¬ c.length % 2 = 1) (x : UInt8) : pairs (c ++ [x]) = pairs c := by rw [pairs_snoc, if_neg h]
theorem wordsL_odd {c : List UInt8} (h : c.length % 2 = 1) : wordsL c = pairs c ++ [(c.getLastD 0).toNat * 256] := by rw [wordsL_pairs, if_pos h]
theorem wordsL_even {c : List UInt8} (h : ¬ c.length % 2 = 1) : wordsL c = pairs c := by rw [wordsL_pairs, if_neg h, List.append_nil]
theorem wordsL_lt : ∀ (c : List UInt8), ∀ x ∈ wordsL c, x < 65536
  | [] => by simp [wordsL]
  | [a] => by
    intro x hx
    simp [wordsL] at hx
    have := a.toNat_lt
    omega
  | a :: b :: t => by
    intro x hx
    simp only [wordsL, List.mem_cons] at hx
    have := a.toNat_lt
    have := b.toNat_lt
    rcases hx with rfl | hx
    · omega
    · exact wordsL_lt t x hx
theorem wordsL_length : ∀ (c : List UInt8), (wordsL c).length = (c.length + 1) / 2
  | [] => rfl
  | [a] => by simp [wordsL]
  | a :: b :: t => by
    simp only [wordsL, List.length_cons, wordsL_length t]
    omega
theorem pairs_length : ∀ (c : List UInt8), (pairs c).length = c.length / 2
  | [] => rfl
  | [a] => by simp [pairs]
  | a :: b :: t => by
    simp only [pairs, List.length_cons, pairs_length t]
    omega
theorem sum_le {B : Nat} : ∀ (l : List Nat), (∀ x ∈ l, x ≤ B) → l.sum ≤ B * l.length
  | [], _ => by simp
  | x :: l, h => by
    have h1 := h x (by simp)
    have h2 := sum_le l (fun y hy => h y (by simp [hy]))
    simp only [List.sum_cons, List.length_cons, Nat.mul_succ]
    omega
theorem wordsL_sum_le (c : List UInt8) : (wordsL c).sum ≤ 65535 * ((c.length + 1) / 2) := by
  have := sum_le (B := 65535) (wordsL c) (fun x hx => by have := wordsL_lt c x hx; omega)
  rwa [wordsL_length] at this

/-- the sum by ones' complement -/
def ones2 (x w : Nat) : Nat := (x + w) % 65536 + (x + w) / 65536
def nrm (x : Nat) : Nat := if x = 0 then 0 else (x - 1) % 65535 + 1
theorem nrm_le (x : Nat) : nrm x ≤ 65535 := by unfold nrm; split <;> omega
theorem ones2_nrm (s w : Nat) (h : w < 65536) : ones2 (nrm s) w = nrm (s + w) := by
  unfold ones2 nrm
  split
  · subst_vars
    split <;> omega
  · rw [if_neg (by omega)]
    omega
theorem nrm_small {x : Nat} (h : x ≤ 65535) : nrm x = x := by unfold nrm; split <;> omega
theorem nrm_fold (x : Nat) (h : 65535 < x) : nrm (x % 65536 + x / 65536) = nrm x := by
  unfold nrm
  split
  · omega
  · rw [if_neg (by omega)]
    omega
theorem fold_ones (l : List Nat) (s : Nat) (h : ∀ x ∈ l, x < 65536) : l.foldl ones2 (nrm s) = nrm (s + l.sum) := by
  induction l generalizing s with
  | nil => simp
  | cons x l ih =>
    simp only [List.foldl_cons, List.sum_cons]
    rw [ones2_nrm _ _ (h x (by simp)), ih _ (fun y hy => h y (by simp [hy])), Nat.add_assoc]
theorem fold_ones0 (l : List Nat) (h : ∀ x ∈ l, x < 65536) : l.foldl ones2 0 = nrm l.sum := by
  have := fold_ones l 0 h
  simpa [nrm] using this
/-- the checksum of bytes -/
def ofL (c : List UInt8) : Nat := 65535 - nrm (wordsL c).sum
theorem ofL_le (c : List UInt8) : ofL c ≤ 65535 := by unfold ofL; omega
def joinL (a b : Nat) : Nat := 65535 - nrm (131070 - a - b)
def turnL (sum was now : Nat) : Nat := 65535 - nrm (131070 - sum - was + now)
def turnsL (sum : Nat) (l : List (Nat × Nat)) : Nat := l.foldl (fun s p => turnL s p.1 p.2) sum
theorem joinL_le (a b : Nat) : joinL a b ≤ 65535 := by unfold joinL; omega
theorem turnL_le (a b c : Nat) : turnL a b c ≤ 65535 := by unfold turnL; omega
theorem turnsL_snoc (s : Nat) (l : List (Nat × Nat)) (p : Nat × Nat) : turnsL s (l ++ [p]) = turnL (turnsL s l) p.1 p.2 := by simp [turnsL]
theorem turnsL_le {s : Nat} (hs : s ≤ 65535) (l : List (Nat × Nat)) : turnsL s l ≤ 65535 := by
  induction l generalizing s with
  | nil => exact hs
  | cons p l ih => exact ih (turnL_le _ _ _)

end Go.Proofs.Ytpmcdpbolcmhgaa
