/- Layer 7 (opt), in plain Lean: where options stand in bytes, and what they say. -/
import Derived.Test.YtimepplfaaddeaaOptRaw
set_option linter.unusedVariables false
set_option linter.unusedSimpArgs false
namespace Go.Proofs.Ytimepplfaaddeaa

/-- may a kind have so many bytes? -/
def longB (k n : Nat) : Bool :=
  if k = 2 then n == 4 else if k = 3 then n == 3 else if k = 4 then n == 2 else if k = 5 then n == 10 || n == 18 || n == 26 || n == 34 else if k = 8 then n == 10 else decide (2 ≤ n)
theorem longB_two {k n : Nat} (h : longB k n = true) : 2 ≤ n := by
  unfold longB at h
  split at h
  · simp at h; omega
  split at h
  · simp at h; omega
  split at h
  · simp at h; omega
  split at h
  · simp at h; omega
  split at h
  · simp at h; omega
  · simpa using h
def byteN (L : List UInt8) (i : Nat) : Nat := ((L[i]?).getD 0).toNat
theorem byteN_lt (L : List UInt8) (i : Nat) : byteN L i < 256 := UInt8.toNat_lt _
/-- how many bytes the option at a place has; 0: it may not be -/
def stepN (L : List UInt8) (i : Nat) : Nat := if i + 1 < L.length ∧ longB (byteN L i) (byteN L (i + 1)) = true ∧ i + byteN L (i + 1) ≤ L.length then byteN L (i + 1) else 0
/-- where options stand, and how many bytes they have -/
def placesF : Nat → List UInt8 → Nat → List (Nat × Nat)
  | 0, _, _ => []
  | f + 1, L, i => if i < L.length ∧ byteN L i ≠ 0 then (if byteN L i = 1 then placesF f L (i + 1) else (i, stepN L i) :: (if stepN L i = 0 then [] else placesF f L (i + stepN L i))) else []
theorem placesF_eq (L : List UInt8) : ∀ (f g i : Nat), L.length - i < f → L.length - i < g → placesF f L i = placesF g L i := by
  intro f
  induction f with
  | zero => intro g i h; omega
  | succ f ih =>
    intro g i hf hg
    cases g with
    | zero => omega
    | succ g =>
      simp only [placesF]
      by_cases h1 : i < L.length ∧ byteN L i ≠ 0
      · rw [if_pos h1, if_pos h1]
        by_cases h2 : byteN L i = 1
        · rw [if_pos h2, if_pos h2]
          exact ih g (i + 1) (by omega) (by omega)
        · rw [if_neg h2, if_neg h2]
          by_cases h3 : stepN L i = 0
          · rw [if_pos h3, if_pos h3]
          · rw [if_neg h3, if_neg h3, ih g (i + stepN L i) (by omega) (by omega)]
      · rw [if_neg h1, if_neg h1]
def placesAt (L : List UInt8) (i : Nat) : List (Nat × Nat) := placesF (L.length - i + 1) L i
theorem places_end {L : List UInt8} {i : Nat} (h : ¬ (i < L.length ∧ byteN L i ≠ 0)) : placesAt L i = [] := by
  unfold placesAt
  simp only [placesF]
  rw [if_neg h]
theorem places_one {L : List UInt8} {i : Nat} (h : i < L.length) (h1 : byteN L i = 1) : placesAt L i = placesAt L (i + 1) := by
  unfold placesAt
  rw [placesF, if_pos ⟨h, by omega⟩, if_pos h1]
  exact placesF_eq L _ _ _ (by omega) (by omega)
theorem places_bad {L : List UInt8} {i : Nat} (h : i < L.length) (h0 : byteN L i ≠ 0) (h1 : byteN L i ≠ 1) (hs : stepN L i = 0) : placesAt L i = [(i, 0)] := by
  unfold placesAt
  rw [placesF, if_pos ⟨h, h0⟩, if_neg h1, hs, if_pos rfl]
theorem places_cons {L : List UInt8} {i : Nat} (h : i < L.length) (h0 : byteN L i ≠ 0) (h1 : byteN L i ≠ 1) (hs : stepN L i ≠ 0) : placesAt L i = (i, stepN L i) :: placesAt L (i + stepN L i) := by
  unfold placesAt
  rw [placesF, if_pos ⟨h, h0⟩, if_neg h1, if_neg hs]
  congr 1
  exact placesF_eq L _ _ _ (by omega) (by omega)
theorem stepN_pos {L : List UInt8} {i : Nat} (h : stepN L i ≠ 0) : i + 1 < L.length ∧ longB (byteN L i) (byteN L (i + 1)) = true ∧ i + stepN L i ≤ L.length ∧ stepN L i = byteN L (i + 1) ∧ 2 ≤ stepN L i := by
  unfold stepN at h ⊢
  split
  · rename_i hc
    exact ⟨hc.1, hc.2.1, hc.2.2, rfl, longB_two hc.2.1⟩
  · rename_i hc
    rw [if_neg hc] at h
    exact absurd rfl h
/-- a place that options' bytes have -/
def OkP (L : List UInt8) (p : Nat × Nat) : Prop := p.1 < L.length ∧ byteN L p.1 ≠ 0 ∧ byteN L p.1 ≠ 1 ∧ p.2 = stepN L p.1
theorem places_ok (L : List UInt8) : ∀ (f i : Nat), ∀ p ∈ placesF f L i, OkP L p := by
  intro f
  induction f with
  | zero => intro i p h; cases h
  | succ f ih =>
    intro i p h
    simp only [placesF] at h
    split at h
    · rename_i h1
      split at h
      · exact ih _ p h
      · rename_i h2
        rcases List.mem_cons.1 h with rfl | h
        · exact ⟨h1.1, h1.2, h2, rfl⟩
        · split at h
          · cases h
          · exact ih _ p h
    · cases h
/-- the bytes of an option behind its kind and its length -/
def bodyL (L : List UInt8) (p : Nat × Nat) : List UInt8 := (L.drop (p.1 + 2)).take (p.2 - 2)
/-- blocks out of bytes -/
def blocksF : Nat → List UInt8 → List (Int × Int)
  | 0, _ => []
  | f + 1, B => if B = [] then [] else (((numL (B.take 4) : Nat) : Int), ((numL ((B.drop 4).take 4) : Nat) : Int)) :: blocksF f (B.drop 8)
def metB (k : Nat) : Bool := decide (k ≤ 5) || k == 8
/-- one option, read -/
def takeP (L : List UInt8) (o : Op) (p : Nat × Nat) : Option Op :=
  let B := bodyL L p
  if byteN L p.1 = 2 then (if numL B % 65536 = 0 then none else some { o with mss := numL B % 65536 })
  else if byteN L p.1 = 3 then some { o with scale := min ((byteN B 0 : Nat) : Int) 14 }
  else if byteN L p.1 = 4 then some { o with sack := true }
  else if byteN L p.1 = 8 then some { o with time := true, val := numL (B.take 4), echo := numL (B.drop 4) }
  else if byteN L p.1 = 5 then some { o with bl := o.bl ++ blocksF B.length B }
  else some o
def stepD (L : List UInt8) (st : Op × List Nat) (p : Nat × Nat) : Option (Op × List Nat) :=
  if p.2 = 0 ∨ byteN L p.1 ∈ st.2 then none
  else (takeP L st.1 p).map fun o => (o, if metB (byteN L p.1) = true then byteN L p.1 :: st.2 else st.2)
def noneO : Op := ⟨0, -1, false, [], false, 0, 0⟩
def foldD (L : List UInt8) (l : List (Nat × Nat)) (st : Op × List Nat) : Option (Op × List Nat) := l.foldlM (stepD L) st
/-- what bytes say -/
def decL (L : List UInt8) : Option Op := (foldD L (placesAt L 0) (noneO, [])).map (·.1)
end Go.Proofs.Ytimepplfaaddeaa
