/- PLAIN: what was written is read; what is turned is not (layer 5). -/
import Derived.Test.YtbfmgdcnpefciaaIpAlive
set_option linter.unusedVariables false
set_option linter.unusedSimpArgs false
namespace Go.Proofs.Ytbfmgdcnpefciaa
open Go.RowKit

theorem nrm_full (s : Nat) : nrm (s + (65535 - nrm s)) = 65535 := by
  unfold nrm
  split
  · subst_vars; rfl
  · rw [if_neg (by omega)]
    omega
theorem wordsL_be2 (s : Nat) (hs : s < 65536) : wordsL (be2 s) = [s] := by
  simp only [be2, wordsL, UInt8.toNat_ofNat']
  congr 1
  omega
theorem head_sum (h : IPh) (n : Nat) : ofL (headL h n (sumL h n)) = 0 := by
  have hs := sumL_lt h n
  have e : sumL h n = 65535 - nrm ((wordsL (frontL h n)).sum + (wordsL (backL h)).sum) := by
    unfold sumL ofL
    rw [wordsL_app _ _ (by rw [frontL_length]), List.sum_append]
  unfold ofL headL
  rw [List.append_assoc, wordsL_app _ _ (by rw [frontL_length]), wordsL_app (be2 _) _ (by simp [be2]), wordsL_be2 _ hs, List.sum_append, List.sum_append]
  have : (wordsL (frontL h n)).sum + ([sumL h n].sum + (wordsL (backL h)).sum) = ((wordsL (frontL h n)).sum + (wordsL (backL h)).sum) + (65535 - nrm ((wordsL (frontL h n)).sum + (wordsL (backL h)).sum)) := by
    rw [← e]; simp; omega
  rw [this, nrm_full]
theorem numL_be2 (n : Nat) (hn : n < 65536) : numL (be2 n) = n := by
  simp only [numL, be2, List.foldl_cons, List.foldl_nil, UInt8.toNat_ofNat']
  omega
theorem numL_be4 (n : Nat) (hn : n < 4294967296) : numL (be4 n) = n := by
  simp only [numL, be4, List.foldl_cons, List.foldl_nil, UInt8.toNat_ofNat']
  omega
section
variable (h : IPh) (l : List UInt8)
theorem enc_take : (encL h l).take 20 = headL h (20 + l.length) (sumL h (20 + l.length)) := rfl
theorem enc_drop : (encL h l).drop 20 = l := rfl
theorem enc_n : ((encL h l).drop 2).take 2 = be2 (20 + l.length) := rfl
theorem enc_len : (encL h l).length = 20 + l.length := by
  unfold encL
  rw [List.length_append, headL_length]
theorem enc_0 : at0 (encL h l) 0 = 69 := rfl
theorem enc_6 : at0 (encL h l) 6 = if h.df then 64 else 0 := by
  show (if h.df then (64 : UInt8) else 0).toNat = _
  cases h.df <;> rfl
theorem enc_7 : at0 (encL h l) 7 = 0 := rfl
end
theorem decE_enc {h : IPh} {l : List UInt8} (ho : h.ok) (hl : 20 + l.length ≤ 65535) : decE (encL h l) = 0 := by
  unfold decE
  rw [enc_take, enc_n, enc_len, enc_0, enc_6, enc_7, head_sum, numL_be2 _ (by omega), if_neg (by omega), if_neg (by decide), if_neg (by decide), if_neg (by simp), if_neg (by simp), if_neg]
  cases h.df <;> decide
theorem decH_enc {h : IPh} {l : List UInt8} (ho : h.ok) : decH (encL h l) = h := by
  obtain ⟨src, dst, proto, ttl, tos, id, df⟩ := h
  obtain ⟨o1, o2, o3⟩ := ho
  simp only at o1 o2 o3
  unfold decH
  rw [enc_6]
  have e1 : ((encL ⟨src, dst, proto, ttl, tos, id, df⟩ l).drop 12).take 4 = be4 src := rfl
  have e2 : ((encL ⟨src, dst, proto, ttl, tos, id, df⟩ l).drop 16).take 4 = be4 dst := rfl
  have e3 : ((encL ⟨src, dst, proto, ttl, tos, id, df⟩ l).drop 4).take 2 = be2 id := rfl
  rw [e1, e2, e3, numL_be4 _ o1, numL_be4 _ o2, numL_be2 _ o3, Nat.mod_eq_of_lt o3]
  congr 1
  cases df <;> rfl
theorem dec_enc {h : IPh} {load : ByteArray} (ho : h.ok) (hl : 20 + load.size ≤ 65535) : decV (encL h load.data.toList) = .tuple #[.agg h.cells, .string load, .int .i64 0] := by
  rw [decV_ok (decE_enc ho hl), decH_enc ho, enc_drop]
/-- cut off -/
theorem decE_cut {h : IPh} {l : List UInt8} (hl : 20 + l.length ≤ 65535) (k : Nat) (hk : k < 20 + l.length) : decE ((encL h l).take k) ≠ 0 := by
  intro e
  unfold decE at e
  have hlen : ((encL h l).take k).length = k := by rw [List.length_take, enc_len]; omega
  rw [hlen] at e
  by_cases h20 : k < 20
  · rw [if_pos h20] at e; cases e
  rw [if_neg h20] at e
  have hn : (((encL h l).take k).drop 2).take 2 = be2 (20 + l.length) := by
    rw [List.drop_take, List.take_take, Nat.min_eq_left (by omega)]
    rfl
  rw [hn, numL_be2 _ (by omega)] at e
  split at e
  · cases e
  · split at e
    · cases e
    · rw [if_pos (by omega)] at e
      cases e
/-- longer -/
theorem decE_more {h : IPh} {l : List UInt8} (hl : 20 + l.length ≤ 65535) (x : UInt8) : decE (encL h l ++ [x]) = 53 := by
  unfold decE
  have hlen : (encL h l ++ [x]).length = 21 + l.length := by rw [List.length_append, enc_len]; simp; omega
  have h0 : at0 (encL h l ++ [x]) 0 = 69 := rfl
  have hn : ((encL h l ++ [x]).drop 2).take 2 = be2 (20 + l.length) := rfl
  rw [hlen, h0, hn, numL_be2 _ (by omega), if_neg (by omega), if_neg (by decide), if_neg (by decide), if_pos (by omega)]
theorem flip_nat : ∀ (c : UInt8) (j : Nat), j < 8 → (c ^^^ UInt8.ofNat (2 ^ j)).toNat + 2 ^ j = c.toNat ∨ (c ^^^ UInt8.ofNat (2 ^ j)).toNat = c.toNat + 2 ^ j := by
  have h : ∀ (n : Fin 256) (j : Fin 8), (UInt8.ofNat n.val ^^^ UInt8.ofNat (2 ^ j.val)).toNat + 2 ^ j.val = n.val ∨ (UInt8.ofNat n.val ^^^ UInt8.ofNat (2 ^ j.val)).toNat = n.val + 2 ^ j.val := by decide +kernel
  intro c j hj
  have := h ⟨c.toNat, c.toNat_lt⟩ ⟨j, hj⟩
  simpa using this
/-- the sum of a text of an even length in which the byte at i is another one -/
theorem sum_set : ∀ (l : List UInt8) (i : Nat) (x : UInt8) (hi : i < l.length), l.length % 2 = 0 →
    (wordsL (l.set i x)).sum + (if i % 2 = 0 then 256 else 1) * (l[i]).toNat = (wordsL l).sum + (if i % 2 = 0 then 256 else 1) * x.toNat
  | [], i, x, hi, _ => absurd hi (by simp)
  | [a], i, x, hi, he => by simp at he
  | a :: b :: t, 0, x, hi, he => by simp [wordsL]; omega
  | a :: b :: t, 1, x, hi, he => by simp [wordsL]; omega
  | a :: b :: t, i + 2, x, hi, he => by
    have ih := sum_set t i x (by simp at hi; omega) (by simp only [List.length_cons] at he; omega)
    have e : (i + 2) % 2 = i % 2 := by omega
    simp only [List.set_cons_succ, wordsL, List.sum_cons, List.getElem_cons_succ, e]
    omega
theorem ofL_flip {l : List UInt8} (h0 : ofL l = 0) (he : l.length % 2 = 0) (i j : Nat) (hi : i < l.length) (hj : j < 8) : ofL (l.set i (l[i] ^^^ UInt8.ofNat (2 ^ j))) ≠ 0 := by
  have hs := sum_set l i (l[i] ^^^ UInt8.ofNat (2 ^ j)) hi he
  have hf := flip_nat l[i] j hj
  have hp : 2 ^ j = 1 ∨ 2 ^ j = 2 ∨ 2 ^ j = 4 ∨ 2 ^ j = 8 ∨ 2 ^ j = 16 ∨ 2 ^ j = 32 ∨ 2 ^ j = 64 ∨ 2 ^ j = 128 := by
    have : j = 0 ∨ j = 1 ∨ j = 2 ∨ j = 3 ∨ j = 4 ∨ j = 5 ∨ j = 6 ∨ j = 7 := by omega
    rcases this with rfl | rfl | rfl | rfl | rfl | rfl | rfl | rfl <;> simp
  generalize 2 ^ j = p at *
  generalize (l[i] ^^^ UInt8.ofNat p).toNat = y at *
  generalize (l[i]).toNat = c at *
  unfold ofL at *
  generalize (wordsL (l.set i (l[i] ^^^ UInt8.ofNat p))).sum = s2 at *
  generalize (wordsL l).sum = s1 at *
  intro h2
  unfold nrm at *
  split at h0
  · omega
  · split at h2
    · omega
    · by_cases hev : i % 2 = 0
      · simp only [hev, if_true] at hs
        omega
      · simp only [hev, if_false] at hs
        omega
/-- a bit of the head turned -/
theorem decE_flip {h : IPh} {l : List UInt8} (i j : Nat) (hi : i < 20) (hj : j < 8) (hil : i < (encL h l).length) : decE ((encL h l).set i ((encL h l)[i] ^^^ UInt8.ofNat (2 ^ j))) ≠ 0 := by
  intro e
  have hz := head_sum h (20 + l.length)
  rw [← enc_take] at hz
  have hlen : ((encL h l).take 20).length = 20 := by rw [List.length_take, enc_len]; omega
  have := ofL_flip hz (by rw [hlen]) i j (by omega) hj
  rw [List.getElem_take, ← List.take_set] at this
  unfold decE at e
  repeat' (split at e)
  all_goals first | (exfalso; omega) | (exact absurd this (by assumption))
end Go.Proofs.Ytbfmgdcnpefciaa
