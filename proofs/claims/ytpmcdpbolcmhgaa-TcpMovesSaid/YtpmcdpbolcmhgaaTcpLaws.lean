/- PLAIN: what was written is read; what is turned is not; what is read is written again (layer 6). -/
import Derived.Test.YtpmcdpbolcmhgaaTcpDecPlain
set_option linter.unusedVariables false
set_option linter.unusedSimpArgs false
namespace Go.Proofs.Ytpmcdpbolcmhgaa
open Go.RowKit

theorem nrm_full (s : Nat) : nrm (s + (65535 - nrm s)) = 65535 := by
  unfold nrm
  split
  · subst_vars; rfl
  · rw [if_neg (by omega)]
    omega
theorem wordsL_be2 (s : Nat) (hs : s < 65536) : wordsL (be2 s) = [s] := by
  simp only [be2, wordsL, UInt8.toNat_ofNat']
  congr 1
  omega
theorem numL_be2 (n : Nat) (hn : n < 65536) : numL (be2 n) = n := by
  simp only [numL, be2, List.foldl_cons, List.foldl_nil, UInt8.toNat_ofNat']
  omega
theorem numL_be4 (n : Nat) (hn : n < 4294967296) : numL (be4 n) = n := by
  simp only [numL, be4, List.foldl_cons, List.foldl_nil, UInt8.toNat_ofNat']
  omega
/-- the words of what stands beside the checksum -/
def restW (s d : Nat) (h : TCPh) (data : List UInt8) : Nat := (wordsL (aheadL s d (20 + h.opts.size + data.length))).sum + ((wordsL (frontL h)).sum + (wordsL (backL h data)).sum)
theorem sumL_rest (s d : Nat) (h : TCPh) (data : List UInt8) : sumL s d h data = 65535 - nrm (restW s d h data) := by
  unfold sumL restW ofL
  rw [List.append_assoc, wordsL_app _ _ (by rw [aheadL_length]), wordsL_app _ _ (by rw [frontL_length]), List.sum_append, List.sum_append]
theorem raw_sum (s d : Nat) (h : TCPh) (data : List UInt8) (q : Nat) (hq : q < 65536) : (wordsL (aheadL s d (20 + h.opts.size + data.length) ++ rawL h data q)).sum = restW s d h data + q := by
  unfold rawL restW
  rw [wordsL_app _ _ (by rw [aheadL_length]), List.append_assoc, wordsL_app _ _ (by rw [frontL_length]), wordsL_app (be2 _) _ (by simp [be2]), wordsL_be2 _ hq, List.sum_append, List.sum_append, List.sum_append]
  simp
  omega
theorem enc_len (s d : Nat) (h : TCPh) (data : List UInt8) : (encL s d h data).length = 20 + h.opts.size + data.length := rawL_length _ _ _
theorem enc_sum (s d : Nat) (h : TCPh) (data : List UInt8) : ofL (aheadL s d (encL s d h data).length ++ encL s d h data) = 0 := by
  rw [enc_len]
  unfold encL ofL
  rw [raw_sum _ _ _ _ _ (sumL_lt s d h data), sumL_rest, nrm_full]
section
variable (s d : Nat) (h : TCPh) (data : List UInt8)
theorem enc_12 : at0 (encL s d h data) 12 = (offB (20 + h.opts.size)).toNat := rfl
theorem enc_13 : at0 (encL s d h data) 13 = h.flags.toNat := rfl
theorem enc_d20 : (encL s d h data).drop 20 = h.opts.data.toList ++ data := rfl
end
/-- may a head be written? -/
def TCPh.may (h : TCPh) : Prop := h.opts.size % 4 = 0 ∧ h.opts.size ≤ 40 ∧ h.flags.toNat < 64
theorem off_eq {m : Nat} (h4 : m % 4 = 0) (h40 : m ≤ 40) : (offB (20 + m)).toNat / 16 * 4 = 20 + m ∧ (offB (20 + m)).toNat % 16 = 0 := by
  unfold offB
  rw [UInt8.toNat_ofNat']
  omega
theorem endN_enc {s d : Nat} {h : TCPh} {data : List UInt8} (hm : h.may) : endN (encL s d h data) = 20 + h.opts.size := by
  unfold endN
  rw [enc_12, (off_eq hm.1 hm.2.1).1]
theorem decE_enc {s d : Nat} {h : TCPh} {data : List UInt8} (hm : h.may) (hl : 20 + h.opts.size + data.length ≤ 65515) : decE s d (encL s d h data) = 0 := by
  have ho := off_eq hm.1 hm.2.1
  have hs := enc_sum s d h data
  have hm3 := hm.2.2
  unfold decE
  rw [if_neg (by rw [enc_len]; omega), if_neg (by rw [enc_len]; omega), if_neg (by rw [hs]; simp), enc_12, enc_13, enc_len, if_neg (by omega), if_neg (by omega)]
theorem opts_len (h : TCPh) : h.opts.data.toList.length = h.opts.size := rfl
theorem decH_enc {s d : Nat} {h : TCPh} {data : List UInt8} (ho : h.ok) (hm : h.may) : decH (encL s d h data) = h := by
  have e9 : sub (encL s d h data) 20 (endN (encL s d h data)) = h.opts.data.toList := by
    unfold sub
    rw [endN_enc hm, enc_d20, show 20 + h.opts.size - 20 = h.opts.data.toList.length by rw [opts_len]; omega, List.take_left]
  unfold decH
  rw [e9]
  obtain ⟨src, dst, seq, ack, flags, window, urgent, opts⟩ := h
  obtain ⟨o1, o2, o3, o4, o5, o6⟩ := ho
  simp only at o1 o2 o3 o4 o5 o6
  generalize hE : encL s d ⟨src, dst, seq, ack, flags, window, urgent, opts⟩ data = E
  have e1 : sub E 0 2 = be2 src := by rw [← hE]; rfl
  have e2 : sub E 2 4 = be2 dst := by rw [← hE]; rfl
  have e3 : sub E 4 8 = be4 seq := by rw [← hE]; rfl
  have e4 : sub E 8 12 = be4 ack := by rw [← hE]; rfl
  have e5 : E.getD 13 0 = flags := by rw [← hE]; rfl
  have e6 : sub E 14 16 = be2 window := by rw [← hE]; rfl
  have e7 : sub E 18 20 = be2 urgent := by rw [← hE]; rfl
  rw [e1, e2, e3, e4, e5, e6, e7, numL_be2 _ o1, numL_be2 _ o2, numL_be4 _ o3, numL_be4 _ o4, numL_be2 _ o5, numL_be2 _ o6, Nat.mod_eq_of_lt o1, Nat.mod_eq_of_lt o2, Nat.mod_eq_of_lt o5, Nat.mod_eq_of_lt o6]
theorem drop_enc {s d : Nat} {h : TCPh} {data : List UInt8} (hm : h.may) : (encL s d h data).drop (endN (encL s d h data)) = data := by
  rw [endN_enc hm, ← List.drop_drop, enc_d20, ← opts_len, List.drop_left]
theorem dec_enc {s d : Nat} {h : TCPh} {data : ByteArray} (ho : h.ok) (hm : h.may) (hl : 20 + h.opts.size + data.size ≤ 65515) : decV s d (encL s d h data.data.toList) = .tuple #[.agg h.cells, .string data, .int .i64 0] := by
  rw [decV_ok (decE_enc hm hl), decH_enc ho hm, drop_enc hm]

theorem flip_nat : ∀ (c : UInt8) (j : Nat), j < 8 → (c ^^^ UInt8.ofNat (2 ^ j)).toNat + 2 ^ j = c.toNat ∨ (c ^^^ UInt8.ofNat (2 ^ j)).toNat = c.toNat + 2 ^ j := by
  have h : ∀ (n : Fin 256) (j : Fin 8), (UInt8.ofNat n.val ^^^ UInt8.ofNat (2 ^ j.val)).toNat + 2 ^ j.val = n.val ∨ (UInt8.ofNat n.val ^^^ UInt8.ofNat (2 ^ j.val)).toNat = n.val + 2 ^ j.val := by decide +kernel
  intro c j hj
  have := h ⟨c.toNat, c.toNat_lt⟩ ⟨j, hj⟩
  simpa using this
/-- the sum of a text in which the byte at i is another one -/
theorem sum_set : ∀ (l : List UInt8) (i : Nat) (x : UInt8) (hi : i < l.length),
    (wordsL (l.set i x)).sum + (if i % 2 = 0 then 256 else 1) * (l[i]).toNat = (wordsL l).sum + (if i % 2 = 0 then 256 else 1) * x.toNat
  | [], i, x, hi => absurd hi (by simp)
  | [a], 0, x, hi => by simp [wordsL]; omega
  | [a], i + 1, x, hi => absurd hi (by simp)
  | a :: b :: t, 0, x, hi => by simp [wordsL]; omega
  | a :: b :: t, 1, x, hi => by simp [wordsL]; omega
  | a :: b :: t, i + 2, x, hi => by
    have ih := sum_set t i x (by simp at hi; omega)
    have e : (i + 2) % 2 = i % 2 := by omega
    simp only [List.set_cons_succ, wordsL, List.sum_cons, List.getElem_cons_succ, e]
    omega
theorem nrm_apart {s1 s2 p : Nat} (h0 : 65535 - nrm s1 = 0) (hp : 0 < p) (hp2 : p ≤ 32768) (h : s2 + p = s1 ∨ s2 = s1 + p) : 65535 - nrm s2 ≠ 0 := by
  unfold nrm at *
  split at h0
  · omega
  · split
    · omega
    · omega
theorem ofL_flip {l : List UInt8} (h0 : ofL l = 0) (i j : Nat) (hi : i < l.length) (hj : j < 8) : ofL (l.set i (l[i] ^^^ UInt8.ofNat (2 ^ j))) ≠ 0 := by
  have hs := sum_set l i (l[i] ^^^ UInt8.ofNat (2 ^ j)) hi
  have hf := flip_nat l[i] j hj
  have hp : 2 ^ j = 1 ∨ 2 ^ j = 2 ∨ 2 ^ j = 4 ∨ 2 ^ j = 8 ∨ 2 ^ j = 16 ∨ 2 ^ j = 32 ∨ 2 ^ j = 64 ∨ 2 ^ j = 128 := by
    have : j = 0 ∨ j = 1 ∨ j = 2 ∨ j = 3 ∨ j = 4 ∨ j = 5 ∨ j = 6 ∨ j = 7 := by omega
    rcases this with rfl | rfl | rfl | rfl | rfl | rfl | rfl | rfl <;> simp
  generalize 2 ^ j = p at *
  generalize (l[i] ^^^ UInt8.ofNat p).toNat = y at *
  generalize (l[i]).toNat = c at *
  unfold ofL at *
  generalize (wordsL (l.set i (l[i] ^^^ UInt8.ofNat p))).sum = s2 at *
  generalize (wordsL l).sum = s1 at *
  by_cases hev : i % 2 = 0
  · simp only [hev, if_true] at hs
    exact nrm_apart h0 (p := 256 * p) (by omega) (by omega) (by omega)
  · simp only [hev, if_false] at hs
    exact nrm_apart h0 (p := p) (by omega) (by omega) (by omega)
/-- a bit of a segment turned -/
theorem decE_flip {s d : Nat} {h : TCPh} {data : List UInt8} (hl : 20 + h.opts.size + data.length ≤ 65515) (i j : Nat) (hj : j < 8) (hil : i < (encL s d h data).length) :
    decE s d ((encL s d h data).set i ((encL s d h data)[i] ^^^ UInt8.ofNat (2 ^ j))) = 55 := by
  have hz := enc_sum s d h data
  have hlen := enc_len s d h data
  generalize encL s d h data = E at *
  have hfl := ofL_flip hz (12 + i) j (by rw [List.length_append, aheadL_length]; omega) hj
  have e1 : (aheadL s d E.length ++ E)[12 + i]'(by rw [List.length_append, aheadL_length]; omega) = E[i] := by
    rw [List.getElem_append_right (by rw [aheadL_length]; omega)]
    congr 1
    rw [aheadL_length]; omega
  have e2 : ∀ v, (aheadL s d E.length ++ E).set (12 + i) v = aheadL s d E.length ++ E.set i v := by
    intro v
    rw [List.set_append_right _ _ (by rw [aheadL_length]; omega), aheadL_length]
    congr 2
    omega
  rw [e1, e2] at hfl
  unfold decE
  rw [List.length_set, if_neg (by omega), if_neg (by omega), if_pos hfl]
/-- a number of 32 bits of which one bit is turned -/
def flipN (s k : Nat) : Nat := s ^^^ 2 ^ k
theorem xor_one (q : Nat) : (q % 2 = 0 ∧ q ^^^ 1 = q + 1) ∨ (q % 2 = 1 ∧ (q ^^^ 1) + 1 = q) := by
  have h1 : (q ^^^ 1) / 2 = q / 2 := by
    have := Nat.xor_div_two_pow (a := q) (b := 1) (n := 1)
    simpa using this
  have h2 : (q ^^^ 1) % 2 = (q % 2) ^^^ 1 := by
    have := Nat.xor_mod_two_pow (a := q) (b := 1) (n := 1)
    simpa using this
  rcases Nat.mod_two_eq_zero_or_one q with h | h
  · rw [h] at h2
    have : (0 ^^^ 1 : Nat) = 1 := rfl
    omega
  · rw [h] at h2
    have : (1 ^^^ 1 : Nat) = 0 := rfl
    omega
theorem flipN_cases (s k : Nat) : ((s / 2 ^ k) % 2 = 0 ∧ flipN s k = s + 2 ^ k) ∨ ((s / 2 ^ k) % 2 = 1 ∧ flipN s k + 2 ^ k = s) := by
  unfold flipN
  have h1 : (s ^^^ 2 ^ k) / 2 ^ k = s / 2 ^ k ^^^ 1 := by
    rw [Nat.xor_div_two_pow, Nat.div_self (Nat.two_pow_pos k)]
  have h2 : (s ^^^ 2 ^ k) % 2 ^ k = s % 2 ^ k := by
    rw [Nat.xor_mod_two_pow, Nat.mod_self, Nat.xor_zero]
  have d1 := Nat.div_add_mod (s ^^^ 2 ^ k) (2 ^ k)
  have d2 := Nat.div_add_mod s (2 ^ k)
  rw [h1, h2] at d1
  rcases xor_one (s / 2 ^ k) with ⟨a, b⟩ | ⟨a, b⟩
  · left
    refine ⟨a, ?_⟩
    rw [b, Nat.mul_add] at d1
    omega
  · right
    refine ⟨a, ?_⟩
    generalize (s / 2 ^ k ^^^ 1) = y at *
    rw [← b, Nat.mul_add] at d2
    omega
theorem flipN_sum {s k : Nat} (hs : s < 4294967296) (hk : k < 32) : flipN s k < 4294967296 ∧ ∃ p, 0 < p ∧ p ≤ 32768 ∧ (flipN s k / 65536 + flipN s k % 65536 + p = s / 65536 + s % 65536 ∨ flipN s k / 65536 + flipN s k % 65536 = s / 65536 + s % 65536 + p) := by
  have hc := flipN_cases s k
  generalize flipN s k = t at *
  have : k = 0 ∨ k = 1 ∨ k = 2 ∨ k = 3 ∨ k = 4 ∨ k = 5 ∨ k = 6 ∨ k = 7 ∨ k = 8 ∨ k = 9 ∨ k = 10 ∨ k = 11 ∨ k = 12 ∨ k = 13 ∨ k = 14 ∨ k = 15 ∨ k = 16 ∨ k = 17 ∨ k = 18 ∨ k = 19 ∨ k = 20 ∨ k = 21 ∨ k = 22 ∨ k = 23 ∨ k = 24 ∨ k = 25 ∨ k = 26 ∨ k = 27 ∨ k = 28 ∨ k = 29 ∨ k = 30 ∨ k = 31 := by omega
  rcases this with rfl | rfl | rfl | rfl | rfl | rfl | rfl | rfl | rfl | rfl | rfl | rfl | rfl | rfl | rfl | rfl | rfl | rfl | rfl | rfl | rfl | rfl | rfl | rfl | rfl | rfl | rfl | rfl | rfl | rfl | rfl | rfl
  all_goals simp only [Nat.reducePow] at hc
  all_goals refine ⟨by omega, ?_⟩
  · exact ⟨1, by omega, by omega, by omega⟩
  · exact ⟨2, by omega, by omega, by omega⟩
  · exact ⟨4, by omega, by omega, by omega⟩
  · exact ⟨8, by omega, by omega, by omega⟩
  · exact ⟨16, by omega, by omega, by omega⟩
  · exact ⟨32, by omega, by omega, by omega⟩
  · exact ⟨64, by omega, by omega, by omega⟩
  · exact ⟨128, by omega, by omega, by omega⟩
  · exact ⟨256, by omega, by omega, by omega⟩
  · exact ⟨512, by omega, by omega, by omega⟩
  · exact ⟨1024, by omega, by omega, by omega⟩
  · exact ⟨2048, by omega, by omega, by omega⟩
  · exact ⟨4096, by omega, by omega, by omega⟩
  · exact ⟨8192, by omega, by omega, by omega⟩
  · exact ⟨16384, by omega, by omega, by omega⟩
  · exact ⟨32768, by omega, by omega, by omega⟩
  · exact ⟨1, by omega, by omega, by omega⟩
  · exact ⟨2, by omega, by omega, by omega⟩
  · exact ⟨4, by omega, by omega, by omega⟩
  · exact ⟨8, by omega, by omega, by omega⟩
  · exact ⟨16, by omega, by omega, by omega⟩
  · exact ⟨32, by omega, by omega, by omega⟩
  · exact ⟨64, by omega, by omega, by omega⟩
  · exact ⟨128, by omega, by omega, by omega⟩
  · exact ⟨256, by omega, by omega, by omega⟩
  · exact ⟨512, by omega, by omega, by omega⟩
  · exact ⟨1024, by omega, by omega, by omega⟩
  · exact ⟨2048, by omega, by omega, by omega⟩
  · exact ⟨4096, by omega, by omega, by omega⟩
  · exact ⟨8192, by omega, by omega, by omega⟩
  · exact ⟨16384, by omega, by omega, by omega⟩
  · exact ⟨32768, by omega, by omega, by omega⟩
set_option maxRecDepth 10000 in
theorem ahead_words {s d n : Nat} (hs : s < 4294967296) (hd : d < 4294967296) (hn : n < 65536) : (wordsL (aheadL s d n)).sum = (s / 65536 + s % 65536) + (d / 65536 + d % 65536) + 6 + n := by
  have e : aheadL s d n = be4 s ++ (be4 d ++ ([0, 6] ++ be2 n)) := rfl
  have h4 : ∀ x : Nat, x < 4294967296 → (wordsL (be4 x)).sum = x / 65536 + x % 65536 := by
    intro x hx
    simp only [be4, wordsL, List.sum_cons, List.sum_nil, UInt8.toNat_ofNat']
    omega
  have h6 : (wordsL [0, 6]).sum = 6 := rfl
  rw [e, wordsL_app (be4 s) _ (by simp [be4]), wordsL_app (be4 d) _ (by simp [be4]), wordsL_app [0, 6] _ (by simp), List.sum_append, List.sum_append, List.sum_append, h4 s hs, h4 d hd, h6, wordsL_be2 n hn]
  simp
  omega
theorem decE_src {s d : Nat} {h : TCPh} {data : List UInt8} (hs : s < 4294967296) (hd : d < 4294967296) (hl : 20 + h.opts.size + data.length ≤ 65515) (k : Nat) (hk : k < 32) : decE (flipN s k) d (encL s d h data) = 55 := by
  have hz := enc_sum s d h data
  have hlen := enc_len s d h data
  obtain ⟨hf, p, hp0, hp1, hp2⟩ := flipN_sum hs hk
  generalize encL s d h data = E at *
  have h55 : ofL (aheadL (flipN s k) d E.length ++ E) ≠ 0 := by
    unfold ofL at *
    rw [wordsL_app _ _ (by rw [aheadL_length]), List.sum_append, ahead_words hs hd (by omega)] at hz
    rw [wordsL_app _ _ (by rw [aheadL_length]), List.sum_append, ahead_words hf hd (by omega)]
    exact nrm_apart hz hp0 hp1 (by omega)
  unfold decE
  rw [if_neg (by omega), if_neg (by omega), if_pos h55]
theorem decE_dst {s d : Nat} {h : TCPh} {data : List UInt8} (hs : s < 4294967296) (hd : d < 4294967296) (hl : 20 + h.opts.size + data.length ≤ 65515) (k : Nat) (hk : k < 32) : decE s (flipN d k) (encL s d h data) = 55 := by
  have hz := enc_sum s d h data
  have hlen := enc_len s d h data
  obtain ⟨hf, p, hp0, hp1, hp2⟩ := flipN_sum hd hk
  generalize encL s d h data = E at *
  have h55 : ofL (aheadL s (flipN d k) E.length ++ E) ≠ 0 := by
    unfold ofL at *
    rw [wordsL_app _ _ (by rw [aheadL_length]), List.sum_append, ahead_words hs hd (by omega)] at hz
    rw [wordsL_app _ _ (by rw [aheadL_length]), List.sum_append, ahead_words hs hf (by omega)]
    exact nrm_apart hz hp0 hp1 (by omega)
  unfold decE
  rw [if_neg (by omega), if_neg (by omega), if_pos h55]
end Go.Proofs.Ytpmcdpbolcmhgaa
