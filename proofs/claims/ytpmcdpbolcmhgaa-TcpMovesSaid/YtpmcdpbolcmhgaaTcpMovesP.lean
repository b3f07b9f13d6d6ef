/- PLAIN: a segment which is read is written again as its own bytes (layer 6). -/
import Derived.Test.YtpmcdpbolcmhgaaTcpLaws
set_option linter.unusedVariables false
set_option linter.unusedSimpArgs false
namespace Go.Proofs.Ytpmcdpbolcmhgaa
open Go.RowKit

theorem be2_num (a b : UInt8) : be2 (numL [a, b] % 65536) = [a, b] := by
  have ha := a.toNat_lt
  have hb := b.toNat_lt
  simp only [be2, numL, List.foldl_cons, List.foldl_nil, List.cons.injEq, and_true]
  constructor
  · apply UInt8.toNat_inj.1; rw [UInt8.toNat_ofNat']; omega
  · apply UInt8.toNat_inj.1; rw [UInt8.toNat_ofNat']; omega
theorem be4_num (a b c d : UInt8) : be4 (numL [a, b, c, d]) = [a, b, c, d] := by
  have ha := a.toNat_lt
  have hb := b.toNat_lt
  have hc := c.toNat_lt
  have hd := d.toNat_lt
  simp only [be4, numL, List.foldl_cons, List.foldl_nil, List.cons.injEq, and_true]
  refine ⟨?_, ?_, ?_, ?_⟩
  all_goals apply UInt8.toNat_inj.1; rw [UInt8.toNat_ofNat']; omega
theorem off_back (b : UInt8) (h : b.toNat % 16 = 0) (h5 : 20 ≤ b.toNat / 16 * 4) : offB (20 + (b.toNat / 16 * 4 - 20)) = b := by
  have hb := b.toNat_lt
  unfold offB
  apply UInt8.toNat_inj.1
  rw [UInt8.toNat_ofNat']
  omega
theorem one {l : List UInt8} {n : Nat} (h : n + 1 ≤ l.length) : ∃ a r, l = a :: r ∧ n ≤ r.length := by
  cases l with
  | nil => simp at h
  | cons a r => exact ⟨a, r, rfl, by simpa using h⟩
theorem twenty {l : List UInt8} (h : 20 ≤ l.length) : ∃ b0 b1 b2 b3 b4 b5 b6 b7 b8 b9 b10 b11 b12 b13 b14 b15 b16 b17 b18 b19 r, l = b0 :: b1 :: b2 :: b3 :: b4 :: b5 :: b6 :: b7 :: b8 :: b9 :: b10 :: b11 :: b12 :: b13 :: b14 :: b15 :: b16 :: b17 :: b18 :: b19 :: r := by
  obtain ⟨b0, l0, rfl, h0⟩ := one (n := 19) h
  obtain ⟨b1, l1, rfl, h1⟩ := one (n := 18) h0
  obtain ⟨b2, l2, rfl, h2⟩ := one (n := 17) h1
  obtain ⟨b3, l3, rfl, h3⟩ := one (n := 16) h2
  obtain ⟨b4, l4, rfl, h4⟩ := one (n := 15) h3
  obtain ⟨b5, l5, rfl, h5⟩ := one (n := 14) h4
  obtain ⟨b6, l6, rfl, h6⟩ := one (n := 13) h5
  obtain ⟨b7, l7, rfl, h7⟩ := one (n := 12) h6
  obtain ⟨b8, l8, rfl, h8⟩ := one (n := 11) h7
  obtain ⟨b9, l9, rfl, h9⟩ := one (n := 10) h8
  obtain ⟨b10, l10, rfl, h10⟩ := one (n := 9) h9
  obtain ⟨b11, l11, rfl, h11⟩ := one (n := 8) h10
  obtain ⟨b12, l12, rfl, h12⟩ := one (n := 7) h11
  obtain ⟨b13, l13, rfl, h13⟩ := one (n := 6) h12
  obtain ⟨b14, l14, rfl, h14⟩ := one (n := 5) h13
  obtain ⟨b15, l15, rfl, h15⟩ := one (n := 4) h14
  obtain ⟨b16, l16, rfl, h16⟩ := one (n := 3) h15
  obtain ⟨b17, l17, rfl, h17⟩ := one (n := 2) h16
  obtain ⟨b18, l18, rfl, h18⟩ := one (n := 1) h17
  obtain ⟨b19, l19, rfl, h19⟩ := one (n := 0) h18
  exact ⟨_, _, _, _, _, _, _, _, _, _, _, _, _, _, _, _, _, _, _, _, _, rfl⟩
theorem decE_parts {s d : Nat} {l : List UInt8} (h : decE s d l = 0) : 20 ≤ l.length ∧ l.length ≤ 65515 ∧ ofL (aheadL s d l.length ++ l) = 0 ∧ 20 ≤ endN l ∧ endN l ≤ l.length ∧ at0 l 12 % 16 = 0 ∧ at0 l 13 < 64 := by
  unfold decE at h
  unfold endN
  split at h
  · cases h
  split at h
  · cases h
  split at h
  · cases h
  split at h
  · cases h
  split at h
  · cases h
  omega
theorem moves {s d : Nat} {l : List UInt8} (hs : s < 4294967296) (hd : d < 4294967296) (h : decE s d l = 0) :
    (decH l).ok ∧ (decH l).may ∧ 20 + (decH l).opts.size + (l.drop (endN l)).length = l.length ∧ ∃ q, q < 65536 ∧ l = rawL (decH l) (l.drop (endN l)) q ∧ (q = sumL s d (decH l) (l.drop (endN l)) ∨ q = 65535) := by
  obtain ⟨h20, hl, hsum, he1, he2, h12, h13⟩ := decE_parts h
  have hoz : (decH l).opts.size = endN l - 20 := by
    show ((sub l 20 (endN l)).toArray).size = _
    rw [List.size_toArray]
    unfold sub
    rw [List.length_take, List.length_drop]
    omega
  have hc : at0 l 12 < 256 := UInt8.toNat_lt _
  have he : endN l = at0 l 12 / 16 * 4 := rfl
  have hdl : (l.drop (endN l)).length = l.length - endN l := List.length_drop
  have hmay : (decH l).may := ⟨by rw [hoz]; omega, by rw [hoz]; omega, h13⟩
  have hok : (decH l).ok := ⟨Nat.mod_lt _ (by decide), Nat.mod_lt _ (by decide), numL_lt _, numL_lt _, Nat.mod_lt _ (by decide), Nat.mod_lt _ (by decide)⟩
  refine ⟨hok, hmay, by rw [hoz, hdl]; omega, numL (sub l 16 18) % 65536, Nat.mod_lt _ (by decide), ?_⟩
  have hraw : l = rawL (decH l) (l.drop (endN l)) (numL (sub l 16 18) % 65536) := by
    have hlen := he2
    obtain ⟨b0, b1, b2, b3, b4, b5, b6, b7, b8, b9, b10, b11, b12, b13, b14, b15, b16, b17, b18, b19, r, rfl⟩ := twenty h20
    generalize hn : endN _ = n at *
    have a12 : at0 (b0 :: b1 :: b2 :: b3 :: b4 :: b5 :: b6 :: b7 :: b8 :: b9 :: b10 :: b11 :: b12 :: b13 :: b14 :: b15 :: b16 :: b17 :: b18 :: b19 :: r) 12 = b12.toNat := rfl
    rw [a12] at he h12
    unfold rawL frontL backL
    rw [hoz, he, off_back b12 h12 (by omega), ← he]
    unfold decH
    simp only [hn]
    have e1 : ∀ t : List UInt8, sub (b0 :: b1 :: t) 0 2 = [b0, b1] := fun _ => rfl
    have e2 : ∀ t : List UInt8, sub (b0 :: b1 :: b2 :: b3 :: t) 2 4 = [b2, b3] := fun _ => rfl
    have e3 : ∀ t : List UInt8, sub (b0 :: b1 :: b2 :: b3 :: b4 :: b5 :: b6 :: b7 :: t) 4 8 = [b4, b5, b6, b7] := fun _ => rfl
    have e4 : ∀ t : List UInt8, sub (b0 :: b1 :: b2 :: b3 :: b4 :: b5 :: b6 :: b7 :: b8 :: b9 :: b10 :: b11 :: t) 8 12 = [b8, b9, b10, b11] := fun _ => rfl
    have e5 : ∀ t : List UInt8, sub (b0 :: b1 :: b2 :: b3 :: b4 :: b5 :: b6 :: b7 :: b8 :: b9 :: b10 :: b11 :: b12 :: b13 :: b14 :: b15 :: t) 14 16 = [b14, b15] := fun _ => rfl
    have e6 : ∀ t : List UInt8, sub (b0 :: b1 :: b2 :: b3 :: b4 :: b5 :: b6 :: b7 :: b8 :: b9 :: b10 :: b11 :: b12 :: b13 :: b14 :: b15 :: b16 :: b17 :: b18 :: b19 :: t) 18 20 = [b18, b19] := fun _ => rfl
    have e7 : ∀ t : List UInt8, sub (b0 :: b1 :: b2 :: b3 :: b4 :: b5 :: b6 :: b7 :: b8 :: b9 :: b10 :: b11 :: b12 :: b13 :: b14 :: b15 :: b16 :: b17 :: t) 16 18 = [b16, b17] := fun _ => rfl
    have e8 : sub (b0 :: b1 :: b2 :: b3 :: b4 :: b5 :: b6 :: b7 :: b8 :: b9 :: b10 :: b11 :: b12 :: b13 :: b14 :: b15 :: b16 :: b17 :: b18 :: b19 :: r) 20 n = r.take (n - 20) := rfl
    have e9 : (b0 :: b1 :: b2 :: b3 :: b4 :: b5 :: b6 :: b7 :: b8 :: b9 :: b10 :: b11 :: b12 :: b13 :: b14 :: b15 :: b16 :: b17 :: b18 :: b19 :: r).drop n = r.drop (n - 20) := by
      obtain ⟨k, rfl⟩ : ∃ k, n = k + 20 := ⟨n - 20, by omega⟩
      rw [Nat.add_sub_cancel]
      rfl
    have e10 : (b0 :: b1 :: b2 :: b3 :: b4 :: b5 :: b6 :: b7 :: b8 :: b9 :: b10 :: b11 :: b12 :: b13 :: b14 :: b15 :: b16 :: b17 :: b18 :: b19 :: r).getD 13 0 = b13 := rfl
    rw [e1, e2, e3, e4, e5, e6, e7, e8, e9, e10]
    simp only [be2_num, be4_num, List.cons_append, List.nil_append, List.append_assoc, List.take_append_drop]
  refine ⟨hraw, ?_⟩
  generalize hq : numL (sub l 16 18) % 65536 = q at *
  have hq2 : q < 65536 := by rw [← hq]; exact Nat.mod_lt _ (by decide)
  clear hq
  generalize decH l = x at *
  generalize hD : l.drop (endN l) = data at *
  have hlen2 : l.length = 20 + x.opts.size + data.length := by rw [hoz, hdl]; omega
  have hsum2 : 65535 - nrm (restW s d x data + q) = 0 := by
    have := hsum
    unfold ofL at this
    rw [hlen2, hraw, raw_sum _ _ _ _ _ hq2] at this
    exact this
  rw [sumL_rest]
  have hpos : 0 < restW s d x data := by
    unfold restW
    rw [ahead_words hs hd (by omega)]
    omega
  generalize restW s d x data = r at *
  unfold nrm at *
  rw [if_neg (by omega)] at *
  omega
/-- what a segment with a checksum is made of -/
theorem raw_parts (h : TCPh) (data : List UInt8) (q : Nat) : (rawL h data q).take 16 = frontL h ∧ (rawL h data q).drop 18 = backL h data ∧ sub (rawL h data q) 16 18 = be2 q := ⟨rfl, rfl, rfl⟩
end Go.Proofs.Ytpmcdpbolcmhgaa
