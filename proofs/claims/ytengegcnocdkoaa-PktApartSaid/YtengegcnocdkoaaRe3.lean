/- Contracts and plain lemmas: PIpRefDec, PIpAlive, PIpLaws, PTcp, PTcpPlain, PTcpAhead, PTcpEnc, PTcpErr, PTcpDecPlain, PTcpDec. -/
import Derived.Laws.BitsAllLaws
import Derived.Laws.MakeOwn
import Derived.Laws.OwnMore
import Derived.Deep.RegionHeld3
import Derived.Deep.DeepCutAuto
import Derived.Test.YtengegcnocdkoaaRe2
import Derived.Test.YtengegcnocdkoaaRe1
set_option linter.unusedVariables false
set_option linter.unusedSimpArgs false
set_option linter.unusedSectionVars false
section
namespace Go.Proofs.Ytengegcnocdkoaa.I
open Go.RowKit Go.BigFrame
set_option maxHeartbeats 1000000 in
theorem dec_short (s : ByteArray) (w : World) (h20 : s.size < 20) :
    Calls Try.prog 40 #[.string s] w fun e w' => e = .returned (decV s.data.toList) ∧ Below w.heap.size w w' := by
  have hE : decE s.data.toList = 50 := by
    unfold decE
    rw [if_pos (show s.data.toList.length < 20 from h20)]
  have hV := decV_bad hE (by decide)
  have HV := Lib.hid hV
  clear hV hE
  have i1 : (s.size : Int) < 20 := by omega
  go_enter Try.func40, Try.ntmps40
  go_wp2
  rw [HV.out]
  exact bodyPost_ret (v := badV 50) (by simp [results, Try.results40, go_sem, badV, zeroC]) rfl ⟨rfl, by first | exact ((Below.refl _ _).alloc (Nat.le_refl _) _) | exact Below.alloc (Below.refl _ _) (by simp) _⟩
end Go.Proofs.Ytengegcnocdkoaa.I
end
section
namespace Go.Proofs.Ytengegcnocdkoaa.I
open Go.RowKit
theorem dec_all (s : ByteArray) (w : World) (hs : s.size ≤ 1099511627776) : Calls Try.prog 40 #[.string s] w fun e w' => e = .returned (decV s.data.toList) ∧ Below w.heap.size w w' := by
  rcases Nat.lt_or_ge s.size 20 with h | h
  · exact dec_short s w h
  · exact dec_any s w h hs
/-- what Encode answers -/
def encV (h : IPh) (load : ByteArray) : Value := if 65535 < 20 + load.size then .tuple #[.string ⟨#[]⟩, .int .i64 4] else .tuple #[.string ⟨(encL h load.data.toList).toArray⟩, .int .i64 0]
theorem enc_all (h : IPh) (load : ByteArray) (w : World) (ho : h.ok) (hm : load.size ≤ 131072) : Calls Try.prog 29 #[.agg h.cells, .string load] w fun e w' => e = .returned (encV h load) ∧ Below w.heap.size w w' := by
  unfold encV
  by_cases hl : 65535 < 20 + load.size
  · rw [if_pos hl]; exact enc_long h load w hl hm
  · rw [if_neg hl]; exact enc_ok h load w ho (by omega)
end Go.Proofs.Ytengegcnocdkoaa.I
end
section
namespace Go.Proofs.Ytengegcnocdkoaa.I
open Go.RowKit
theorem nrm_full (s : Nat) : nrm (s + (65535 - nrm s)) = 65535 := by
  unfold nrm
  split
  · subst_vars; rfl
  · rw [if_neg (by omega)]
    omega
theorem wordsL_be2 (s : Nat) (hs : s < 65536) : wordsL (be2 s) = [s] := by
  simp only [be2, wordsL, UInt8.toNat_ofNat']
  congr 1
  omega
theorem head_sum (h : IPh) (n : Nat) : ofL (headL h n (sumL h n)) = 0 := by
  have hs := sumL_lt h n
  have e : sumL h n = 65535 - nrm ((wordsL (frontL h n)).sum + (wordsL (backL h)).sum) := by
    unfold sumL ofL
    rw [wordsL_app _ _ (by rw [frontL_length]), List.sum_append]
  unfold ofL headL
  rw [List.append_assoc, wordsL_app _ _ (by rw [frontL_length]), wordsL_app (be2 _) _ (by simp [be2]), wordsL_be2 _ hs, List.sum_append, List.sum_append]
  have : (wordsL (frontL h n)).sum + ([sumL h n].sum + (wordsL (backL h)).sum) = ((wordsL (frontL h n)).sum + (wordsL (backL h)).sum) + (65535 - nrm ((wordsL (frontL h n)).sum + (wordsL (backL h)).sum)) := by
    rw [← e]; simp; omega
  rw [this, nrm_full]
theorem numL_be2 (n : Nat) (hn : n < 65536) : numL (be2 n) = n := by
  simp only [numL, be2, List.foldl_cons, List.foldl_nil, UInt8.toNat_ofNat']
  omega
theorem numL_be4 (n : Nat) (hn : n < 4294967296) : numL (be4 n) = n := by
  simp only [numL, be4, List.foldl_cons, List.foldl_nil, UInt8.toNat_ofNat']
  omega
section
variable (h : IPh) (l : List UInt8)
theorem enc_take : (encL h l).take 20 = headL h (20 + l.length) (sumL h (20 + l.length)) := rfl
theorem enc_drop : (encL h l).drop 20 = l := rfl
theorem enc_n : ((encL h l).drop 2).take 2 = be2 (20 + l.length) := rfl
theorem enc_len : (encL h l).length = 20 + l.length := by
  unfold encL
  rw [List.length_append, headL_length]
theorem enc_0 : at0 (encL h l) 0 = 69 := rfl
theorem enc_6 : at0 (encL h l) 6 = if h.df then 64 else 0 := by
  show (if h.df then (64 : UInt8) else 0).toNat = _
  cases h.df <;> rfl
theorem enc_7 : at0 (encL h l) 7 = 0 := rfl
end
theorem decE_enc {h : IPh} {l : List UInt8} (ho : h.ok) (hl : 20 + l.length ≤ 65535) : decE (encL h l) = 0 := by
  unfold decE
  rw [enc_take, enc_n, enc_len, enc_0, enc_6, enc_7, head_sum, numL_be2 _ (by omega), if_neg (by omega), if_neg (by decide), if_neg (by decide), if_neg (by simp), if_neg (by simp), if_neg]
  cases h.df <;> decide
theorem decH_enc {h : IPh} {l : List UInt8} (ho : h.ok) : decH (encL h l) = h := by
  obtain ⟨src, dst, proto, ttl, tos, id, df⟩ := h
  obtain ⟨o1, o2, o3⟩ := ho
  simp only at o1 o2 o3
  unfold decH
  rw [enc_6]
  have e1 : ((encL ⟨src, dst, proto, ttl, tos, id, df⟩ l).drop 12).take 4 = be4 src := rfl
  have e2 : ((encL ⟨src, dst, proto, ttl, tos, id, df⟩ l).drop 16).take 4 = be4 dst := rfl
  have e3 : ((encL ⟨src, dst, proto, ttl, tos, id, df⟩ l).drop 4).take 2 = be2 id := rfl
  rw [e1, e2, e3, numL_be4 _ o1, numL_be4 _ o2, numL_be2 _ o3, Nat.mod_eq_of_lt o3]
  congr 1
  cases df <;> rfl
theorem flip_nat : ∀ (c : UInt8) (j : Nat), j < 8 → (c ^^^ UInt8.ofNat (2 ^ j)).toNat + 2 ^ j = c.toNat ∨ (c ^^^ UInt8.ofNat (2 ^ j)).toNat = c.toNat + 2 ^ j := by
  have h : ∀ (n : Fin 256) (j : Fin 8), (UInt8.ofNat n.val ^^^ UInt8.ofNat (2 ^ j.val)).toNat + 2 ^ j.val = n.val ∨ (UInt8.ofNat n.val ^^^ UInt8.ofNat (2 ^ j.val)).toNat = n.val + 2 ^ j.val := by decide +kernel
  intro c j hj
  have := h ⟨c.toNat, c.toNat_lt⟩ ⟨j, hj⟩
  simpa using this
/-- the sum of a text of an even length in which the byte at i is another one -/
theorem sum_set : ∀ (l : List UInt8) (i : Nat) (x : UInt8) (hi : i < l.length), l.length % 2 = 0 →
    (wordsL (l.set i x)).sum + (if i % 2 = 0 then 256 else 1) * (l[i]).toNat = (wordsL l).sum + (if i % 2 = 0 then 256 else 1) * x.toNat
  | [], i, x, hi, _ => absurd hi (by simp)
  | [a], i, x, hi, he => by simp at he
  | a :: b :: t, 0, x, hi, he => by simp [wordsL]; omega
  | a :: b :: t, 1, x, hi, he => by simp [wordsL]; omega
  | a :: b :: t, i + 2, x, hi, he => by
    have ih := sum_set t i x (by simp at hi; omega) (by simp only [List.length_cons] at he; omega)
    have e : (i + 2) % 2 = i % 2 := by omega
    simp only [List.set_cons_succ, wordsL, List.sum_cons, List.getElem_cons_succ, e]
    omega
theorem ofL_flip {l : List UInt8} (h0 : ofL l = 0) (he : l.length % 2 = 0) (i j : Nat) (hi : i < l.length) (hj : j < 8) : ofL (l.set i (l[i] ^^^ UInt8.ofNat (2 ^ j))) ≠ 0 := by
  have hs := sum_set l i (l[i] ^^^ UInt8.ofNat (2 ^ j)) hi he
  have hf := flip_nat l[i] j hj
  have hp : 2 ^ j = 1 ∨ 2 ^ j = 2 ∨ 2 ^ j = 4 ∨ 2 ^ j = 8 ∨ 2 ^ j = 16 ∨ 2 ^ j = 32 ∨ 2 ^ j = 64 ∨ 2 ^ j = 128 := by
    have : j = 0 ∨ j = 1 ∨ j = 2 ∨ j = 3 ∨ j = 4 ∨ j = 5 ∨ j = 6 ∨ j = 7 := by omega
    rcases this with rfl | rfl | rfl | rfl | rfl | rfl | rfl | rfl <;> simp
  generalize 2 ^ j = p at *
  generalize (l[i] ^^^ UInt8.ofNat p).toNat = y at *
  generalize (l[i]).toNat = c at *
  unfold ofL at *
  generalize (wordsL (l.set i (l[i] ^^^ UInt8.ofNat p))).sum = s2 at *
  generalize (wordsL l).sum = s1 at *
  intro h2
  unfold nrm at *
  split at h0
  · omega
  · split at h2
    · omega
    · by_cases hev : i % 2 = 0
      · simp only [hev, if_true] at hs
        omega
      · simp only [hev, if_false] at hs
        omega
/-- a bit of the head turned -/
theorem decE_flip {h : IPh} {l : List UInt8} (i j : Nat) (hi : i < 20) (hj : j < 8) (hil : i < (encL h l).length) : decE ((encL h l).set i ((encL h l)[i] ^^^ UInt8.ofNat (2 ^ j))) ≠ 0 := by
  intro e
  have hz := head_sum h (20 + l.length)
  rw [← enc_take] at hz
  have hlen : ((encL h l).take 20).length = 20 := by rw [List.length_take, enc_len]; omega
  have := ofL_flip hz (by rw [hlen]) i j (by omega) hj
  rw [List.getElem_take, ← List.take_set] at this
  unfold decE at e
  repeat' (split at e)
  all_goals first | (exfalso; omega) | (exact absurd this (by assumption))
end Go.Proofs.Ytengegcnocdkoaa.I
end
section
namespace Go.Proofs.Ytengegcnocdkoaa.T
open Go.RowKit
set_option maxHeartbeats 2000000 in
theorem number_any (s : ByteArray) (w : World) (hs : s.size ≤ maxLen) :
    Calls Try.prog 74 #[.string s] w fun e w' => e = .returned (.int .u32 ((numL s.data.toList : Nat) : Int)) ∧ Below w.heap.size w w' := by
  obtain ⟨W1, cap, hrun, hB, hsz, hcell, _⟩ := run_bytes_new w s
  unfold maxLen at hs
  go_enter Try.func74, Try.ntmps74
  go_wp2
  clear hrun
  have HC := Lib.hid hcell
  clear hcell hsz
  go_loop [2, 8] (fun x i => ∃ k : Nat, k ≤ s.size ∧ i = .int .i64 k ∧ x = .int .u32 ((numL (s.data.toList.take k) : Nat) : Int)) (fun _ i => s.size - (intOf i).toNat)
  case atStart => exact ⟨0, Nat.zero_le _, rfl, rfl⟩
  case round =>
    obtain ⟨k, hk, rfl, rfl⟩ := hrel
    by_cases hlt : k < s.size
    · have c1 := HC.out k hlt
      have hn := numL_lt (s.data.toList.take k)
      have hst := numL_step (s.data.toList.take k) s[k]
      rw [← take_snoc' s k hlt] at hst
      generalize numL (s.data.toList.take k) = n at *
      obtain ⟨n2, hn2⟩ : ∃ n2, n2 = numL (s.data.toList.take (k + 1)) := ⟨_, rfl⟩
      rw [← hn2] at hst
      have HN2 := Lib.hid hn2
      clear hn2
      have hc := (s[k]).toNat_lt
      generalize (s[k]).toNat = c at *
      have hm : ((n * 256 % 4294967296 : Nat) : Int) = (n : Int) * 256 % 4294967296 := by omega
      rw [hm] at hst
      have hw : IntKind.u32.wrap ((n : Int) * 256) = (n : Int) * 256 % 4294967296 := by rw [IntKind.wrap_u32']
      clear hm
      go_wp2
      go_round
      case rel => exact ⟨k + 1, by omega, by go_num, by rw [← HN2.out]⟩
      case measure => simp [intOf]; omega
    · go_wp2
      go_ret
      exact ⟨ret_int (by rw [List.take_of_length_le (by show s.size ≤ k; omega)]), hB⟩
set_option maxHeartbeats 2000000 in
theorem number16 (s : ByteArray) (w : World) (hs : s.size ≤ maxLen) :
    Calls Try.prog 73 #[.string s] w fun e w' => e = .returned (.int .u16 ((numL s.data.toList % 65536 : Nat) : Int)) ∧ Below w.heap.size w w' := by
  obtain ⟨W1, cap, hrun, hB, hsz, hcell, _⟩ := run_bytes_new w s
  unfold maxLen at hs
  go_enter Try.func73, Try.ntmps73
  go_wp2
  clear hrun
  have HC := Lib.hid hcell
  clear hcell hsz
  go_loop [2, 8] (fun x i => ∃ k : Nat, k ≤ s.size ∧ i = .int .i64 k ∧ x = .int .u16 ((numL (s.data.toList.take k) % 65536 : Nat) : Int)) (fun _ i => s.size - (intOf i).toNat)
  case atStart => exact ⟨0, Nat.zero_le _, rfl, rfl⟩
  case round =>
    obtain ⟨k, hk, rfl, rfl⟩ := hrel
    by_cases hlt : k < s.size
    · have c1 := HC.out k hlt
      have hst := numL16_step (s.data.toList.take k) s[k]
      rw [← take_snoc' s k hlt] at hst
      obtain ⟨n, hn⟩ : ∃ n, n = numL (s.data.toList.take k) % 65536 := ⟨_, rfl⟩
      obtain ⟨n2, hn2⟩ : ∃ n2, n2 = numL (s.data.toList.take (k + 1)) % 65536 := ⟨_, rfl⟩
      rw [← hn, ← hn2] at hst
      rw [← hn]
      have hnl : n < 65536 := by omega
      have HN2 := Lib.hid hn2
      clear hn2 hn
      have hc := (s[k]).toNat_lt
      generalize (s[k]).toNat = c at *
      have hm : ((n * 256 % 65536 : Nat) : Int) = (n : Int) * 256 % 65536 := by omega
      rw [hm] at hst
      have hw : IntKind.u16.wrap ((n : Int) * 256) = (n : Int) * 256 % 65536 := by rw [IntKind.wrap_u16]
      clear hm
      go_wp2
      go_round
      case rel => exact ⟨k + 1, by omega, by go_num, by rw [← HN2.out]⟩
      case measure => simp [intOf]; omega
    · go_wp2
      go_ret
      exact ⟨ret_int (by rw [List.take_of_length_le (by show s.size ≤ k; omega)]), hB⟩
end Go.Proofs.Ytengegcnocdkoaa.T
end
section
namespace Go.Proofs.Ytengegcnocdkoaa.T
open Go.RowKit
theorem wordsL_app : ∀ (a b : List UInt8), a.length % 2 = 0 → wordsL (a ++ b) = wordsL a ++ wordsL b
  | [], b, _ => rfl
  | [a], b, h => by simp at h
  | a :: c :: t, b, h => by
    have := wordsL_app t b (by simp only [List.length_cons] at h; omega)
    simp only [List.cons_append, wordsL, this]
/-- a head -/
structure TCPh where
  src : Nat
  dst : Nat
  seq : Nat
  ack : Nat
  flags : UInt8
  window : Nat
  urgent : Nat
  opts : ByteArray
def TCPh.ok (h : TCPh) : Prop := h.src < 65536 ∧ h.dst < 65536 ∧ h.seq < 4294967296 ∧ h.ack < 4294967296 ∧ h.window < 65536 ∧ h.urgent < 65536
def TCPh.cells (h : TCPh) : Array Value := #[.int .u16 (h.src : Int), .int .u16 (h.dst : Int), .int .u32 (h.seq : Int), .int .u32 (h.ack : Int), .int .u8 (h.flags.toNat : Int), .int .u16 (h.window : Int), .int .u16 (h.urgent : Int), .string h.opts]
/-- what a sum is of ahead of a segment -/
def aheadL (s d n : Nat) : List UInt8 := be4 s ++ be4 d ++ [0, 6] ++ be2 n
/-- the byte which says how long a head is -/
def offB (m : Nat) : UInt8 := UInt8.ofNat (m / 4 * 16)
def frontL (h : TCPh) : List UInt8 := be2 h.src ++ be2 h.dst ++ be4 h.seq ++ be4 h.ack ++ [offB (20 + h.opts.size), h.flags] ++ be2 h.window
def backL (h : TCPh) (data : List UInt8) : List UInt8 := be2 h.urgent ++ h.opts.data.toList ++ data
/-- the segment with a checksum -/
def rawL (h : TCPh) (data : List UInt8) (s : Nat) : List UInt8 := frontL h ++ be2 s ++ backL h data
def sumL (s d : Nat) (h : TCPh) (data : List UInt8) : Nat := ofL (aheadL s d (20 + h.opts.size + data.length) ++ frontL h ++ backL h data)
def encL (s d : Nat) (h : TCPh) (data : List UInt8) : List UInt8 := rawL h data (sumL s d h data)
theorem aheadL_length (s d n : Nat) : (aheadL s d n).length = 12 := rfl
theorem frontL_length (h : TCPh) : (frontL h).length = 16 := rfl
theorem backL_length (h : TCPh) (data : List UInt8) : (backL h data).length = 2 + h.opts.size + data.length := by
  unfold backL
  rw [List.length_append, List.length_append, Array.length_toList]
  rfl
theorem rawL_length (h : TCPh) (data : List UInt8) (s : Nat) : (rawL h data s).length = 20 + h.opts.size + data.length := by
  unfold rawL
  rw [List.length_append, List.length_append, backL_length, frontL_length, show (be2 s).length = 2 from rfl]
  omega
theorem sumL_lt (s d : Nat) (h : TCPh) (data : List UInt8) : sumL s d h data < 65536 := by
  have := ofL_le (aheadL s d (20 + h.opts.size + data.length) ++ frontL h ++ backL h data)
  unfold sumL; omega
theorem str_cat (a b : List UInt8) : (⟨a.toArray⟩ : ByteArray) ++ ⟨b.toArray⟩ = ⟨(a ++ b).toArray⟩ := by
  apply ByteArray.ext
  rw [ByteArray.data_append]
  simp
theorem str_of (s : ByteArray) : s = ⟨s.data.toList.toArray⟩ := by simp
end Go.Proofs.Ytengegcnocdkoaa.T
end
section
namespace Go.Proofs.Ytengegcnocdkoaa.T
open Go.RowKit Go.BigFrame
set_option maxRecDepth 100000 in
set_option maxHeartbeats 4000000 in
theorem ahead_ok (s d n : Nat) (w : World) (h1 : s < 4294967296) (h2 : d < 4294967296) (h3 : n < 65536) :
    Calls Try.prog 62 #[.int .u32 (s : Int), .int .u32 (d : Int), .int .i64 (n : Int)] w fun e w' => e = .returned (.string ⟨(aheadL s d n).toArray⟩) ∧ Below w.heap.size w w' := by
  have b1 := fun W => high32 s W h1
  have b2 := fun W => high32 d W h2
  have b3 := fun W => high16 n W h3
  have wr : IntKind.u16.wrap (n : Int) = (n : Int) := by rw [IntKind.wrap_u16]; omega
  have B1 := Lib.hid b1
  clear b1
  have B2 := Lib.hid b2
  clear b2
  have B3 := Lib.hid b3
  clear b3
  go_enter Try.func62, Try.ntmps62
  go_upto_region 1 with fail
  have hS0 : OldS w w := Below.refl _ _
  have ne : Nonempty (Cls (OldS w)) := ⟨⟨w, hS0⟩⟩
  have cf : ∀ (vals : Array Value) (w : World), (callFunc 59 vals).run Try.prog w = .ok (.enter 59 vals) w := fun _ _ => by kernel_rfl
  have cf4 : ∀ (vals : Array Value) (w : World), (callFunc 60 vals).run Try.prog w = .ok (.enter 60 vals) w := fun _ _ => by kernel_rfl
  have r1 : ∀ W : World, (Instr.buildSlice 51 2 #[(0, .int .u8 0), (1, .int .u8 6)]).run Try.prog W = .ok (.slice (some ⟨W.heap.size, 0, none⟩) 2 2) (W.alloc (.cells #[.int .u8 0, .int .u8 6] 5)) := fun _ => by kernel_rfl
  have q1 : ∀ W u, isNew 5 #[.int .u8 0, .int .u8 6] 2 u W → (convert 51 9 u).run Try.prog W = .ok (.string ⟨#[0, 6]⟩) W := by
    rintro W u ⟨g, rfl, h⟩
    exact str_two 0 6 W g 2 h
  have Cf := Lib.hid cf
  clear cf
  have Cf4 := Lib.hid cf4
  clear cf4
  have R1 := Lib.hid r1
  clear r1
  have Q1 := Lib.hid q1
  clear q1
  have z2 : ∀ n, (be2 n).length = 2 := fun _ => rfl
  have z4 : ∀ n, (be4 n).length = 4 := fun _ => rfl
  refine wp_region_flat (OldS w) (fun w w' => Below w.heap.size w w') (by kernel_rfl) (by kernel_rfl) (fun w => Below.refl _ _) hS0.drew ?_
  repeat (first
    | (refine flat_quiet (fun w => Below.refl _ _) rfl rfl rfl rfl ?_; intro K hK; go_big_quiet_op; go_big_quiet_on)
    | (refine flat_call Cf4.out _ ?_ rfl rfl rfl _ (fun y => below_call OldS.below y (B1.out _)) w ?_; (focus (simp only [List.map_toArray, List.map_cons, List.map_nil]; rfl)); intro K hK; go_big_quiet_op; go_big_quiet_on)
    | (refine flat_call Cf4.out _ ?_ rfl rfl rfl _ (fun y => below_call OldS.below y (B2.out _)) w ?_; (focus (simp only [List.map_toArray, List.map_cons, List.map_nil]; rfl)); intro K hK; go_big_quiet_op; go_big_quiet_on)
    | (refine flat_call Cf.out _ ?_ rfl rfl rfl _ (fun y => below_call OldS.below y (B3.out _)) w ?_; (focus (simp only [List.map_toArray, List.map_cons, List.map_nil]; rfl)); intro K hK; go_big_quiet_op; go_big_quiet_on)
    | (refine flat_build (E := 5) _ ?_ _ R1.out OldS.below rfl rfl rfl w ?_; (focus (simp only [List.map_toArray, List.map_cons, List.map_nil]; rfl)); intro K hK; go_big_quiet_op; go_big_quiet_on)
    | (refine flat_conv ?_ List.mem_cons_self _ Q1.out (fun w => Below.refl _ _) rfl rfl rfl w ?_; (focus (simp)); intro K hK; go_big_quiet_op; go_big_quiet_on))
  refine flat_nil ?_
  intro W7 hW7 x1 _
  simp only [endF, Act.put, List.setIfInBounds_toArray, List.set_cons_succ, List.set_cons_zero]
  go_wp2
  go_ret
  refine ⟨?_, hW7⟩
  have e2 : (⟨(be4 s).toArray⟩ : ByteArray) ++ ⟨(be4 d).toArray⟩ ++ ⟨#[0, 6]⟩ ++ ⟨(be2 n).toArray⟩ = ⟨(aheadL s d n).toArray⟩ := by
    rw [show (⟨#[0, 6]⟩ : ByteArray) = ⟨[0, 6].toArray⟩ from rfl, str_cat, str_cat, str_cat]
    rfl
  rw [← e2]
  rfl
end Go.Proofs.Ytengegcnocdkoaa.T
end
section
namespace Go.Proofs.Ytengegcnocdkoaa.T
open Go.RowKit Go.BigFrame
set_option maxRecDepth 100000 in
set_option maxHeartbeats 4000000 in
theorem enc_ok (s d : Nat) (h : TCPh) (data : ByteArray) (w : World) (hs : s < 4294967296) (hd : d < 4294967296) (ho : h.ok) (hm : h.opts.size % 4 = 0) (hm2 : h.opts.size ≤ 40) (hf : h.flags.toNat < 64) (hl : 20 + h.opts.size + data.size ≤ 65515) :
    Calls Try.prog 28 #[.int .u32 (s : Int), .int .u32 (d : Int), .agg h.cells, .string data] w fun e w' => e = .returned (.tuple #[.string ⟨(encL s d h data.data.toList).toArray⟩, .int .i64 0]) ∧ Below w.heap.size w w' := by
  obtain ⟨src, dst, seq, ack, flags, window, urgent, opts⟩ := h
  obtain ⟨o1, o2, o3, o4, o5, o6⟩ := ho
  simp only at o1 o2 o3 o4 o5 o6 hm hm2 hf hl
  unfold TCPh.cells
  simp only
  obtain ⟨n, hn⟩ : ∃ n, n = 20 + opts.size := ⟨_, rfl⟩
  have e1 : (20 : Int) + (opts.size : Int) = (n : Int) := by omega
  obtain ⟨m, hmm⟩ : ∃ m, m = n + data.size := ⟨_, rfl⟩
  have e2 : (n : Int) + (data.size : Int) = (m : Int) := by omega
  have hm3 : m ≤ 65515 := by omega
  have i1 : (n : Int) % 4 = 0 := by omega
  have i2 : (opts.size : Int) ≤ 40 := by omega
  have i3 : (flags.toNat : Int) / 64 = 0 := by omega
  have i4 : (m : Int) ≤ 65515 := by omega
  have b1 := fun W => high16 src W o1
  have b2 := fun W => high16 dst W o2
  have b3 := fun W => high32 seq W o3
  have b4 := fun W => high32 ack W o4
  have b5 := fun W => high16 window W o5
  have b6 := fun W => high16 urgent W o6
  have b7 := fun W => ahead_ok s d m W hs hd (by omega)
  have B1 := Lib.hid b1
  clear b1
  have B2 := Lib.hid b2
  clear b2
  have B3 := Lib.hid b3
  clear b3
  have B4 := Lib.hid b4
  clear b4
  have B5 := Lib.hid b5
  clear b5
  have B6 := Lib.hid b6
  clear b6
  have B7 := Lib.hid b7
  clear b7
  have Hn := Lib.hid hn
  clear hn
  have Hmm := Lib.hid hmm
  clear hmm
  have hx := Blk.new w 60 #[.int .u16 (src : Int), .int .u16 (dst : Int), .int .u32 (seq : Int), .int .u32 (ack : Int), .int .u8 (flags.toNat : Int), .int .u16 (window : Int), .int .u16 (urgent : Int), .string opts]
  have hb0 : Below w.heap.size w (w.alloc (.cells #[.int .u16 (src : Int), .int .u16 (dst : Int), .int .u32 (seq : Int), .int .u32 (ack : Int), .int .u8 (flags.toNat : Int), .int .u16 (window : Int), .int .u16 (urgent : Int), .string opts] 60)) := (Below.refl _ _).alloc (Nat.le_refl _) _
  have Hx := Lib.hid hx
  clear hx
  have Hb0 := Lib.hid hb0
  clear hb0
  go_enter Try.func28, Try.ntmps28
  go_upto_region 6 with fail
  generalize w.alloc _ = W at *
  obtain ⟨x, hxe⟩ : ∃ x, x = w.heap.size := ⟨_, rfl⟩
  rw [← hxe] at Hx ⊢
  clear hxe
  obtain ⟨cs, hcs⟩ : ∃ cs : Array Value, cs = #[.int .u16 (src : Int), .int .u16 (dst : Int), .int .u32 (seq : Int), .int .u32 (ack : Int), .int .u8 (flags.toNat : Int), .int .u16 (window : Int), .int .u16 (urgent : Int), .string opts] := ⟨_, rfl⟩
  rw [← hcs] at Hx
  have hS0 : KeepS w x 60 cs W := ⟨Hb0.out, Hx.out⟩
  have ne : Nonempty (Cls (KeepS w x 60 cs)) := ⟨⟨W, hS0⟩⟩
  have k0 : ∀ y : Cls (KeepS w x 60 cs), y.w.cell? ⟨x, 0, none⟩ = some (.int .u16 (src : Int)) := fun y => (y.h.2.cell 0).trans (by rw [hcs]; rfl)
  have k1 : ∀ y : Cls (KeepS w x 60 cs), y.w.cell? ⟨x, 1, none⟩ = some (.int .u16 (dst : Int)) := fun y => (y.h.2.cell 1).trans (by rw [hcs]; rfl)
  have k2 : ∀ y : Cls (KeepS w x 60 cs), y.w.cell? ⟨x, 2, none⟩ = some (.int .u32 (seq : Int)) := fun y => (y.h.2.cell 2).trans (by rw [hcs]; rfl)
  have k3 : ∀ y : Cls (KeepS w x 60 cs), y.w.cell? ⟨x, 3, none⟩ = some (.int .u32 (ack : Int)) := fun y => (y.h.2.cell 3).trans (by rw [hcs]; rfl)
  have k4 : ∀ y : Cls (KeepS w x 60 cs), y.w.cell? ⟨x, 4, none⟩ = some (.int .u8 (flags.toNat : Int)) := fun y => (y.h.2.cell 4).trans (by rw [hcs]; rfl)
  have k5 : ∀ y : Cls (KeepS w x 60 cs), y.w.cell? ⟨x, 5, none⟩ = some (.int .u16 (window : Int)) := fun y => (y.h.2.cell 5).trans (by rw [hcs]; rfl)
  have k6 : ∀ y : Cls (KeepS w x 60 cs), y.w.cell? ⟨x, 6, none⟩ = some (.int .u16 (urgent : Int)) := fun y => (y.h.2.cell 6).trans (by rw [hcs]; rfl)
  have k7 : ∀ y : Cls (KeepS w x 60 cs), y.w.cell? ⟨x, 7, none⟩ = some (.string opts) := fun y => (y.h.2.cell 7).trans (by rw [hcs]; rfl)
  clear hcs
  have cf : ∀ (vals : Array Value) (w : World), (callFunc 59 vals).run Try.prog w = .ok (.enter 59 vals) w := fun _ _ => by kernel_rfl
  have cf4 : ∀ (vals : Array Value) (w : World), (callFunc 60 vals).run Try.prog w = .ok (.enter 60 vals) w := fun _ _ => by kernel_rfl
  have ob : ((offB n).toNat : Int) = (n : Int) / 4 * 16 := by unfold offB; rw [u8b]; have := Hn.out; omega
  have wr1 : IntKind.i64.wrap ((n : Int) / 4) = (n : Int) / 4 := by rw [IntKind.wrap_i64]; omega
  have wr2 : IntKind.i64.wrap ((n : Int) / 4 * 16) = (n : Int) / 4 * 16 := by rw [IntKind.wrap_i64]; omega
  have wr3 : IntKind.u8.wrap ((n : Int) / 4 * 16) = ((offB n).toNat : Int) := by rw [IntKind.wrap_u8, ob]; omega
  have r1 : ∀ W : World, (Instr.buildSlice 51 2 #[(0, .int .u8 ((offB n).toNat : Int)), (1, .int .u8 (flags.toNat : Int))]).run Try.prog W = .ok (.slice (some ⟨W.heap.size, 0, none⟩) 2 2) (W.alloc (.cells #[.int .u8 ((offB n).toNat : Int), .int .u8 (flags.toNat : Int)] 5)) := fun _ => by kernel_rfl
  have q1 : ∀ W u, isNew 5 #[.int .u8 ((offB n).toNat : Int), .int .u8 (flags.toNat : Int)] 2 u W → (convert 51 9 u).run Try.prog W = .ok (.string ⟨#[offB n, flags]⟩) W := by
    rintro W u ⟨g, rfl, h⟩
    exact str_two (offB n) flags W g 2 h
  have Cf := Lib.hid cf
  clear cf
  have Cf4 := Lib.hid cf4
  clear cf4
  have R1 := Lib.hid r1
  clear r1
  have Q1 := Lib.hid q1
  clear q1
  have Ob := Lib.hid ob
  clear ob
  have z2 : ∀ n, (be2 n).length = 2 := fun _ => rfl
  have z4 : ∀ n, (be4 n).length = 4 := fun _ => rfl
  refine wp_region_flat (KeepS w x 60 cs) (fun w w' => Below w.heap.size w w') (by kernel_rfl) (by kernel_rfl) (fun w => Below.refl _ _) hS0.drew ?_
  clear hS0
  repeat (first
    | (refine flat_quiet (fun w => Below.refl _ _) rfl rfl rfl rfl ?_; intro K hK; go_big_quiet_op; go_big_quiet_on)
    | (refine flat_call Cf.out _ ?_ rfl rfl rfl _ (fun y => below_call KeepS.below y (B1.out _)) W ?_; (focus (simp only [List.map_toArray, List.map_cons, List.map_nil]; rfl)); intro K hK; go_big_quiet_op; go_big_quiet_on)
    | (refine flat_call Cf.out _ ?_ rfl rfl rfl _ (fun y => below_call KeepS.below y (B2.out _)) W ?_; (focus (simp only [List.map_toArray, List.map_cons, List.map_nil]; rfl)); intro K hK; go_big_quiet_op; go_big_quiet_on)
    | (refine flat_call Cf4.out _ ?_ rfl rfl rfl _ (fun y => below_call KeepS.below y (B3.out _)) W ?_; (focus (simp only [List.map_toArray, List.map_cons, List.map_nil]; rfl)); intro K hK; go_big_quiet_op; go_big_quiet_on)
    | (refine flat_call Cf4.out _ ?_ rfl rfl rfl _ (fun y => below_call KeepS.below y (B4.out _)) W ?_; (focus (simp only [List.map_toArray, List.map_cons, List.map_nil]; rfl)); intro K hK; go_big_quiet_op; go_big_quiet_on)
    | (refine flat_call Cf.out _ ?_ rfl rfl rfl _ (fun y => below_call KeepS.below y (B5.out _)) W ?_; (focus (simp only [List.map_toArray, List.map_cons, List.map_nil]; rfl)); intro K hK; go_big_quiet_op; go_big_quiet_on)
    | (refine flat_build (E := 5) _ ?_ _ R1.out KeepS.below rfl rfl rfl W ?_; (focus (simp only [List.map_toArray, List.map_cons, List.map_nil]; rfl)); intro K hK; go_big_quiet_op; go_big_quiet_on)
    | (refine flat_conv ?_ List.mem_cons_self _ Q1.out (fun w => Below.refl _ _) rfl rfl rfl W ?_; (focus (simp)); intro K hK; go_big_quiet_op; go_big_quiet_on))
  refine flat_nil ?_
  intro W7 hW7 x19 _
  simp only [endF, Act.put, List.setIfInBounds_toArray, List.set_cons_succ, List.set_cons_zero]
  have hfront : (⟨(be2 src).toArray⟩ : ByteArray) ++ ⟨(be2 dst).toArray⟩ ++ ⟨(be4 seq).toArray⟩ ++ ⟨(be4 ack).toArray⟩ ++ ⟨#[offB n, flags]⟩ ++ ⟨(be2 window).toArray⟩ = ⟨(frontL ⟨src, dst, seq, ack, flags, window, urgent, opts⟩).toArray⟩ := by
    rw [show (⟨#[offB n, flags]⟩ : ByteArray) = ⟨[offB n, flags].toArray⟩ from rfl, str_cat, str_cat, str_cat, str_cat, str_cat, Hn.out]
    rfl
  rw [hfront]
  clear hfront
  obtain ⟨fr, hfr⟩ : ∃ fr : List UInt8, fr = frontL ⟨src, dst, seq, ack, flags, window, urgent, opts⟩ := ⟨_, rfl⟩
  rw [← hfr]
  have zf : fr.length = 16 := by rw [hfr]; rfl
  have Hfr := Lib.hid hfr
  clear hfr
  clear k0 k1 k2 k3 k4 k5
  go_upto_region 7 with fail
  refine wp_region_flat (KeepS w x 60 cs) (fun w w' => Below w.heap.size w w') (by kernel_rfl) (by kernel_rfl) (fun w => Below.refl _ _) hW7.drew ?_
  repeat (first
    | (refine flat_quiet (fun w => Below.refl _ _) rfl rfl rfl rfl ?_; intro K hK; go_big_quiet_op; go_big_quiet_on)
    | (refine flat_call Cf.out _ ?_ rfl rfl rfl _ (fun y => below_call KeepS.below y (B6.out _)) W ?_; (focus (simp only [List.map_toArray, List.map_cons, List.map_nil]; rfl)); intro K hK; go_big_quiet_op; go_big_quiet_on))
  refine flat_nil ?_
  intro W8 hW8
  simp only [endF]
  have hback : (⟨(be2 urgent).toArray⟩ : ByteArray) ++ opts ++ data = ⟨(backL ⟨src, dst, seq, ack, flags, window, urgent, opts⟩ data.data.toList).toArray⟩ := by
    conv => lhs; rw [str_of opts, str_of data]
    rw [str_cat, str_cat]; rfl
  rw [hback]
  clear hback
  obtain ⟨bk, hbk⟩ : ∃ bk : List UInt8, bk = backL ⟨src, dst, seq, ack, flags, window, urgent, opts⟩ data.data.toList := ⟨_, rfl⟩
  rw [← hbk]
  have zb : bk.length = 2 + opts.size + data.size := by rw [hbk, backL_length]; rfl
  clear k6 k7 ne
  obtain ⟨ah, hah⟩ : ∃ ah : List UInt8, ah = aheadL s d m := ⟨_, rfl⟩
  have za : ah.length = 12 := by rw [hah]; rfl
  rw [← hah] at B7
  obtain ⟨sm, hsm⟩ : ∃ sm, sm = sumL s d ⟨src, dst, seq, ack, flags, window, urgent, opts⟩ data.data.toList := ⟨_, rfl⟩
  have hsl : sm < 65536 := by rw [hsm]; exact sumL_lt _ _ _ _
  have hm' : 20 + opts.size + data.data.toList.length = m := by rw [Hmm.out, Hn.out]; rfl
  have hsv : ((ofL (catS [⟨ah.toArray⟩, ⟨fr.toArray⟩, ⟨bk.toArray⟩]) : Nat) : Int) = (sm : Int) := by
    have : catS [⟨ah.toArray⟩, ⟨fr.toArray⟩, ⟨bk.toArray⟩] = ah ++ fr ++ bk := by simp [catS]
    rw [this, hsm, Hfr.out, hbk, hah, ← hm']
    rfl
  have ol := fun W g (h : Blk W g 9 #[.string ⟨ah.toArray⟩, .string ⟨fr.toArray⟩, .string ⟨bk.toArray⟩]) => of_lit [⟨ah.toArray⟩, ⟨fr.toArray⟩, ⟨bk.toArray⟩] (sm : Int) hsv (by
    intro s hs
    simp only [List.mem_cons, List.not_mem_nil, or_false] at hs
    rcases hs with rfl | rfl | rfl
    · show ah.length ≤ maxLen; rw [za]; decide
    · show fr.length ≤ maxLen; rw [zf]; decide
    · show bk.length ≤ maxLen; rw [zb]; have : (2 : Nat) + opts.size + data.size ≤ 65535 := by omega
      exact Nat.le_trans this (by decide)) g 3 3 W rfl (by omega) h
  have Hah := Lib.hid hah
  clear hah
  have Hbk := Lib.hid hbk
  clear hbk
  have Hsm := Lib.hid hsm
  clear hsm
  have Ol := Lib.hid ol
  clear ol
  have Hm' := Lib.hid hm'
  clear hm'
  clear hsv
  go_wp2_with fail
  with_reducible refine (B7.out _).mono ?_
  rintro e w8 ⟨rfl, hb8⟩
  go_wp2_with fail
  with_reducible refine (Ol.out _ _ (Blk.new _ _ _)).mono ?_
  rintro e w9 ⟨rfl, hb9⟩
  go_wp2_with fail
  (with_reducible refine (high16 sm _ hsl).mono ?_)
  rintro e w10 ⟨rfl, hb10⟩
  go_wp2
  go_ret2
  refine ⟨?_, ?_⟩
  · have e2 : (⟨fr.toArray⟩ : ByteArray) ++ ⟨(be2 sm).toArray⟩ ++ ⟨bk.toArray⟩ = ⟨(encL s d ⟨src, dst, seq, ack, flags, window, urgent, opts⟩ data.data.toList).toArray⟩ := by
      rw [str_cat, str_cat]
      unfold encL rawL
      rw [← Hfr.out, ← Hbk.out, ← Hsm.out]
    rw [← e2]
    rfl
  · have h0 : Below w.heap.size w W8 := hW8.1
    have h1 : Below W8.heap.size W8 w10 := hb8.trans ((((Below.refl _ _).alloc (Nat.le_refl _) _).trans ((hb9.mono (by simp)).trans (hb10.mono (by have := hb9.size; simp at this; omega)))).mono hb8.size)
    exact h0.trans (h1.mono h0.size)
end Go.Proofs.Ytengegcnocdkoaa.T
end
section
namespace Go.Proofs.Ytengegcnocdkoaa.T
open Go.RowKit
set_option maxHeartbeats 1000000 in
theorem enc_long (s d : Nat) (h : TCPh) (data : ByteArray) (w : World) (hm : h.opts.size % 4 = 0) (hm2 : h.opts.size ≤ 40) (hf : h.flags.toNat < 64) (hl : 65515 < 20 + h.opts.size + data.size) (hd : data.size ≤ 131072) :
    Calls Try.prog 28 #[.int .u32 (s : Int), .int .u32 (d : Int), .agg h.cells, .string data] w fun e w' => e = .returned (.tuple #[.string ⟨#[]⟩, .int .i64 4]) ∧ Below w.heap.size w w' := by
  obtain ⟨src, dst, seq, ack, flags, window, urgent, opts⟩ := h
  simp only at hm hm2 hf hl
  unfold TCPh.cells
  simp only
  obtain ⟨n, hn⟩ : ∃ n, n = 20 + opts.size := ⟨_, rfl⟩
  have e1 : (20 : Int) + (opts.size : Int) = (n : Int) := by omega
  obtain ⟨m, hmm⟩ : ∃ m, m = n + data.size := ⟨_, rfl⟩
  have e2 : (n : Int) + (data.size : Int) = (m : Int) := by omega
  have hm3 : m ≤ 200000 := by omega
  have i1 : (n : Int) % 4 = 0 := by omega
  have i2 : (opts.size : Int) ≤ 40 := by omega
  have i3 : (flags.toNat : Int) / 64 = 0 := by omega
  have i4 : (65515 : Int) < (m : Int) := by omega
  have Hn := Lib.hid hn
  clear hn
  have Hmm := Lib.hid hmm
  clear hmm
  go_enter Try.func28, Try.ntmps28
  go_wp2
  go_ret2
  exact ⟨rfl, (Below.refl _ _).alloc (Nat.le_refl _) _⟩
set_option maxHeartbeats 1000000 in
theorem enc_arg (s d : Nat) (h : TCPh) (data : ByteArray) (w : World) (hm : ¬ (h.opts.size % 4 = 0 ∧ h.opts.size ≤ 40 ∧ h.flags.toNat < 64)) (hd : h.opts.size ≤ 131072) :
    Calls Try.prog 28 #[.int .u32 (s : Int), .int .u32 (d : Int), .agg h.cells, .string data] w fun e w' => e = .returned (.tuple #[.string ⟨#[]⟩, .int .i64 2]) ∧ Below w.heap.size w w' := by
  obtain ⟨src, dst, seq, ack, flags, window, urgent, opts⟩ := h
  simp only at hm hd
  unfold TCPh.cells
  simp only
  obtain ⟨n, hn⟩ : ∃ n, n = 20 + opts.size := ⟨_, rfl⟩
  have e1 : (20 : Int) + (opts.size : Int) = (n : Int) := by omega
  have hn3 : n ≤ 131092 := by omega
  by_cases i1 : opts.size % 4 = 0
  · have i1 : (n : Int) % 4 = 0 := by omega
    by_cases i2 : opts.size ≤ 40
    · have i3 : ((flags.toNat : Int) / 64 != 0) = true := by rw [bne_iff_ne]; omega
      have i2 : (opts.size : Int) ≤ 40 := by omega
      have Hm := Lib.hid hm
      clear hm
      have Hn := Lib.hid hn
      clear hn
      go_enter Try.func28, Try.ntmps28
      go_wp2
      go_ret2
      exact ⟨rfl, (Below.refl _ _).alloc (Nat.le_refl _) _⟩
    · have i2 : (40 : Int) < (opts.size : Int) := by omega
      have Hm := Lib.hid hm
      clear hm
      have Hn := Lib.hid hn
      clear hn
      go_enter Try.func28, Try.ntmps28
      go_wp2
      go_ret2
      exact ⟨rfl, (Below.refl _ _).alloc (Nat.le_refl _) _⟩
  · have i1 : ((n : Int) % 4 != 0) = true := by rw [bne_iff_ne]; omega
    have Hm := Lib.hid hm
    clear hm
    have Hn := Lib.hid hn
    clear hn
    go_enter Try.func28, Try.ntmps28
    go_wp2
    go_ret2
    exact ⟨rfl, (Below.refl _ _).alloc (Nat.le_refl _) _⟩
end Go.Proofs.Ytengegcnocdkoaa.T
end
section
namespace Go.Proofs.Ytengegcnocdkoaa.T
open Go.RowKit
def at0 (l : List UInt8) (i : Nat) : Nat := (l.getD i 0).toNat
/-- what is wrong with bytes (0: nothing) -/
def decE (s d : Nat) (l : List UInt8) : Nat :=
  if l.length < 20 then 50 else if 65515 < l.length then 4 else if ofL (aheadL s d l.length ++ l) ≠ 0 then 55
  else if at0 l 12 / 16 * 4 < 20 ∨ l.length < at0 l 12 / 16 * 4 then 60 else if at0 l 12 % 16 ≠ 0 ∨ 64 ≤ at0 l 13 then 61 else 0
def endN (l : List UInt8) : Nat := at0 l 12 / 16 * 4
def sub (l : List UInt8) (i j : Nat) : List UInt8 := (l.drop i).take (j - i)
def decH (l : List UInt8) : TCPh := ⟨numL (sub l 0 2) % 65536, numL (sub l 2 4) % 65536, numL (sub l 4 8), numL (sub l 8 12), l.getD 13 0, numL (sub l 14 16) % 65536, numL (sub l 18 20) % 65536, ⟨(sub l 20 (endN l)).toArray⟩⟩
def zeroC : Array Value := #[.int .u16 0, .int .u16 0, .int .u32 0, .int .u32 0, .int .u8 0, .int .u16 0, .int .u16 0, .string ⟨#[]⟩]
def badV (e : Nat) : Value := .tuple #[.agg zeroC, .string ⟨#[]⟩, .int .i64 (e : Int)]
def decV (s d : Nat) (l : List UInt8) : Value := if decE s d l = 0 then .tuple #[.agg (decH l).cells, .string ⟨(l.drop (endN l)).toArray⟩, .int .i64 0] else badV (decE s d l)
theorem decV_bad {s d : Nat} {l : List UInt8} {e : Nat} (h : decE s d l = e) (h0 : e ≠ 0) : decV s d l = badV e := by
  unfold decV
  rw [h, if_neg h0]
theorem decV_ok {s d : Nat} {l : List UInt8} (h : decE s d l = 0) : decV s d l = .tuple #[.agg (decH l).cells, .string ⟨(l.drop (endN l)).toArray⟩, .int .i64 0] := by
  unfold decV
  rw [if_pos h]
theorem at0_get (s : ByteArray) (i : Nat) (h : i < s.size) : at0 s.data.toList i = (s[i]'h).toNat := by
  unfold at0
  have hl : i < s.data.toList.length := h
  simp only [List.getD, List.getElem?_eq_getElem hl, Option.getD_some]
  rfl
theorem getD_get (s : ByteArray) (i : Nat) (h : i < s.size) : s.data.toList.getD i 0 = s[i]'h := by
  have hl : i < s.data.toList.length := h
  simp only [List.getD, List.getElem?_eq_getElem hl, Option.getD_some]
  rfl
theorem str_sub (s : ByteArray) (i j : Nat) : (s.extract i j).data.toList = sub s.data.toList i j := by
  unfold sub
  rw [ByteArray.data_extract, Array.toList_extract, List.extract_eq_take_drop]
theorem str_sub' (s : ByteArray) (i j : Nat) : (⟨(sub s.data.toList i j).toArray⟩ : ByteArray) = s.extract i j := by
  rw [← str_sub]
theorem str_drop (s : ByteArray) (i : Nat) : (⟨(s.data.toList.drop i).toArray⟩ : ByteArray) = s.extract i s.size := by
  apply ByteArray.ext
  apply Array.toList_inj.1
  rw [ByteArray.data_extract, Array.toList_extract, List.extract_eq_take_drop]
  exact (List.take_of_length_le (by simp)).symm
theorem num_ext (s : ByteArray) (i j : Nat) : numL (s.extract i j).data.toList = numL (sub s.data.toList i j) := by rw [str_sub]
theorem decV_done (s d : Nat) (t : ByteArray) (h20 : 20 ≤ t.size) (h : decE s d t.data.toList = 0) {u1 u2 u3 u4 u5 u6 n : Nat} (h1 : u1 = numL (t.extract 0 2).data.toList % 65536) (h2 : u2 = numL (t.extract 2 4).data.toList % 65536) (h3 : u3 = numL (t.extract 4 8).data.toList)
    (h4 : u4 = numL (t.extract 8 12).data.toList) (h5 : u5 = numL (t.extract 14 16).data.toList % 65536) (h6 : u6 = numL (t.extract 18 20).data.toList % 65536) (hn : n = (t[12]'(by omega)).toNat / 16 * 4) :
    decV s d t.data.toList = .tuple #[.agg #[.int .u16 (u1 : Int), .int .u16 (u2 : Int), .int .u32 (u3 : Int), .int .u32 (u4 : Int), .int .u8 ((t[13]'(by omega)).toNat : Int), .int .u16 (u5 : Int), .int .u16 (u6 : Int), .string (t.extract 20 n)], .string (t.extract n t.size), .int .i64 0] := by
  rw [decV_ok h]
  have e : endN t.data.toList = n := by
    unfold endN
    rw [at0_get t 12 (by omega), hn]
  unfold decH TCPh.cells
  simp only [getD_get t 13 (by omega)]
  rw [e, str_drop, str_sub', h1, h2, h3, h4, h5, h6, num_ext, num_ext, num_ext, num_ext, num_ext, num_ext]
theorem below_set8 {B x : Nat} {w W : World} (h : Below B w W) (hx : B ≤ x) (v0 v1 v2 v3 v4 v5 v6 v7 : Value) :
    Below B w ((((((((W.setCell ⟨x, 0, none⟩ v0).setCell ⟨x, 1, none⟩ v1).setCell ⟨x, 2, none⟩ v2).setCell ⟨x, 3, none⟩ v3).setCell ⟨x, 4, none⟩ v4).setCell ⟨x, 5, none⟩ v5).setCell ⟨x, 6, none⟩ v6).setCell ⟨x, 7, none⟩ v7) :=
  ((((((((h.setCell hx v0).setCell hx v1).setCell hx v2).setCell hx v3).setCell hx v4).setCell hx v5).setCell hx v6).setCell hx v7)
theorem blk_set8 {W : World} {x : Nat} {T : TypeId} {a0 a1 a2 a3 a4 a5 a6 a7 : Value} (h : Blk W x T #[a0, a1, a2, a3, a4, a5, a6, a7]) (v0 v1 v2 v3 v4 v5 v6 v7 : Value) :
    Blk ((((((((W.setCell ⟨x, 0, none⟩ v0).setCell ⟨x, 1, none⟩ v1).setCell ⟨x, 2, none⟩ v2).setCell ⟨x, 3, none⟩ v3).setCell ⟨x, 4, none⟩ v4).setCell ⟨x, 5, none⟩ v5).setCell ⟨x, 6, none⟩ v6).setCell ⟨x, 7, none⟩ v7) x T #[v0, v1, v2, v3, v4, v5, v6, v7] := by
  have := ((((((((h.set_ 0 v0).set_ 1 v1).set_ 2 v2).set_ 3 v3).set_ 4 v4).set_ 5 v5).set_ 6 v6).set_ 7 v7)
  simpa using this
end Go.Proofs.Ytengegcnocdkoaa.T
end
section
namespace Go.Proofs.Ytengegcnocdkoaa.T
open Go.RowKit Go.BigFrame
set_option maxHeartbeats 1000000 in
theorem dec_short (s d : Nat) (t : ByteArray) (w : World) (h20 : t.size < 20) :
    Calls Try.prog 41 #[.int .u32 (s : Int), .int .u32 (d : Int), .string t] w fun e w' => e = .returned (decV s d t.data.toList) ∧ Below w.heap.size w w' := by
  have hE : decE s d t.data.toList = 50 := by
    unfold decE
    rw [if_pos (show t.data.toList.length < 20 from h20)]
  have hV := decV_bad hE (by decide)
  have HV := Lib.hid hV
  clear hV hE
  have i1 : (t.size : Int) < 20 := by omega
  go_enter Try.func41, Try.ntmps41
  go_wp2
  rw [HV.out]
  exact bodyPost_ret (v := badV 50) (by simp [results, Try.results41, go_sem, badV, zeroC]) rfl ⟨rfl, by first | exact ((Below.refl _ _).alloc (Nat.le_refl _) _) | exact Below.alloc (Below.refl _ _) (by simp) _⟩
set_option maxHeartbeats 1000000 in
theorem dec_long (s d : Nat) (t : ByteArray) (w : World) (h : 65515 < t.size) (hs : t.size ≤ 131072) :
    Calls Try.prog 41 #[.int .u32 (s : Int), .int .u32 (d : Int), .string t] w fun e w' => e = .returned (decV s d t.data.toList) ∧ Below w.heap.size w w' := by
  have hE : decE s d t.data.toList = 4 := by
    have hl : t.data.toList.length = t.size := rfl
    unfold decE
    rw [if_neg (by omega), if_pos (by omega)]
  have hV := decV_bad hE (by decide)
  have HV := Lib.hid hV
  clear hV hE
  have i1 : (65515 : Int) < (t.size : Int) := by omega
  have i2 : (t.size : Int) ≤ 131072 := by omega
  go_enter Try.func41, Try.ntmps41
  go_wp2
  rw [HV.out]
  exact bodyPost_ret (v := badV 4) (by simp [results, Try.results41, go_sem, badV, zeroC]) rfl ⟨rfl, by first | exact ((Below.refl _ _).alloc (Nat.le_refl _) _) | exact Below.alloc (Below.refl _ _) (by simp) _⟩
end Go.Proofs.Ytengegcnocdkoaa.T
end
