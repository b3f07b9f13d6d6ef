/- Contracts of layer 3 (sum), second part: the document's answers; Join, Turn, Of, Right. -/
import Derived.Test.YtpmcdpbolcmhgaaSum
set_option linter.unusedVariables false
set_option linter.unusedSimpArgs false
namespace Go.Proofs.Ytpmcdpbolcmhgaa
open Go.RowKit Go.Shelf
attribute [local go_sem] Oper.semAt_some

theorem wordsL_step : ∀ (l : List UInt8), l ≠ [] → wordsL l = (wordsL l).headD 0 :: wordsL (l.drop 2)
  | [], h => absurd rfl h
  | [a], _ => by simp [wordsL]
  | a :: b :: t, _ => by simp [wordsL]
/-- the word of bytes at a place -/
def wordAt (l : List UInt8) (i : Nat) : Nat := (wordsL (l.drop i)).headD 0
theorem wordAt_lt (l : List UInt8) (i : Nat) : wordAt l i < 65536 := by
  unfold wordAt
  cases h : wordsL (l.drop i) with
  | nil => simp
  | cons x y => exact wordsL_lt (l.drop i) x (by rw [h]; simp)
theorem wordAt_two {l : List UInt8} {i : Nat} (h : i + 1 < l.length) : wordAt l i = l[i].toNat * 256 + l[i + 1].toNat := by
  unfold wordAt
  rw [List.drop_eq_getElem_cons (by omega), List.drop_eq_getElem_cons h]
  rfl
theorem wordAt_one {l : List UInt8} {i : Nat} (h : i < l.length) (h1 : ¬ i + 1 < l.length) : wordAt l i = l[i].toNat * 256 := by
  unfold wordAt
  rw [List.drop_eq_getElem_cons h, List.drop_of_length_le (by omega)]
  rfl
theorem wordAt_sum {l : List UInt8} {i : Nat} (h : i < l.length) : (wordsL (l.drop i)).sum = wordAt l i + (wordsL (l.drop (i + 2))).sum := by
  rw [wordsL_step (l.drop i) (by simp; omega), List.sum_cons, List.drop_drop]
  rfl

theorem ref_word (s : ByteArray) (i : Nat) (w : World) (hi : i < s.size) (hs : s.size ≤ maxLen) :
    Calls Try.prog 58 #[.string s, .int .i64 (i : Int)] w fun e w' => e = .returned (.int .u64 ((wordAt s.data.toList i : Nat) : Int)) ∧ w = w' := by
  unfold maxLen at hs
  have hl : s.data.toList.length = s.size := rfl
  have e0 : s.data.toList[i]'(by omega) = s[i] := rfl
  have b0 := s[i].toNat_lt
  by_cases h1 : i + 1 < s.size
  · have h := wordAt_two (l := s.data.toList) (i := i) (by omega)
    have e1 : s.data.toList[i + 1]'(by omega) = s[i + 1] := rfl
    have b1 := s[i + 1].toNat_lt
    rw [e0, e1] at h
    have H := Lib.hid h
    clear h e0 e1 hl
    go_enter Try.func58, Try.ntmps58
    go_wp2
    go_ret
    exact ⟨ret_int (by rw [H.out]; omega), rfl⟩
  · have h := wordAt_one (l := s.data.toList) (i := i) (by omega) (by omega)
    rw [e0] at h
    have H := Lib.hid h
    clear h e0 hl
    go_enter Try.func58, Try.ntmps58
    go_wp2
    go_ret
    exact ⟨ret_int (by rw [H.out]; omega), rfl⟩

theorem ref_ones (x : Nat) (w : World) (hx : x < 18446744073709551616) :
    Calls Try.prog 59 #[.int .u64 (x : Int)] w fun e w' => e = .returned (.int .u64 ((nrm x : Nat) : Int)) ∧ w = w' := by
  go_enter Try.func59, Try.ntmps59
  go_wp2
  go_loopw [0] (fun v wr => ∃ y : Nat, v = .int .u64 (y : Int) ∧ y < 18446744073709551616 ∧ Hid (nrm y = nrm x) ∧ w = wr) (fun v _ => (intOf v).toNat)
  case atStart => exact ⟨x, rfl, hx, Lib.hid rfl, rfl⟩
  case round =>
    obtain ⟨y, rfl, hy, HY, rfl⟩ := hrel
    by_cases h : 65535 < y
    · have hf := nrm_fold y h
      have HF := Lib.hid hf
      clear hf
      go_wp2
      go_roundw
      case rel => exact ⟨y % 65536 + y / 65536, congrArg (Value.int .u64) (by omega), by omega, Lib.hid (HF.out.trans HY.out), trivial⟩
      case measure => simp [intOf]; omega
    · have hf := nrm_small (x := y) (by omega)
      have HF := Lib.hid hf
      clear hf
      go_wp2
      go_ret
      exact ⟨by rw [← HY.out, HF.out]; rfl, rfl⟩

theorem ref_of (s : ByteArray) (w : World) (hs : s.size ≤ 1099511627776) :
    Calls Try.prog 49 #[.string s] w fun e w' => e = .returned (.int .u16 ((ofL s.data.toList : Nat) : Int)) ∧ w = w' := by
  have hall := wordsL_sum_le s.data.toList
  rw [show s.data.toList.length = s.size by simp] at hall
  have A := fun i w (hi : i < s.size) => ref_word s i w hi (by unfold maxLen; omega)
  have HA := Lib.hid A
  clear A
  go_enter Try.func49, Try.ntmps49
  go_wp2
  go_loopw [4, 3] (fun i x wr => ∃ j y : Nat, j ≤ s.size + 1 ∧ i = .int .i64 (j : Int) ∧ x = .int .u64 (y : Int) ∧ Hid (y + (wordsL (s.data.toList.drop j)).sum = (wordsL s.data.toList).sum) ∧ w = wr) (fun i _ _ => s.size + 1 - (intOf i).toNat)
  case atStart => exact ⟨0, 0, by omega, rfl, rfl, Lib.hid (by simp), rfl⟩
  case round =>
    obtain ⟨j, y, hj, rfl, rfl, HY, rfl⟩ := hrel
    have hy : y ≤ 65535 * ((s.size + 1) / 2) := by have := HY.out; omega
    by_cases h : j < s.size
    · have hst := wordAt_sum (l := s.data.toList) (i := j) (by simpa using h)
      have HST := Lib.hid hst
      have hlt := wordAt_lt s.data.toList j
      clear hst hall
      go_wp2_with fail
      (with_reducible refine (HA.out j _ h).mono ?_)
      rintro e w' ⟨rfl, rfl⟩
      generalize wordAt s.data.toList j = q at *
      go_wp2
      go_roundw
      case rel => exact ⟨j + 2, y + q, by omega, by go_num, congrArg (Value.int .u64) (by omega), Lib.hid (by have := HY.out; have := HST.out; omega), trivial⟩
      case measure => simp [intOf]; omega
    · have he : (wordsL (s.data.toList.drop j)).sum = 0 := by
        rw [List.drop_of_length_le (by simp; omega)]; rfl
      have hyt : y = (wordsL s.data.toList).sum := by have := HY.out; omega
      have hv : ofL s.data.toList = 65535 - nrm y := by unfold ofL; rw [hyt]
      have HV := Lib.hid hv
      have hn := nrm_le y
      clear he hyt hv hall
      go_wp2_with fail
      (with_reducible refine (ref_ones y _ (by omega)).mono ?_)
      rintro e w' ⟨rfl, rfl⟩
      generalize nrm y = q at *
      go_wp2
      go_ret
      exact ⟨ret_int (by rw [HV.out]; omega), rfl⟩

theorem joinL_ones {a b : Nat} (ha : a < 65536) (hb : b < 65536) : joinL a b = 65535 - [65535 - a, 65535 - b].foldl ones2 0 := by
  rw [fold_ones0 _ (by simp; omega)]
  simp only [joinL, List.sum_cons, List.sum_nil]
  rw [show 65535 - a + (65535 - b + 0) = 131070 - a - b by omega]
theorem turnL_ones {a b c : Nat} (ha : a < 65536) (hb : b < 65536) (hc : c < 65536) : turnL a b c = 65535 - [65535 - a, 65535 - b, c].foldl ones2 0 := by
  rw [fold_ones0 _ (by simp; omega)]
  simp only [turnL, List.sum_cons, List.sum_nil]
  rw [show 65535 - a + (65535 - b + (c + 0)) = 131070 - a - b + c by omega]
theorem foldOnes_le {l : List Nat} (h : ∀ x ∈ l, x < 65536) : l.foldl ones2 0 ≤ 65535 := by rw [fold_ones0 _ h]; exact nrm_le _

theorem compl16 {a : Nat} (ha : a < 65536) : bits .xor .u16 IntKind.u16.max (a : Int) = ((65535 - a : Nat) : Int) := by
  have e : (65535 : Nat) ^^^ a = 65535 - a := by
    have h := congrArg BitVec.toNat (BitVec.allOnes_xor (x := BitVec.ofNat 16 a))
    rw [BitVec.toNat_xor, BitVec.toNat_not, BitVec.toNat_allOnes, BitVec.toNat_ofNat, Nat.mod_eq_of_lt (by omega)] at h
    exact h
  have := u16_xor_nat 65535 a (by decide) ha
  rw [e] at this
  exact this
end Go.Proofs.Ytpmcdpbolcmhgaa
