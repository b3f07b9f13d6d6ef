/- Contracts of layer 15 (buf): the document's Get. -/
import Derived.Test.YtbfmgdcnpefciaaBufRef
import Derived.Laws.Bits64
set_option linter.unusedVariables false
set_option linter.unusedSimpArgs false
namespace Go.Proofs.Ytbfmgdcnpefciaa
open Go.RowKit

theorem ext_part (s : ByteArray) (i j : Nat) : (⟨((s.data.toList.drop i).take (j - i)).toArray⟩ : ByteArray) = s.extract i j := by
  apply ByteArray.ext
  apply Array.toList_inj.1
  rw [ByteArray.data_extract, Array.toList_extract, List.extract_eq_take_drop]

set_option maxHeartbeats 1000000 in
theorem ref_get_at (w : World) (g m f : Nat) (s : ByteArray) (q : Nat) (n : Int) (h : RefAt w g m f s) (hs : s.size ≤ 65536) (hf : f ≤ 9223372036854775807) (hq : q < 18446744073709551616) (n0 : -9223372036854775808 ≤ n) (n1 : n ≤ 9223372036854775807) :
    Calls Try.prog 17 #[.pointer (some ⟨g, 0, none⟩), .int .u64 (q : Int), .int .i64 n] w fun e w' => e = .returned (.string ⟨(getL f s.data.toList q n).toArray⟩) ∧ ∃ k, w' = w.drewN k := by
  have c1 := h.c1
  have c2 := h.c2
  have hll : s.data.toList.length = s.size := rfl
  have r1 : IntKind.u64.wrap (s.size : Int) = (s.size : Int) := by rw [IntKind.wrap_u64]; omega
  have r2 : IntKind.u64.wrap ((f : Int) + (s.size : Int)) = (f : Int) + (s.size : Int) := by rw [IntKind.wrap_u64]; omega
  by_cases g1 : q < f
  · have v : getL f s.data.toList q n = [] := by unfold getL; rw [if_pos (.inl g1)]
    have V := Lib.hid v
    clear v hll
    have e1 : decide (q < f) = true := decide_eq_true g1
    have e1' : decide ((q : Int) < (f : Int)) = true := by rw [decide_eq_true_eq]; omega
    go_enter Try.func17, Try.ntmps17
    go_wp2
    go_quiet (fail)
    go_wp2
    go_ret
    exact ⟨by rw [V.out]; rfl, _, rfl⟩
  have e1 : decide (q < f) = false := decide_eq_false g1
  have e1' : decide ((q : Int) < (f : Int)) = false := by rw [decide_eq_false_iff_not]; omega
  by_cases g2 : f + s.size ≤ q
  · have v : getL f s.data.toList q n = [] := by unfold getL; rw [if_pos (.inr (.inl (by rw [hll]; omega)))]
    have V := Lib.hid v
    clear v hll
    have e2 : decide ((f : Int) + (s.size : Int) ≤ (q : Int)) = true := by rw [decide_eq_true_eq]; omega
    go_enter Try.func17, Try.ntmps17
    go_wp2
    go_quiet (fail)
    go_wp2
    go_ret
    exact ⟨by rw [V.out]; rfl, _, rfl⟩
  have e2 : decide ((f : Int) + (s.size : Int) ≤ (q : Int)) = false := by rw [decide_eq_false_iff_not]; omega
  by_cases g3 : n ≤ 0
  · have v : getL f s.data.toList q n = [] := by unfold getL; rw [if_pos (.inr (.inr g3))]
    have V := Lib.hid v
    clear v hll
    have e3 : decide (n ≤ 0) = true := decide_eq_true g3
    go_enter Try.func17, Try.ntmps17
    go_wp2
    go_quiet (fail)
    go_wp2
    go_ret
    exact ⟨by rw [V.out]; rfl, _, rfl⟩
  have e3 : decide (n ≤ 0) = false := decide_eq_false g3
  obtain ⟨k, hk⟩ : ∃ k : Nat, f + k = q := ⟨q - f, by omega⟩
  obtain ⟨x, hx⟩ : ∃ x : Nat, min n (s.size : Int) = (x : Int) := ⟨(min n (s.size : Int)).toNat, (Int.toNat_of_nonneg (by omega)).symm⟩
  obtain ⟨y, hy⟩ : ∃ y : Nat, min (s.size : Int) ((k : Int) + (x : Int)) = (y : Int) := ⟨(min (s.size : Int) ((k : Int) + (x : Int))).toNat, (Int.toNat_of_nonneg (by omega)).symm⟩
  have v : (⟨(getL f s.data.toList q n).toArray⟩ : ByteArray) = s.extract k y := by
    unfold getL
    rw [if_neg (by omega), show q - f = k by omega, ← ext_part]
    congr 2
    rcases Int.le_total n (s.size : Int) with c | c
    · rcases Nat.le_total s.size (k + x) with c2 | c2
      · rw [List.take_of_length_le (by rw [List.length_drop]; omega), List.take_of_length_le (by rw [List.length_drop]; omega)]
      · rw [show n.toNat = y - k by omega]
    · rw [List.take_of_length_le (by rw [List.length_drop]; omega), List.take_of_length_le (by rw [List.length_drop]; omega)]
  have j1 : (q : Int) - (f : Int) = (k : Int) := by omega
  have j2 : (f : Int) ≤ (q : Int) := by omega
  have j3 : IntKind.i64.wrap ((k : Int) + (x : Int)) = (k : Int) + (x : Int) := by rw [IntKind.wrap_i64]; omega
  have j4 : (0 : Int) ≤ (k : Int) := by omega
  have j5 : (k : Int) ≤ (y : Int) := by omega
  have j6 : (y : Int) ≤ (s.size : Int) := by omega
  have j7 : (k : Int) ≤ 65536 := by omega
  have V := Lib.hid v
  clear v hll hk
  go_enter Try.func17, Try.ntmps17
  go_wp2
  go_quiet (fail)
  go_wp2
  go_quiet (fail)
  go_wp2
  go_ret
  exact ⟨by rw [V.out]; rfl, _, World.drewN_drewN ..⟩
end Go.Proofs.Ytbfmgdcnpefciaa
