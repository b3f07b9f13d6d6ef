/- Contracts of layer 1 (seq): the functions of package seq. -/
import Derived.Test.YthichhoiegkcjaaBase
import Derived.Test.YthichhoiegkcjaaSeqPlain
import Derived.Laws.BitsAllLaws
set_option linter.unusedVariables false
set_option linter.unusedSimpArgs false
namespace Go.Proofs.Ythichhoiegkcjaa
open Go.RowKit

theorem less_any (a b : Int) (w : World) (ha : 0 ≤ a) (ha' : a < 4294967296) (hb : 0 ≤ b) (hb' : b < 4294967296) :
    Calls Try.prog 13 #[.int .u32 a, .int .u32 b] w fun e w' => e = .returned (.bool (sLess a b)) ∧ w = w' := by
  by_cases h : a = b
  · have hv : sLess a b = false := sLess_false.2 (.inl h)
    have H := Lib.hid hv
    clear hv
    go_enter Try.func13, Try.ntmps13
    go_wp2
    go_ret
    exact ⟨ret_bool H.out.symm, rfl⟩
  · have hv : sLess a b = decide ((b - a) % 4294967296 < 2147483648) := by simp [sLess, h]
    have H := Lib.hid hv
    clear hv
    go_enter Try.func13, Try.ntmps13
    go_wp2
    go_ret
    exact ⟨ret_bool (by simp [sLess]), rfl⟩

theorem sub_any (a b : Int) (w : World) (ha : 0 ≤ a) (ha' : a < 4294967296) (hb : 0 ≤ b) (hb' : b < 4294967296) :
    Calls Try.prog 15 #[.int .u32 a, .int .u32 b] w fun e w' => e = .returned (.int .i64 (sSub a b)) ∧ w = w' := by
  go_enter Try.func15, Try.ntmps15
  go_wp2
  go_ret
  exact ⟨ret_int (by simp only [sSub, wrap32, wrap64]; split <;> omega), rfl⟩

theorem in_any (a b n : Int) (w : World) (ha : 0 ≤ a) (ha' : a < 4294967296) (hb : 0 ≤ b) (hb' : b < 4294967296) (hn : 0 ≤ n) (hn' : n < 4294967296) :
    Calls Try.prog 17 #[.int .u32 a, .int .u32 b, .int .u32 n] w fun e w' => e = .returned (.bool (sIn a b n)) ∧ w = w' := by
  go_enter Try.func17, Try.ntmps17
  go_wp2
  go_ret
  exact ⟨rfl, rfl⟩

theorem max_any (a b : Int) (w : World) (ha : 0 ≤ a) (ha' : a < 4294967296) (hb : 0 ≤ b) (hb' : b < 4294967296) :
    Calls Try.prog 19 #[.int .u32 a, .int .u32 b] w fun e w' => e = .returned (.int .u32 (sMax a b)) ∧ w = w' := by
  have H := Lib.hid (fun w => less_any a b w ha ha' hb hb')
  unfold sMax
  generalize sLess a b = v at *
  cases v
  all_goals
    go_enter Try.func19, Try.ntmps19
    go_wp2_with fail
    refine (H.out _).mono ?_
    rintro e w' ⟨rfl, rfl⟩
    go_wp2
    go_ret
    exact ⟨rfl, rfl⟩

theorem and_not32 (a : Int) (h1 : 0 ≤ a) (h2 : a < 18446744073709551616) : bits .andNot .u64 a 4294967295 = a / 4294967296 * 4294967296 := by
  obtain ⟨n, rfl⟩ := Int.eq_ofNat_of_zero_le h1
  have hn : n < 18446744073709551616 := by omega
  have := u64_andNot_nat n 4294967295 hn (by omega)
  rw [show ((4294967295 : Nat) : Int) = 4294967295 from rfl] at this
  rw [this]
  have e : n &&& (18446744073709551615 - 4294967295) = n / 4294967296 * 4294967296 := by
    apply Nat.eq_of_testBit_eq
    intro i
    have hm : (18446744073709551615 - 4294967295 : Nat) = (2 ^ 32 - 1) * 2 ^ 32 := by decide
    rw [hm, show (4294967296 : Nat) = 2 ^ 32 from rfl, Nat.testBit_and, Nat.testBit_mul_two_pow, Nat.testBit_mul_two_pow, Nat.testBit_two_pow_sub_one, Nat.testBit_div_two_pow]
    by_cases hi : 32 ≤ i
    · simp only [hi, decide_true, Bool.true_and]
      by_cases h64 : i - 32 < 32
      · rw [Nat.sub_add_cancel hi]; simp [h64]
      · have hz : n.testBit i = false := Nat.testBit_lt_two_pow (Nat.lt_of_lt_of_le (show n < 2 ^ 64 from hn) (Nat.pow_le_pow_right (by decide) (by omega)))
        rw [Nat.sub_add_cancel hi, hz]; simp
    · simp [hi]
  rw [e]
  simp

theorem or32 (a s : Int) (h1 : 0 ≤ a) (h2 : a < 18446744073709551616) (h3 : 0 ≤ s) (h4 : s < 4294967296) : bits .or .u64 (a / 4294967296 * 4294967296) s = sBase a s := by
  obtain ⟨n, rfl⟩ := Int.eq_ofNat_of_zero_le h1
  obtain ⟨m, rfl⟩ := Int.eq_ofNat_of_zero_le h3
  rw [show ((n : Int) / 4294967296 * 4294967296) = ((n / 4294967296 * 4294967296 : Nat) : Int) from by simp, u64_or_nat _ _ (by omega) (by omega),
    nat_join 32 _ _ (by rw [show (2 : Nat) ^ 32 = 4294967296 from rfl]; omega) (by rw [show (2 : Nat) ^ 32 = 4294967296 from rfl]; omega)]
  unfold sBase
  simp

def sApart (a b : Int) : Int := if a < b then b - a else a - b
theorem apart_any (a b : Int) (w : World) (ha : 0 ≤ a) (ha' : a < 18446744073709551616) (hb : 0 ≤ b) (hb' : b < 18446744073709551616) :
    Calls Try.prog 26 #[.int .u64 a, .int .u64 b] w fun e w' => e = .returned (.int .u64 (sApart a b)) ∧ w = w' := by
  by_cases h : a < b
  · have hv : sApart a b = b - a := if_pos h
    have H := Lib.hid hv
    clear hv
    go_enter Try.func26, Try.ntmps26
    go_wp2
    go_ret
    exact ⟨ret_int H.out.symm, rfl⟩
  · by_cases h' : b < a
    · have hv : sApart a b = a - b := if_neg h
      have H := Lib.hid hv
      clear hv
      go_enter Try.func26, Try.ntmps26
      go_wp2
      go_ret
      exact ⟨ret_int H.out.symm, rfl⟩
    · have hv : sApart a b = 0 := by unfold sApart; split <;> omega
      have H := Lib.hid hv
      clear hv
      go_enter Try.func26, Try.ntmps26
      go_wp2
      go_ret
      exact ⟨ret_int H.out.symm, rfl⟩
def sLiftX (near x : Int) : Int :=
  if near < x ∧ 4294967296 ≤ x ∧ 4294967296 < 2 * (x - near) then x - 4294967296
  else if x < near ∧ x + 4294967296 < 18446744073709551616 ∧ 4294967296 ≤ 2 * (near - x) then x + 4294967296
  else x
theorem sApart_lt {a b : Int} (h : a ≤ b) : sApart a b = b - a := by unfold sApart; split <;> omega
theorem sApart_ge {a b : Int} (h : b ≤ a) : sApart a b = a - b := by unfold sApart; split <;> omega
theorem apart_lt (a b : Int) (w : World) (ha : 0 ≤ a) (ha' : a < 18446744073709551616) (hb : 0 ≤ b) (hb' : b < 18446744073709551616) (h : a ≤ b) (v : Int) (hv : b - a = v) :
    Calls Try.prog 26 #[.int .u64 a, .int .u64 b] w fun e w' => e = .returned (.int .u64 v) ∧ w = w' := by
  rw [← hv, ← sApart_lt h]; exact apart_any a b w ha ha' hb hb'
theorem apart_ge (a b : Int) (w : World) (ha : 0 ≤ a) (ha' : a < 18446744073709551616) (hb : 0 ≤ b) (hb' : b < 18446744073709551616) (h : b ≤ a) (v : Int) (hv : a - b = v) :
    Calls Try.prog 26 #[.int .u64 a, .int .u64 b] w fun e w' => e = .returned (.int .u64 v) ∧ w = w' := by
  rw [← hv, ← sApart_ge h]; exact apart_any a b w ha ha' hb hb'

theorem lift_core (near s x y : Int) (w : World) (h1 : bits .andNot .u64 near 4294967295 = y) (h2 : bits .or .u64 y s = x) (hn : 0 ≤ near) (hn' : near < 18446744073709551616)
    (hs : 0 ≤ s) (hs' : s < 4294967296) (hx : 0 ≤ x) (hx' : x < 18446744073709551616) (hl : -4294967296 < x - near) (hg : x - near < 4294967296) :
    Calls Try.prog 22 #[.int .u64 near, .int .u32 s] w fun e w' => e = .returned (.int .u64 (sLiftX near x)) ∧ w = w' := by
  rcases Int.lt_trichotomy near x with c | c | c
  · by_cases c1 : 4294967296 ≤ x
    · by_cases c2 : near - x + 4294967296 < x - near
      · have hv : sLiftX near x = x - 4294967296 := by unfold sLiftX; rw [if_pos (by omega)]
        have H := Lib.hid hv
        clear hv
        go_enter Try.func22, Try.ntmps22
        go_wp2_with fail
        refine (apart_lt _ _ _ (by omega) (by omega) (by omega) (by omega) (by omega) (near - (x - 4294967296)) (by omega)).mono ?_
        rintro e w' ⟨rfl, rfl⟩
        go_wp2_with fail
        refine (apart_ge _ _ _ (by omega) (by omega) (by omega) (by omega) (by omega) (x - near) (by omega)).mono ?_
        rintro e w' ⟨rfl, rfl⟩
        go_wp2
        go_ret
        exact ⟨ret_int H.out.symm, rfl⟩
      · have hv : sLiftX near x = x := by unfold sLiftX; rw [if_neg (by omega), if_neg (by omega)]
        have H := Lib.hid hv
        clear hv
        go_enter Try.func22, Try.ntmps22
        go_wp2_with fail
        refine (apart_lt _ _ _ (by omega) (by omega) (by omega) (by omega) (by omega) (near - (x - 4294967296)) (by omega)).mono ?_
        rintro e w' ⟨rfl, rfl⟩
        go_wp2_with fail
        refine (apart_ge _ _ _ (by omega) (by omega) (by omega) (by omega) (by omega) (x - near) (by omega)).mono ?_
        rintro e w' ⟨rfl, rfl⟩
        go_wp2
        go_ret
        exact ⟨ret_int H.out.symm, rfl⟩
    · have hv : sLiftX near x = x := by unfold sLiftX; rw [if_neg (by omega), if_neg (by omega)]
      have H := Lib.hid hv
      clear hv
      go_enter Try.func22, Try.ntmps22
      go_wp2
      go_ret
      exact ⟨ret_int H.out.symm, rfl⟩
  · have hv : sLiftX near x = x := by unfold sLiftX; rw [if_neg (by omega), if_neg (by omega)]
    have H := Lib.hid hv
    have c1 : near ≤ x := by omega
    have c2 : x ≤ near := by omega
    clear hv c
    go_enter Try.func22, Try.ntmps22
    go_wp2
    go_ret
    exact ⟨ret_int H.out.symm, rfl⟩
  · by_cases c1 : x + 4294967296 < 18446744073709551616
    · by_cases c2 : x + 4294967296 - near ≤ near - x
      · have hv : sLiftX near x = x + 4294967296 := by unfold sLiftX; rw [if_neg (by omega), if_pos (by omega)]
        have H := Lib.hid hv
        clear hv
        go_enter Try.func22, Try.ntmps22
        go_wp2_with fail
        refine (apart_ge _ _ _ (by omega) (by omega) (by omega) (by omega) (by omega) (x + 4294967296 - near) (by omega)).mono ?_
        rintro e w' ⟨rfl, rfl⟩
        go_wp2_with fail
        refine (apart_lt _ _ _ (by omega) (by omega) (by omega) (by omega) (by omega) (near - x) (by omega)).mono ?_
        rintro e w' ⟨rfl, rfl⟩
        go_wp2
        go_ret
        exact ⟨ret_int H.out.symm, rfl⟩
      · have hv : sLiftX near x = x := by unfold sLiftX; rw [if_neg (by omega), if_neg (by omega)]
        have H := Lib.hid hv
        clear hv
        go_enter Try.func22, Try.ntmps22
        go_wp2_with fail
        refine (apart_ge _ _ _ (by omega) (by omega) (by omega) (by omega) (by omega) (x + 4294967296 - near) (by omega)).mono ?_
        rintro e w' ⟨rfl, rfl⟩
        go_wp2_with fail
        refine (apart_lt _ _ _ (by omega) (by omega) (by omega) (by omega) (by omega) (near - x) (by omega)).mono ?_
        rintro e w' ⟨rfl, rfl⟩
        go_wp2
        go_ret
        exact ⟨ret_int H.out.symm, rfl⟩
    · have hv : sLiftX near x = x := by unfold sLiftX; rw [if_neg (by omega), if_neg (by omega)]
      have H := Lib.hid hv
      have ht : decide (x < IntKind.u64.wrap (x + 4294967296)) = false := by
        rw [decide_eq_false_iff_not, IntKind.wrap_u64]
        omega
      clear hv
      go_enter Try.func22, Try.ntmps22
      go_wp2
      go_ret
      exact ⟨ret_int H.out.symm, rfl⟩

theorem lift_any (near s : Int) (w : World) (hn : 0 ≤ near) (hn' : near < 18446744073709551616) (hs : 0 ≤ s) (hs' : s < 4294967296) :
    Calls Try.prog 22 #[.int .u64 near, .int .u32 s] w fun e w' => e = .returned (.int .u64 (sLift near s)) ∧ w = w' := by
  have h : sLift near s = sLiftX near (sBase near s) := rfl
  rw [h]
  exact lift_core near s (sBase near s) _ w (and_not32 near hn hn') (or32 near s hn hn' hs hs') hn hn' hs hs' (by unfold sBase; omega) (by unfold sBase; omega) (by unfold sBase; omega) (by unfold sBase; omega)
end Go.Proofs.Ythichhoiegkcjaa
