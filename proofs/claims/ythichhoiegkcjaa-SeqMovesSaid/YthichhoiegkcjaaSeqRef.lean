/- Contracts of the document's answer for layer 1 (transomref01), and of the laws' own known answers. -/
import Derived.Test.YthichhoiegkcjaaSeq
set_option linter.unusedVariables false
set_option linter.unusedSimpArgs false
namespace Go.Proofs.Ythichhoiegkcjaa
open Go.RowKit

theorem way_any (a b : Int) (w : World) (ha : 0 ≤ a) (ha' : a < 4294967296) (hb : 0 ≤ b) (hb' : b < 4294967296) :
    Calls Try.prog 25 #[.int .u32 a, .int .u32 b] w fun e w' => e = .returned (.int .i64 (sWay a b)) ∧ w = w' := by
  go_enter Try.func25, Try.ntmps25
  go_wp2
  go_ret
  exact ⟨rfl, rfl⟩
theorem sWay_bounds (a b : Int) : 0 ≤ sWay a b ∧ sWay a b < 4294967296 := by unfold sWay; omega

theorem ref_less (a b : Int) (w : World) (ha : 0 ≤ a) (ha' : a < 4294967296) (hb : 0 ≤ b) (hb' : b < 4294967296) :
    Calls Try.prog 14 #[.int .u32 a, .int .u32 b] w fun e w' => e = .returned (.bool (sLess a b)) ∧ w = w' := by
  have H := Lib.hid (fun w => way_any a b w ha ha' hb hb')
  obtain ⟨h0, h1⟩ := sWay_bounds a b
  rw [sLess_way ha ha' hb hb']
  generalize sWay a b = v at *
  by_cases c : 0 < v
  · generalize hd : decide (v < 2147483648) = d
    rw [decide_eq_true c, Bool.true_and]
    go_enter Try.func14, Try.ntmps14
    go_wp2_with fail
    refine (H.out _).mono ?_
    rintro e w' ⟨rfl, rfl⟩
    go_wp2_with fail
    refine (H.out _).mono ?_
    rintro e w' ⟨rfl, rfl⟩
    go_wp2
    go_ret
    exact ⟨rfl, rfl⟩
  · have c' : decide (0 < v) = false := by simpa using c
    rw [c', Bool.false_and]
    go_enter Try.func14, Try.ntmps14
    go_wp2_with fail
    refine (H.out _).mono ?_
    rintro e w' ⟨rfl, rfl⟩
    go_wp2
    go_ret
    exact ⟨rfl, rfl⟩

theorem ref_sub (a b : Int) (w : World) (ha : 0 ≤ a) (ha' : a < 4294967296) (hb : 0 ≤ b) (hb' : b < 4294967296) :
    Calls Try.prog 16 #[.int .u32 a, .int .u32 b] w fun e w' => e = .returned (.int .i64 (sSub a b)) ∧ w = w' := by
  have H := Lib.hid (fun w => way_any b a w hb hb' ha ha')
  obtain ⟨h0, h1⟩ := sWay_bounds b a
  rw [sSub_way ha ha' hb hb']
  generalize sWay b a = v at *
  by_cases d : v < 2147483648
  · rw [if_pos d]
    go_enter Try.func16, Try.ntmps16
    go_wp2_with fail
    refine (H.out _).mono ?_
    rintro e w' ⟨rfl, rfl⟩
    go_wp2_with fail
    refine (H.out _).mono ?_
    rintro e w' ⟨rfl, rfl⟩
    go_wp2
    go_ret
    exact ⟨rfl, rfl⟩
  · rw [if_neg d]
    go_enter Try.func16, Try.ntmps16
    go_wp2_with fail
    refine (H.out _).mono ?_
    rintro e w' ⟨rfl, rfl⟩
    go_wp2_with fail
    refine (H.out _).mono ?_
    rintro e w' ⟨rfl, rfl⟩
    go_wp2
    go_ret
    exact ⟨rfl, rfl⟩

theorem ref_in (a b n : Int) (w : World) (ha : 0 ≤ a) (ha' : a < 4294967296) (hb : 0 ≤ b) (hb' : b < 4294967296) (hn : 0 ≤ n) (hn' : n < 4294967296) :
    Calls Try.prog 18 #[.int .u32 a, .int .u32 b, .int .u32 n] w fun e w' => e = .returned (.bool (sIn a b n)) ∧ w = w' := by
  have H := Lib.hid (fun w => way_any b a w hb hb' ha ha')
  obtain ⟨h0, h1⟩ := sWay_bounds b a
  rw [sIn_way ha ha' hb hb']
  generalize sWay b a = v at *
  go_enter Try.func18, Try.ntmps18
  go_wp2_with fail
  refine (H.out _).mono ?_
  rintro e w' ⟨rfl, rfl⟩
  go_wp2
  go_ret
  exact ⟨rfl, rfl⟩

theorem ref_max (a b : Int) (w : World) (ha : 0 ≤ a) (ha' : a < 4294967296) (hb : 0 ≤ b) (hb' : b < 4294967296) :
    Calls Try.prog 20 #[.int .u32 a, .int .u32 b] w fun e w' => e = .returned (.int .u32 (sMax a b)) ∧ w = w' := by
  have H := Lib.hid (fun w => ref_less a b w ha ha' hb hb')
  unfold sMax
  generalize sLess a b = v at *
  cases v
  all_goals
    go_enter Try.func20, Try.ntmps20
    go_wp2_with fail
    refine (H.out _).mono ?_
    rintro e w' ⟨rfl, rfl⟩
    go_wp2
    go_ret
    exact ⟨rfl, rfl⟩

theorem away_lt (a b : Int) (w : World) (ha : 0 ≤ a) (ha' : a < 18446744073709551616) (hb : 0 ≤ b) (hb' : b < 18446744073709551616) (h : a ≤ b) (v : Int) (hv : b - a = v) :
    Calls Try.prog 27 #[.int .u64 a, .int .u64 b] w fun e w' => e = .returned (.int .u64 v) ∧ w = w' := by
  subst hv
  go_enter Try.func27, Try.ntmps27
  go_wp2
  go_ret
  exact ⟨rfl, rfl⟩
theorem away_ge (a b : Int) (w : World) (ha : 0 ≤ a) (ha' : a < 18446744073709551616) (hb : 0 ≤ b) (hb' : b < 18446744073709551616) (h : b ≤ a) (v : Int) (hv : a - b = v) :
    Calls Try.prog 27 #[.int .u64 a, .int .u64 b] w fun e w' => e = .returned (.int .u64 v) ∧ w = w' := by
  by_cases c : b < a
  · subst hv
    go_enter Try.func27, Try.ntmps27
    go_wp2
    go_ret
    exact ⟨rfl, rfl⟩
  · exact away_lt a b w ha ha' hb hb' (by omega) v (by omega)
theorem ref_lift_core (near s x q : Int) (w : World) (hq : near / 4294967296 = q) (hx0 : q * 4294967296 + s = x) (hn : 0 ≤ near) (hn' : near < 18446744073709551616)
    (hs : 0 ≤ s) (hs' : s < 4294967296) (hx : 0 ≤ x) (hx' : x < 18446744073709551616) (hl : -4294967296 < x - near) (hg : x - near < 4294967296) (hq0 : 0 ≤ q) (hq1 : q < 4294967296) :
    Calls Try.prog 23 #[.int .u64 near, .int .u32 s] w fun e w' => e = .returned (.int .u64 (sLiftX near x)) ∧ w = w' := by
  by_cases c : near ≤ x
  · by_cases c1 : 4294967296 ≤ x
    · by_cases c2 : near - x + 4294967296 < x - near
      · have hv : sLiftX near x = x - 4294967296 := by unfold sLiftX; rw [if_pos (by omega)]
        have H := Lib.hid hv
        clear hv
        by_cases c3 : x + 4294967296 < 18446744073709551616
        · go_enter Try.func23, Try.ntmps23
          go_wp2_with fail
          refine (away_lt _ _ _ (by omega) (by omega) (by omega) (by omega) (by omega) (near - (x - 4294967296)) (by omega)).mono ?_
          rintro e w' ⟨rfl, rfl⟩
          go_wp2_with fail
          refine (away_ge _ _ _ (by omega) (by omega) (by omega) (by omega) (by omega) (x - near) (by omega)).mono ?_
          rintro e w' ⟨rfl, rfl⟩
          go_wp2_with fail
          refine (away_ge _ _ _ (by omega) (by omega) (by omega) (by omega) (by omega) (x + 4294967296 - near) (by omega)).mono ?_
          rintro e w' ⟨rfl, rfl⟩
          go_wp2_with fail
          refine (away_lt _ _ _ (by omega) (by omega) (by omega) (by omega) (by omega) (near - (x - 4294967296)) (by omega)).mono ?_
          rintro e w' ⟨rfl, rfl⟩
          go_wp2
          go_ret
          exact ⟨ret_int H.out.symm, rfl⟩
        · have ht : decide (x < IntKind.u64.wrap (x + 4294967296)) = false := by
            rw [decide_eq_false_iff_not, IntKind.wrap_u64]
            omega
          go_enter Try.func23, Try.ntmps23
          go_wp2_with fail
          refine (away_lt _ _ _ (by omega) (by omega) (by omega) (by omega) (by omega) (near - (x - 4294967296)) (by omega)).mono ?_
          rintro e w' ⟨rfl, rfl⟩
          go_wp2_with fail
          refine (away_ge _ _ _ (by omega) (by omega) (by omega) (by omega) (by omega) (x - near) (by omega)).mono ?_
          rintro e w' ⟨rfl, rfl⟩
          go_wp2
          go_ret
          exact ⟨ret_int H.out.symm, rfl⟩
      · have hv : sLiftX near x = x := by unfold sLiftX; rw [if_neg (by omega), if_neg (by omega)]
        have H := Lib.hid hv
        clear hv
        by_cases c3 : x + 4294967296 < 18446744073709551616
        · go_enter Try.func23, Try.ntmps23
          go_wp2_with fail
          refine (away_lt _ _ _ (by omega) (by omega) (by omega) (by omega) (by omega) (near - (x - 4294967296)) (by omega)).mono ?_
          rintro e w' ⟨rfl, rfl⟩
          go_wp2_with fail
          refine (away_ge _ _ _ (by omega) (by omega) (by omega) (by omega) (by omega) (x - near) (by omega)).mono ?_
          rintro e w' ⟨rfl, rfl⟩
          go_wp2_with fail
          refine (away_ge _ _ _ (by omega) (by omega) (by omega) (by omega) (by omega) (x + 4294967296 - near) (by omega)).mono ?_
          rintro e w' ⟨rfl, rfl⟩
          go_wp2_with fail
          refine (away_ge _ _ _ (by omega) (by omega) (by omega) (by omega) (by omega) (x - near) (by omega)).mono ?_
          rintro e w' ⟨rfl, rfl⟩
          go_wp2
          go_ret
          exact ⟨ret_int H.out.symm, rfl⟩
        · have ht : decide (x < IntKind.u64.wrap (x + 4294967296)) = false := by
            rw [decide_eq_false_iff_not, IntKind.wrap_u64]
            omega
          go_enter Try.func23, Try.ntmps23
          go_wp2_with fail
          refine (away_lt _ _ _ (by omega) (by omega) (by omega) (by omega) (by omega) (near - (x - 4294967296)) (by omega)).mono ?_
          rintro e w' ⟨rfl, rfl⟩
          go_wp2_with fail
          refine (away_ge _ _ _ (by omega) (by omega) (by omega) (by omega) (by omega) (x - near) (by omega)).mono ?_
          rintro e w' ⟨rfl, rfl⟩
          go_wp2
          go_ret
          exact ⟨ret_int H.out.symm, rfl⟩
    · have hv : sLiftX near x = x := by unfold sLiftX; rw [if_neg (by omega), if_neg (by omega)]
      have H := Lib.hid hv
      clear hv
      go_enter Try.func23, Try.ntmps23
      go_wp2_with fail
      refine (away_ge _ _ _ (by omega) (by omega) (by omega) (by omega) (by omega) (x + 4294967296 - near) (by omega)).mono ?_
      rintro e w' ⟨rfl, rfl⟩
      go_wp2_with fail
      refine (away_ge _ _ _ (by omega) (by omega) (by omega) (by omega) (by omega) (x - near) (by omega)).mono ?_
      rintro e w' ⟨rfl, rfl⟩
      go_wp2
      go_ret
      exact ⟨ret_int H.out.symm, rfl⟩
  · by_cases c3 : x + 4294967296 < 18446744073709551616
    · by_cases c1 : 4294967296 ≤ x
      · by_cases c2 : x + 4294967296 - near ≤ near - x
        · have hv : sLiftX near x = x + 4294967296 := by unfold sLiftX; rw [if_neg (by omega), if_pos (by omega)]
          have H := Lib.hid hv
          clear hv
          go_enter Try.func23, Try.ntmps23
          go_wp2_with fail
          refine (away_lt _ _ _ (by omega) (by omega) (by omega) (by omega) (by omega) (near - (x - 4294967296)) (by omega)).mono ?_
          rintro e w' ⟨rfl, rfl⟩
          go_wp2_with fail
          refine (away_lt _ _ _ (by omega) (by omega) (by omega) (by omega) (by omega) (near - x) (by omega)).mono ?_
          rintro e w' ⟨rfl, rfl⟩
          go_wp2_with fail
          refine (away_ge _ _ _ (by omega) (by omega) (by omega) (by omega) (by omega) (x + 4294967296 - near) (by omega)).mono ?_
          rintro e w' ⟨rfl, rfl⟩
          go_wp2_with fail
          refine (away_lt _ _ _ (by omega) (by omega) (by omega) (by omega) (by omega) (near - x) (by omega)).mono ?_
          rintro e w' ⟨rfl, rfl⟩
          go_wp2
          go_ret
          exact ⟨ret_int H.out.symm, rfl⟩
        · have hv : sLiftX near x = x := by unfold sLiftX; rw [if_neg (by omega), if_neg (by omega)]
          have H := Lib.hid hv
          clear hv
          go_enter Try.func23, Try.ntmps23
          go_wp2_with fail
          refine (away_lt _ _ _ (by omega) (by omega) (by omega) (by omega) (by omega) (near - (x - 4294967296)) (by omega)).mono ?_
          rintro e w' ⟨rfl, rfl⟩
          go_wp2_with fail
          refine (away_lt _ _ _ (by omega) (by omega) (by omega) (by omega) (by omega) (near - x) (by omega)).mono ?_
          rintro e w' ⟨rfl, rfl⟩
          go_wp2_with fail
          refine (away_ge _ _ _ (by omega) (by omega) (by omega) (by omega) (by omega) (x + 4294967296 - near) (by omega)).mono ?_
          rintro e w' ⟨rfl, rfl⟩
          go_wp2_with fail
          refine (away_lt _ _ _ (by omega) (by omega) (by omega) (by omega) (by omega) (near - x) (by omega)).mono ?_
          rintro e w' ⟨rfl, rfl⟩
          go_wp2
          go_ret
          exact ⟨ret_int H.out.symm, rfl⟩
      · by_cases c2 : x + 4294967296 - near ≤ near - x
        · have hv : sLiftX near x = x + 4294967296 := by unfold sLiftX; rw [if_neg (by omega), if_pos (by omega)]
          have H := Lib.hid hv
          clear hv
          go_enter Try.func23, Try.ntmps23
          go_wp2_with fail
          refine (away_ge _ _ _ (by omega) (by omega) (by omega) (by omega) (by omega) (x + 4294967296 - near) (by omega)).mono ?_
          rintro e w' ⟨rfl, rfl⟩
          go_wp2_with fail
          refine (away_lt _ _ _ (by omega) (by omega) (by omega) (by omega) (by omega) (near - x) (by omega)).mono ?_
          rintro e w' ⟨rfl, rfl⟩
          go_wp2
          go_ret
          exact ⟨ret_int H.out.symm, rfl⟩
        · have hv : sLiftX near x = x := by unfold sLiftX; rw [if_neg (by omega), if_neg (by omega)]
          have H := Lib.hid hv
          clear hv
          go_enter Try.func23, Try.ntmps23
          go_wp2_with fail
          refine (away_ge _ _ _ (by omega) (by omega) (by omega) (by omega) (by omega) (x + 4294967296 - near) (by omega)).mono ?_
          rintro e w' ⟨rfl, rfl⟩
          go_wp2_with fail
          refine (away_lt _ _ _ (by omega) (by omega) (by omega) (by omega) (by omega) (near - x) (by omega)).mono ?_
          rintro e w' ⟨rfl, rfl⟩
          go_wp2
          go_ret
          exact ⟨ret_int H.out.symm, rfl⟩
    · have hv : sLiftX near x = x := by unfold sLiftX; rw [if_neg (by omega), if_neg (by omega)]
      have H := Lib.hid hv
      have ht : decide (x < IntKind.u64.wrap (x + 4294967296)) = false := by
        rw [decide_eq_false_iff_not, IntKind.wrap_u64]
        omega
      clear hv
      by_cases c1 : 4294967296 ≤ x
      · go_enter Try.func23, Try.ntmps23
        go_wp2_with fail
        refine (away_lt _ _ _ (by omega) (by omega) (by omega) (by omega) (by omega) (near - (x - 4294967296)) (by omega)).mono ?_
        rintro e w' ⟨rfl, rfl⟩
        go_wp2_with fail
        refine (away_lt _ _ _ (by omega) (by omega) (by omega) (by omega) (by omega) (near - x) (by omega)).mono ?_
        rintro e w' ⟨rfl, rfl⟩
        go_wp2
        go_ret
        exact ⟨ret_int H.out.symm, rfl⟩
      · omega

theorem ref_lift (near s : Int) (w : World) (hn : 0 ≤ near) (hn' : near < 18446744073709551616) (hs : 0 ≤ s) (hs' : s < 4294967296) :
    Calls Try.prog 23 #[.int .u64 near, .int .u32 s] w fun e w' => e = .returned (.int .u64 (sLift near s)) ∧ w = w' := by
  have h : sLift near s = sLiftX near (sBase near s) := rfl
  rw [h]
  exact ref_lift_core near s (sBase near s) _ w rfl rfl hn hn' hs hs' (by unfold sBase; omega) (by unfold sBase; omega) (by unfold sBase; omega) (by unfold sBase; omega) (by omega) (by omega)
theorem less_v (a b : Int) (v : Bool) (hv : sLess a b = v) (w : World) (ha : 0 ≤ a) (ha' : a < 4294967296) (hb : 0 ≤ b) (hb' : b < 4294967296) :
    Calls Try.prog 13 #[.int .u32 a, .int .u32 b] w fun e w' => e = .returned (.bool v) ∧ w = w' := by
  subst hv; exact less_any a b w ha ha' hb hb'
theorem sub_v (a b v : Int) (hv : sSub a b = v) (w : World) (ha : 0 ≤ a) (ha' : a < 4294967296) (hb : 0 ≤ b) (hb' : b < 4294967296) :
    Calls Try.prog 15 #[.int .u32 a, .int .u32 b] w fun e w' => e = .returned (.int .i64 v) ∧ w = w' := by
  subst hv; exact sub_any a b w ha ha' hb hb'
theorem in_v (a b n : Int) (v : Bool) (hv : sIn a b n = v) (w : World) (ha : 0 ≤ a) (ha' : a < 4294967296) (hb : 0 ≤ b) (hb' : b < 4294967296) (hn : 0 ≤ n) (hn' : n < 4294967296) :
    Calls Try.prog 17 #[.int .u32 a, .int .u32 b, .int .u32 n] w fun e w' => e = .returned (.bool v) ∧ w = w' := by
  subst hv; exact in_any a b n w ha ha' hb hb' hn hn'
theorem max_v (a b v : Int) (hv : sMax a b = v) (w : World) (ha : 0 ≤ a) (ha' : a < 4294967296) (hb : 0 ≤ b) (hb' : b < 4294967296) :
    Calls Try.prog 19 #[.int .u32 a, .int .u32 b] w fun e w' => e = .returned (.int .u32 v) ∧ w = w' := by
  subst hv; exact max_any a b w ha ha' hb hb'
theorem lift_v (near s v : Int) (hv : sLift near s = v) (w : World) (hn : 0 ≤ near) (hn' : near < 18446744073709551616) (hs : 0 ≤ s) (hs' : s < 4294967296) :
    Calls Try.prog 22 #[.int .u64 near, .int .u32 s] w fun e w' => e = .returned (.int .u64 v) ∧ w = w' := by
  subst hv; exact lift_any near s w hn hn' hs hs'

theorem alive_seq (w : World) : Calls Try.prog 21 #[] w fun e w' => e = .returned (.bool true) ∧ w = w' := by
  go_enter Try.func21, Try.ntmps21
  go_wp2_with fail
  refine (less_v _ _ true (by decide) _ (by decide) (by decide) (by decide) (by decide)).mono ?_
  rintro e w' ⟨rfl, rfl⟩
  go_wp2_with fail
  refine (less_v _ _ false (by decide) _ (by decide) (by decide) (by decide) (by decide)).mono ?_
  rintro e w' ⟨rfl, rfl⟩
  go_wp2_with fail
  refine (less_v _ _ false (by decide) _ (by decide) (by decide) (by decide) (by decide)).mono ?_
  rintro e w' ⟨rfl, rfl⟩
  go_wp2_with fail
  refine (sub_v _ _ (-2) (by decide) _ (by decide) (by decide) (by decide) (by decide)).mono ?_
  rintro e w' ⟨rfl, rfl⟩
  go_wp2_with fail
  refine (sub_v _ _ (-2147483648) (by decide) _ (by decide) (by decide) (by decide) (by decide)).mono ?_
  rintro e w' ⟨rfl, rfl⟩
  go_wp2_with fail
  refine (in_v _ _ _ true (by decide) _ (by decide) (by decide) (by decide) (by decide) (by decide) (by decide)).mono ?_
  rintro e w' ⟨rfl, rfl⟩
  go_wp2_with fail
  refine (in_v _ _ _ false (by decide) _ (by decide) (by decide) (by decide) (by decide) (by decide) (by decide)).mono ?_
  rintro e w' ⟨rfl, rfl⟩
  go_wp2_with fail
  refine (max_v _ _ 0 (by decide) _ (by decide) (by decide) (by decide) (by decide)).mono ?_
  rintro e w' ⟨rfl, rfl⟩
  go_wp2_with fail
  refine (lift_v _ _ 4294967301 (by decide) _ (by decide) (by decide) (by decide) (by decide)).mono ?_
  rintro e w' ⟨rfl, rfl⟩
  go_wp2_with fail
  refine (lift_v _ _ 4294967295 (by decide) _ (by decide) (by decide) (by decide) (by decide)).mono ?_
  rintro e w' ⟨rfl, rfl⟩
  go_wp2
  go_ret
  exact ⟨rfl, rfl⟩
end Go.Proofs.Ythichhoiegkcjaa
