/- clock.Least and the document's least: a loop over a slice of times; and the laws' known answers (works). -/
import Derived.Test.YtcfomapeiaobaaaClock
set_option linter.unusedVariables false
set_option linter.unusedSimpArgs false
set_option linter.unusedSectionVars false
namespace Go.Proofs.Ytcfomapeiaobaaa
open Go.RowKit

def cMin (m t : Int) : Int := if cMay t = true ∧ t < m then t else m
def cLeast (xs : List Int) : Int := xs.foldl cMin 17592186044416
theorem cLeast_succ (xs : List Int) (k : Nat) (h : k < xs.length) : cLeast (xs.take (k + 1)) = cMin (cLeast (xs.take k)) xs[k] := by
  unfold cLeast
  rw [List.take_succ_eq_append_getElem h, List.foldl_append]
  rfl

theorem least_any (A : Option Addr) (n c B : Nat) (xs : List Int) (w : World) (hr : Reads w B 1 A n (xs.map (Value.int .i64))) (hn : n ≤ 9223372036854775807)
    (hwf : ∀ x ∈ xs, -9223372036854775808 ≤ x ∧ x ≤ 9223372036854775807) :
    Calls Try.prog 29 #[.slice A n c] w fun r w' => r = .returned (.int .i64 (cLeast xs)) ∧ w = w' := by
  have hl : xs.length = n := by have := hr.1; simpa using this
  have HL := Lib.hid hl
  have HW := Lib.hid hwf
  have HR := Lib.hid hr
  clear hl hwf hr
  go_enter Try.func29, Try.ntmps29
  go_wp2
  go_loop [3, 8] (fun m i => ∃ k : Nat, k ≤ n ∧ i = .int .i64 k ∧ m = .int .i64 (cLeast (xs.take k))) (fun _ i => n - (intOf i).toNat)
  case atStart => exact ⟨0, Nat.zero_le _, rfl, rfl⟩
  case round =>
    obtain ⟨k, hk, rfl, rfl⟩ := hrel
    by_cases hlt : k < n
    · obtain ⟨ad, u, rfl, _, hx, hc⟩ := HR.out.at_ hlt
      have hk' : k < xs.length := by rw [HL.out]; exact hlt
      rw [List.getElem?_map, List.getElem?_eq_getElem hk'] at hx
      simp only [Option.map_some, Option.some.injEq] at hx
      subst hx
      obtain ⟨b1, b2⟩ := HW.out xs[k] (List.getElem_mem hk')
      have HS := Lib.hid (cLeast_succ xs k hk')
      generalize xs[k] = t at *
      generalize cLeast (xs.take k) = m at *
      by_cases hm : cMay t = true
      · have H := Lib.hid (fun w => may_v t true hm w b1 b2)
        by_cases hlt2 : t < m
        · have e : cMin m t = t := if_pos ⟨hm, hlt2⟩
          rw [e] at HS
          clear e hm
          go_wp2_with fail
          refine (H.out _).mono ?_
          rintro e w' ⟨rfl, rfl⟩
          go_wp2
          go_round
          case rel => exact ⟨k + 1, by omega, by go_num, by rw [HS.out]⟩
          case measure => simp [intOf]; omega
        · have e : cMin m t = m := if_neg (fun h => hlt2 h.2)
          rw [e] at HS
          clear e hm
          go_wp2_with fail
          refine (H.out _).mono ?_
          rintro e w' ⟨rfl, rfl⟩
          go_wp2
          go_round
          case rel => exact ⟨k + 1, by omega, by go_num, by rw [HS.out]⟩
          case measure => simp [intOf]; omega
      · have hm' : cMay t = false := by simpa using hm
        have H := Lib.hid (fun w => may_v t false hm' w b1 b2)
        have e : cMin m t = m := if_neg (fun h => hm h.1)
        rw [e] at HS
        clear e hm hm'
        go_wp2_with fail
        refine (H.out _).mono ?_
        rintro e w' ⟨rfl, rfl⟩
        go_wp2
        go_round
        case rel => exact ⟨k + 1, by omega, by go_num, by rw [HS.out]⟩
        case measure => simp [intOf]; omega
    · have hfin : cLeast (xs.take k) = cLeast xs := by rw [List.take_of_length_le (by rw [HL.out]; omega)]
      have HF := Lib.hid hfin
      clear hfin
      go_wp2
      go_ret
      exact ⟨ret_int HF.out, rfl⟩

theorem ref_least_any (A : Option Addr) (n c B : Nat) (xs : List Int) (w : World) (hr : Reads w B 1 A n (xs.map (Value.int .i64))) (hn : n ≤ 9223372036854775807)
    (hwf : ∀ x ∈ xs, -9223372036854775808 ≤ x ∧ x ≤ 9223372036854775807) :
    Calls Try.prog 30 #[.slice A n c] w fun r w' => r = .returned (.int .i64 (cLeast xs)) ∧ w = w' := by
  have hl : xs.length = n := by have := hr.1; simpa using this
  have HL := Lib.hid hl
  have HW := Lib.hid hwf
  have HR := Lib.hid hr
  clear hl hwf hr
  go_enter Try.func30, Try.ntmps30
  go_wp2
  go_loop [3, 4] (fun m i => ∃ k : Nat, k ≤ n ∧ i = .int .i64 k ∧ m = .int .i64 (cLeast (xs.take k))) (fun _ i => n - (intOf i).toNat)
  case atStart => exact ⟨0, Nat.zero_le _, rfl, rfl⟩
  case round =>
    obtain ⟨k, hk, rfl, rfl⟩ := hrel
    by_cases hlt : k < n
    · obtain ⟨ad, u, rfl, _, hx, hc⟩ := HR.out.at_ hlt
      have hk' : k < xs.length := by rw [HL.out]; exact hlt
      rw [List.getElem?_map, List.getElem?_eq_getElem hk'] at hx
      simp only [Option.map_some, Option.some.injEq] at hx
      subst hx
      obtain ⟨b1, b2⟩ := HW.out xs[k] (List.getElem_mem hk')
      have HS := Lib.hid (cLeast_succ xs k hk')
      generalize xs[k] = t at *
      generalize cLeast (xs.take k) = m at *
      by_cases hm : cMay t = true
      · have H := Lib.hid (fun w => ref_may_v t true hm w b1 b2)
        by_cases hlt2 : t < m
        · have e : cMin m t = t := if_pos ⟨hm, hlt2⟩
          rw [e] at HS
          clear e hm
          go_wp2_with fail
          refine (H.out _).mono ?_
          rintro e w' ⟨rfl, rfl⟩
          go_wp2
          go_round
          case rel => exact ⟨k + 1, by omega, by go_num, by rw [HS.out]⟩
          case measure => simp [intOf]; omega
        · have e : cMin m t = m := if_neg (fun h => hlt2 h.2)
          rw [e] at HS
          clear e hm
          go_wp2_with fail
          refine (H.out _).mono ?_
          rintro e w' ⟨rfl, rfl⟩
          go_wp2
          go_round
          case rel => exact ⟨k + 1, by omega, by go_num, by rw [HS.out]⟩
          case measure => simp [intOf]; omega
      · have hm' : cMay t = false := by simpa using hm
        have H := Lib.hid (fun w => ref_may_v t false hm' w b1 b2)
        have e : cMin m t = m := if_neg (fun h => hm h.1)
        rw [e] at HS
        clear e hm hm'
        go_wp2_with fail
        refine (H.out _).mono ?_
        rintro e w' ⟨rfl, rfl⟩
        go_wp2
        go_round
        case rel => exact ⟨k + 1, by omega, by go_num, by rw [HS.out]⟩
        case measure => simp [intOf]; omega
    · have hfin : cLeast (xs.take k) = cLeast xs := by rw [List.take_of_length_le (by rw [HL.out]; omega)]
      have HF := Lib.hid hfin
      clear hfin
      go_wp2
      go_ret
      exact ⟨ret_int HF.out, rfl⟩

theorem works_clock (w : World) : Calls Try.prog 24 #[] w fun e w' => e = .returned (.bool true) ∧ Below w.heap.size w w' := by
  go_enter Try.func24, Try.ntmps24
  go_wp2_with fail
  (with_reducible refine (clk_new 5 _ (by decide) (by decide) (by decide)).mono ?_)
  rintro e w1 ⟨rfl, hc1, hb1⟩
  have hlt : w.heap.size < w1.heap.size := hc1.lt
  have Hb1 := Lib.hid hb1
  clear hb1
  have Hlt := Lib.hid hlt
  clear hlt
  go_wp2_with fail
  (with_reducible refine (clk_go _ 5 3 _ hc1 (by decide) (by decide) (by decide) (by decide) 8 0 (by decide) 8 (by decide)).mono ?_)
  rintro e w2 ⟨rfl, hc2, hg2⟩
  have Hg2 := Lib.hid hg2
  clear hg2
  clear hc1
  go_wp2_with fail
  (with_reducible refine (clk_now _ 8 _ hc2).mono ?_)
  rintro e w' ⟨rfl, rfl⟩
  go_wp2_with fail
  (with_reducible refine (clk_left _ 8 10 _ hc2 (by decide) (by decide) (by decide) (by decide) 2 (by decide)).mono ?_)
  rintro e w' ⟨rfl, rfl⟩
  go_wp2_with fail
  (with_reducible refine (clk_go _ 8 (-1) _ hc2 (by decide) (by decide) (by decide) (by decide) 0 2 (by decide) 8 (by decide)).mono ?_)
  rintro e w3 ⟨rfl, hc3, hg3⟩
  have Hg3 := Lib.hid hg3
  clear hg3
  clear hc2
  go_wp2_with fail
  (with_reducible refine (clk_now _ 8 _ hc3).mono ?_)
  rintro e w' ⟨rfl, rfl⟩
  go_wp2_with fail
  (with_reducible refine (least_any _ 3 3 (w3.heap.size + 1) [9, -1, 4] _ (Reads.of_blk (Blk.new w3 2 #[.int .i64 9, .int .i64 (-1), .int .i64 4]) (Nat.lt_succ_self _) _ rfl 3 rfl) (by decide) (by decide)).mono ?_)
  rintro e w' ⟨rfl, rfl⟩
  go_wp2
  go_ret
  have z1 := Hlt.out
  have z2 := Hg2.out.size
  have z3 := Hg3.out.size
  exact ⟨rfl, (below_only (below_only Hb1.out Hg2.out (Nat.le_refl _) (by omega)) Hg3.out (Nat.le_refl _) (by omega)).alloc (by omega) _⟩
end Go.Proofs.Ytcfomapeiaobaaa
