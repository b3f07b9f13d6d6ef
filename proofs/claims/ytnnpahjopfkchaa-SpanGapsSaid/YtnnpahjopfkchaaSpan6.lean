/- transomref02.Covers, Len, Same. -/
import Derived.Test.YtnnpahjopfkchaaSpan5
import Derived.Laws.Bits64
set_option linter.unusedVariables false
set_option linter.unusedSimpArgs false
namespace Go.Proofs.Ytnnpahjopfkchaa
open Go.RowKit Go.BigFrame

theorem spn_ext {l m : List Sp} (h0 : l.length = m.length) (h : ∀ j, j < l.length → spn l j = spn m j) : l = m :=
  List.ext_getElem h0 fun j h1 h2 => by rw [← spn_get l h1, ← spn_get m h2]; exact h j h1
theorem neq_spn (a b c d : Int) (W : World) : (binOp .neq 25 (.agg #[.int .u64 a, .int .u64 b]) (.agg #[.int .u64 c, .int .u64 d])).run Try.prog W = .ok (.bool (!(decide (a = c) && decide (b = d)))) W := by
  by_cases h1 : a = c
  · subst h1
    by_cases h2 : b = d
    · subst h2
      rw [decide_eq_true (rfl : a = a), decide_eq_true (rfl : b = b)]
      go_simp
    · have h3 : (b == d) = false := by simpa using h2
      rw [decide_eq_true (rfl : a = a), decide_eq_false h2]
      go_simp
  · have h3 : (a == c) = false := by simpa using h1
    rw [decide_eq_false h1]
    go_simp
section
variable {w : World} {A A' : Option Addr} {l m : List Sp} {cap cap' : Nat}
set_option maxRecDepth 100000 in
set_option maxHeartbeats 2000000 in
theorem same_any (hm : l.length ≤ 1000000) (hm' : m.length ≤ 1000000) (hI : SpAt w.heap.size w A l) (hJ : SpAt w.heap.size w A' m) : Calls Try.prog 15 #[.slice A l.length cap, .slice A' m.length cap'] w fun e w' => e = .returned (.bool (decide (l = m))) ∧ Below w.heap.size w w' := by
  have lm : (l.length : Int) ≤ 1000000 := by omega
  have lm' : (m.length : Int) ≤ 1000000 := by omega
  by_cases h0 : l.length = m.length
  · obtain ⟨b, hb⟩ : ∃ b, b = decide (l = m) := ⟨_, rfl⟩
    rw [← hb]
    obtain ⟨N, hN⟩ := stopG (fun j => spn l j ≠ spn m j) l.length
    have hNl := hN.le
    have hbN : (b = true ↔ N = l.length) := by
      rw [hb, decide_eq_true_iff]
      constructor
      · intro e
        rcases Nat.lt_or_eq_of_le hNl with h1 | h1
        · exact absurd (by rw [e]) (hN.here h1)
        · exact h1
      · intro e
        exact spn_ext h0 fun j hj => Classical.not_not.1 (hN.ahead j (by omega))
    have h0z : (l.length : Int) = (m.length : Int) := by omega
    have HX := Lib.hid (And.intro hI (And.intro hJ (And.intro hN hbN)))
    clear hI hJ hN hbN hb
    go_enter Try.func15, Try.ntmps15
    go_wp2
    go_loopw [5] (fun i wr => ∃ k : Nat, i = .int .i64 k ∧ k ≤ N ∧ Hid (Below w.heap.size w wr)) (fun i _ => l.length - (intOf i).toNat)
    case atStart => exact ⟨0, rfl, Nat.zero_le _, Lib.hid (Below.refl _ _)⟩
    case round =>
      obtain ⟨k, rfl, hk, HW⟩ := hrel
      by_cases h1 : k < l.length
      · have h1z : (k : Int) < (l.length : Int) := by omega
        have h1y : (k : Int) < (m.length : Int) := by omega
        have k0 : (0 : Int) ≤ (k : Int) := by omega
        obtain ⟨bk, off, rfl, -, r1, r2⟩ := (HX.out.1.below HW.out).at_ h1
        obtain ⟨bk', off', rfl, -, s1, s2⟩ := (HX.out.2.1.below HW.out).at_ (j := k) (by omega)
        rw [← spn_get l h1] at r1 r2
        rw [← spn_get m (by omega)] at s1 s2
        obtain ⟨x, ex⟩ : ∃ x, x = spn l k := ⟨_, rfl⟩
        obtain ⟨y, ey⟩ : ∃ y, y = spn m k := ⟨_, rfl⟩
        rw [← ex] at r1 r2
        rw [← ey] at s1 s2
        by_cases hkN : k < N
        · have ho := Classical.not_not.1 (HX.out.2.2.1.ahead k hkN)
          rw [← ex, ← ey] at ho
          subst ho
          have hnq := fun W => neq_spn (x.1 : Int) (x.2 : Int) (x.1 : Int) (x.2 : Int) W
          simp only [decide_true, Bool.and_self, Bool.not_true] at hnq
          clear ex ey
          go_upto_region 6 with fail
          go_quiet (fail)
          go_wp2
          go_roundw
          case rel => exact ⟨k + 1, by go_num, hkN, by first | exact HW | exact Lib.hid (below_drewN HW.out _)⟩
          case measure => simp [intOf]; omega
        · obtain rfl : k = N := by omega
          have ho := HX.out.2.2.1.here h1
          obtain rfl : b = false := by
            cases hb : b with
            | false => rfl
            | true => have := HX.out.2.2.2.1 hb; omega
          have hz : ¬ ((x.1 : Int) = (y.1 : Int) ∧ (x.2 : Int) = (y.2 : Int)) := fun h => ho (by rw [← ex, ← ey]; exact Prod.ext (by omega) (by omega))
          have hd : (decide ((x.1 : Int) = (y.1 : Int)) && decide ((x.2 : Int) = (y.2 : Int))) = false := by
            cases hh : (decide ((x.1 : Int) = (y.1 : Int)) && decide ((x.2 : Int) = (y.2 : Int))) with
            | false => rfl
            | true => rw [Bool.and_eq_true, decide_eq_true_iff, decide_eq_true_iff] at hh; exact absurd hh hz
          have hnq := fun W => neq_spn (x.1 : Int) (x.2 : Int) (y.1 : Int) (y.2 : Int) W
          simp only [hd, Bool.not_false] at hnq
          clear ex ey ho hz hd
          go_upto_region 6 with fail
          go_quiet (fail)
          go_wp2
          go_ret
          exact ⟨rfl, by first | exact HW.out | exact below_drewN HW.out _⟩
      · obtain rfl : k = N := by omega
        obtain rfl : k = l.length := by omega
        obtain rfl : b = true := HX.out.2.2.2.2 rfl
        have h1z : ¬ (l.length : Int) < (l.length : Int) := by omega
        go_wp2
        go_ret
        exact ⟨rfl, HW.out⟩
  · have h0z : ¬ (l.length : Int) = (m.length : Int) := by omega
    have hlm : ¬ l = m := fun e => h0 (by rw [e])
    rw [decide_eq_false hlm]
    clear hI hJ hlm
    go_enter Try.func15, Try.ntmps15
    go_wp2
    go_ret
    exact ⟨rfl, Below.refl _ _⟩
end
end Go.Proofs.Ytnnpahjopfkchaa
