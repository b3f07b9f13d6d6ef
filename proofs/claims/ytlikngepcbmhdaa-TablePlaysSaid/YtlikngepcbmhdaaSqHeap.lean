/- slices.siftDownOrdered, heapSortOrdered, reverseRangeOrdered at uint64. -/
import Derived.Test.YtlikngepcbmhdaaSqRow
import Derived.Sort.WalkB3
import Derived.Sort.WalkB12
import Derived.LoopTactic
set_option linter.unusedVariables false
set_option linter.unusedSimpArgs false
namespace Go.Proofs.Ytlikngepcbmhdaa.S64
open Go.RowKit Go.BigFrame

-- $1: the child (Nat), as the walk spells it behind first; $2 stop, $3 go
set_option maxHeartbeats 8000000 in
set_option maxRecDepth 100000 in
theorem sift_any (g off cap lo hi first : Nat) (d : Array Int) (w : World) (hr : RowK w g off d) (hlo : lo ≤ hi) (hb : first + hi ≤ d.size) (hsz : d.size ≤ 1000000) :
    Calls Try.prog 52 #[.slice (some ⟨g, off, none⟩) d.size cap, .int .i64 lo, .int .i64 hi, .int .i64 first] w fun e w' => e = .returned (.tuple #[]) ∧ RowK w' g off (Sort.siftDown Sort.ltInt hi first lo d) ∧ w.grownBy w' (some g) := by
  obtain ⟨n, hn⟩ : ∃ n, n = d.size := ⟨_, rfl⟩
  have ha := At.refl hr hn.symm
  rw [← hn] at hb hsz ⊢
  obtain ⟨D, hD⟩ : ∃ D, D = Sort.siftDown Sort.ltInt hi first lo d := ⟨_, rfl⟩
  rw [← hD]
  have Ha := Lib.hid ha
  clear ha
  have HD := Lib.hid hD
  clear hD
  clear hr hn
  go_enter Try.func52, Try.ntmps52
  go_wp2
  go_loopg [8] (hi - lo) (fun k s8 wr => ∃ (root : Nat) (dk : Array Int), s8 = .int .i64 root ∧ root ≤ hi ∧ hi - root ≤ k ∧ Hid (At w wr g off n dk) ∧ Hid (Sort.siftDown Sort.ltInt hi first root dk = D))
  case atStart => exact ⟨lo, d, rfl, hlo, Nat.le_refl _, Ha, Lib.hid HD.out.symm⟩
  case round =>
    obtain ⟨root, dk, rfl, hr, hk, HA, HE⟩ := hrel
    clear Ha HD
    obtain ⟨G, hG⟩ : ∃ G : Nat → Int, ∀ t, G t = dk[t]! := ⟨fun t => dk[t]!, fun _ => rfl⟩
    have hcw := HA.out.cell G hG
    have hfw := HA.out.frozen
    have HG := Lib.hid hG
    clear hG
    by_cases h0 : hi ≤ 2 * root + 1
    · have h0z : (hi : Int) ≤ 2 * (root : Int) + 1 := by omega
      go_wp2
      go_end0
      exact ⟨rfl, HA.out.end_ (by rw [← HE.out, Sort.sd_end Sort.ltInt dk h0])⟩
    · have h0z : ¬ ((hi : Int) ≤ 2 * (root : Int) + 1) := by omega
      by_cases h1 : 2 * root + 2 < hi
      · have h1z : 2 * (root : Int) + 1 + 1 < (hi : Int) := by omega
        go_wp2_with fail
        go_big_quiet (first | (go_at_call 47; refine Calls.quiet_of_same (less_any _ _ _)))
        go_wp2_with fail
        · have hL : Sort.ltInt (G (first + 2 * root + 1)) (G (first + 2 * root + 2)) = true := by assumption
          revert nq
          intro nq1
          have hcw2 : ∀ t, t < n → (wr.drewN nq1).cell? ⟨g, off + t, none⟩ = some (.int .u64 (G t)) := hcw
          have hfw2 : ∀ t, t < n → (wr.drewN nq1).frozen? ⟨g, off + t, none⟩ = false := hfw
          have HA2 := Lib.hid (HA.out.drewN nq1)
          clear hcw hfw HA
          generalize wr.drewN nq1 = wr2 at hcw2 hfw2 HA2 ⊢
          have hcw := hcw2
          have hfw := hfw2
          have HA := HA2
          clear hcw2 hfw2 HA2
          have hL2 : Sort.ltInt dk[first + (2 * root + 1)]! dk[first + (2 * root + 2)]! = true := by rw [← HG.out, ← HG.out, ← Nat.add_assoc, ← Nat.add_assoc]; exact hL
          have HL2 := Lib.hid hL2
          clear hL2
          go_big_quiet (first | (go_at_call 47; refine Calls.quiet_of_same (less_any _ _ _)))
          go_wp2_with fail
          · have hS : Sort.ltInt (G (first + root)) (G (first + 2 * root + 2)) = false := by
              have : (!Sort.ltInt (G (first + root)) (G (first + 2 * root + 2))) = true := by assumption
              simpa using this
            rw [HG.out, HG.out, Nat.add_assoc] at hS
            (try simp only [Exit.inBlock, Exit.then])
            refine bodyPost_ret (results_none rfl _ _ _) rfl ⟨rfl, (HA.out.drewN nq).end_ ?_⟩
            rw [← HE.out, Sort.sd_right_stop Sort.ltInt dk h1 HL2.out hS]
          · have hS : Sort.ltInt (G (first + root)) (G (first + 2 * root + 2)) = true := by
              have : (!Sort.ltInt (G (first + root)) (G (first + 2 * root + 2))) = false := by assumption
              simpa using this
            rw [HG.out, HG.out, Nat.add_assoc] at hS
            revert nq
            intro nq1
            have hcw2 : ∀ t, t < n → (wr2.drewN nq1).cell? ⟨g, off + t, none⟩ = some (.int .u64 (G t)) := hcw
            have hfw2 : ∀ t, t < n → (wr2.drewN nq1).frozen? ⟨g, off + t, none⟩ = false := hfw
            have HA2 := Lib.hid (HA.out.drewN nq1)
            clear hcw hfw HA
            generalize wr2.drewN nq1 = wr9 at hcw2 hfw2 HA2 ⊢
            have hcw := hcw2
            have hfw := hfw2
            have HA := HA2
            clear hcw2 hfw2 HA2
            go_region
            go_wp2
            go_roundg (hi - (2 * root + 2))
            case measure => omega
            case rel =>
              refine ⟨2 * root + 2, Sort.swp dk (first + root) (first + (2 * root + 2)), by simp <;> omega, by omega, Nat.le_refl _, Lib.hid ?_, Lib.hid (by rw [← HE.out, Sort.sd_right_go Sort.ltInt dk h1 HL2.out hS])⟩
              rw [HG.out, HG.out]
              exact HA.out.drew.swap (by omega) (by omega)
        · have hL : Sort.ltInt (G (first + 2 * root + 1)) (G (first + 2 * root + 2)) = false := by assumption
          revert nq
          intro nq1
          have hcw2 : ∀ t, t < n → (wr.drewN nq1).cell? ⟨g, off + t, none⟩ = some (.int .u64 (G t)) := hcw
          have hfw2 : ∀ t, t < n → (wr.drewN nq1).frozen? ⟨g, off + t, none⟩ = false := hfw
          have HA2 := Lib.hid (HA.out.drewN nq1)
          clear hcw hfw HA
          generalize wr.drewN nq1 = wr2 at hcw2 hfw2 HA2 ⊢
          have hcw := hcw2
          have hfw := hfw2
          have HA := HA2
          clear hcw2 hfw2 HA2
          have hL2 : Sort.ltInt dk[first + (2 * root + 1)]! dk[first + (2 * root + 2)]! = false := by rw [← HG.out, ← HG.out, ← Nat.add_assoc, ← Nat.add_assoc]; exact hL
          have HL2 := Lib.hid hL2
          clear hL2
          go_big_quiet (first | (go_at_call 47; refine Calls.quiet_of_same (less_any _ _ _)))
          go_wp2_with fail
          · have hS : Sort.ltInt (G (first + root)) (G (first + 2 * root + 1)) = false := by
              have : (!Sort.ltInt (G (first + root)) (G (first + 2 * root + 1))) = true := by assumption
              simpa using this
            rw [HG.out, HG.out, Nat.add_assoc] at hS
            (try simp only [Exit.inBlock, Exit.then])
            refine bodyPost_ret (results_none rfl _ _ _) rfl ⟨rfl, (HA.out.drewN nq).end_ ?_⟩
            rw [← HE.out, Sort.sd_left_stop Sort.ltInt dk (by omega) (fun _ => HL2.out) hS]
          · have hS : Sort.ltInt (G (first + root)) (G (first + 2 * root + 1)) = true := by
              have : (!Sort.ltInt (G (first + root)) (G (first + 2 * root + 1))) = false := by assumption
              simpa using this
            rw [HG.out, HG.out, Nat.add_assoc] at hS
            revert nq
            intro nq1
            have hcw2 : ∀ t, t < n → (wr2.drewN nq1).cell? ⟨g, off + t, none⟩ = some (.int .u64 (G t)) := hcw
            have hfw2 : ∀ t, t < n → (wr2.drewN nq1).frozen? ⟨g, off + t, none⟩ = false := hfw
            have HA2 := Lib.hid (HA.out.drewN nq1)
            clear hcw hfw HA
            generalize wr2.drewN nq1 = wr9 at hcw2 hfw2 HA2 ⊢
            have hcw := hcw2
            have hfw := hfw2
            have HA := HA2
            clear hcw2 hfw2 HA2
            go_region
            go_wp2
            go_roundg (hi - (2 * root + 1))
            case measure => omega
            case rel =>
              refine ⟨2 * root + 1, Sort.swp dk (first + root) (first + (2 * root + 1)), by simp <;> omega, by omega, Nat.le_refl _, Lib.hid ?_, Lib.hid (by rw [← HE.out, Sort.sd_left_go Sort.ltInt dk (by omega) (fun _ => HL2.out) hS])⟩
              rw [HG.out, HG.out]
              exact HA.out.drew.swap (by omega) (by omega)
      · have h1z : decide (2 * (root : Int) + 1 + 1 < (hi : Int)) = false := decide_eq_false (by omega)
        go_wp2_with fail
        go_big_quiet (first | (go_at_call 47; refine Calls.quiet_of_same (less_any _ _ _)))
        go_wp2_with fail
        revert nq
        intro nq1
        have hcw2 : ∀ t, t < n → (wr.drewN nq1).cell? ⟨g, off + t, none⟩ = some (.int .u64 (G t)) := hcw
        have hfw2 : ∀ t, t < n → (wr.drewN nq1).frozen? ⟨g, off + t, none⟩ = false := hfw
        have HA2 := Lib.hid (HA.out.drewN nq1)
        clear hcw hfw HA
        generalize wr.drewN nq1 = wr2 at hcw2 hfw2 HA2 ⊢
        have hcw := hcw2
        have hfw := hfw2
        have HA := HA2
        clear hcw2 hfw2 HA2
        go_big_quiet (first | (go_at_call 47; refine Calls.quiet_of_same (less_any _ _ _)))
        go_wp2_with fail
        · have hS : Sort.ltInt (G (first + root)) (G (first + 2 * root + 1)) = false := by
            have : (!Sort.ltInt (G (first + root)) (G (first + 2 * root + 1))) = true := by assumption
            simpa using this
          rw [HG.out, HG.out, Nat.add_assoc] at hS
          (try simp only [Exit.inBlock, Exit.then])
          refine bodyPost_ret (results_none rfl _ _ _) rfl ⟨rfl, (HA.out.drewN nq).end_ ?_⟩
          rw [← HE.out, Sort.sd_left_stop Sort.ltInt dk (by omega) (fun h => absurd h h1) hS]
        · have hS : Sort.ltInt (G (first + root)) (G (first + 2 * root + 1)) = true := by
            have : (!Sort.ltInt (G (first + root)) (G (first + 2 * root + 1))) = false := by assumption
            simpa using this
          rw [HG.out, HG.out, Nat.add_assoc] at hS
          revert nq
          intro nq1
          have hcw2 : ∀ t, t < n → (wr2.drewN nq1).cell? ⟨g, off + t, none⟩ = some (.int .u64 (G t)) := hcw
          have hfw2 : ∀ t, t < n → (wr2.drewN nq1).frozen? ⟨g, off + t, none⟩ = false := hfw
          have HA2 := Lib.hid (HA.out.drewN nq1)
          clear hcw hfw HA
          generalize wr2.drewN nq1 = wr9 at hcw2 hfw2 HA2 ⊢
          have hcw := hcw2
          have hfw := hfw2
          have HA := HA2
          clear hcw2 hfw2 HA2
          go_region
          go_wp2
          go_roundg (hi - (2 * root + 1))
          case measure => omega
          case rel =>
            refine ⟨2 * root + 1, Sort.swp dk (first + root) (first + (2 * root + 1)), by simp <;> omega, by omega, Nat.le_refl _, Lib.hid ?_, Lib.hid (by rw [← HE.out, Sort.sd_left_go Sort.ltInt dk (by omega) (fun h => absurd h h1) hS])⟩
            rw [HG.out, HG.out]
            exact HA.out.drew.swap (by omega) (by omega)

theorem sift_at {w wr : World} {g off n cap lo hi first : Nat} {dk : Array Int} (h : At w wr g off n dk) (hlo : lo ≤ hi) (hb : first + hi ≤ n) (hsz : n ≤ 1000000) :
    Calls Try.prog 52 #[.slice (some ⟨g, off, none⟩) n cap, .int .i64 lo, .int .i64 hi, .int .i64 first] wr fun e w' => e = .returned (.tuple #[]) ∧ At w w' g off n (Sort.siftDown Sort.ltInt hi first lo dk) := by
  have hn := h.1
  have := sift_any g off cap lo hi first dk wr h.2.1 hlo (by omega) (by omega)
  rw [hn] at this
  exact this.mono fun e w' ⟨he, hr⟩ => ⟨he, h.trans hr (by rw [Sort.size_siftDown Sort.ltInt _ _ _ _ _ (Nat.le_refl _)]; exact hn)⟩
set_option maxHeartbeats 8000000 in
set_option maxRecDepth 100000 in
theorem heap_any (g off cap a b : Nat) (d : Array Int) (w : World) (hr : RowK w g off d) (hab : a ≤ b) (hb : b ≤ d.size) (hsz : d.size ≤ 1000000) :
    Calls Try.prog 42 #[.slice (some ⟨g, off, none⟩) d.size cap, .int .i64 a, .int .i64 b] w fun e w' => e = .returned (.tuple #[]) ∧ RowK w' g off (Sort.heapSort Sort.ltInt d a b) ∧ w.grownBy w' (some g) := by
  obtain ⟨n, hn⟩ : ∃ n, n = d.size := ⟨_, rfl⟩
  have ha := At.refl hr hn.symm
  rw [← hn] at hb hsz ⊢
  obtain ⟨B, hB⟩ : ∃ B, B = Sort.heapBuild Sort.ltInt (b - a) a ((b - a - 1) / 2 + 1) d := ⟨_, rfl⟩
  obtain ⟨D, hD⟩ : ∃ D, D = Sort.heapPop Sort.ltInt a (b - a) B := ⟨_, rfl⟩
  have hD' : Sort.heapSort Sort.ltInt d a b = D := by rw [hD, hB]; rfl
  rw [hD']
  clear hD'
  have ecast : ((b - a : Nat) : Int) = (b : Int) - (a : Int) := by omega
  have hsta := half_start hab
  have Ha := Lib.hid ha
  clear ha
  have HB := Lib.hid hB
  clear hB
  have HD := Lib.hid hD
  clear hD
  have Ecast := Lib.hid ecast
  clear ecast
  have Hsta := Lib.hid hsta
  clear hsta
  clear hr hn
  go_enter Try.func42, Try.ntmps42
  go_wp2
  go_loopg [9] ((b - a - 1) / 2 + 1) (fun k s9 wr => s9 = .int .i64 ((k : Int) - 1) ∧ k ≤ (b - a - 1) / 2 + 1 ∧ ∃ dk : Array Int, Hid (At w wr g off n dk) ∧ Hid (Sort.heapBuild Sort.ltInt (b - a) a k dk = B))
  case atStart => exact ⟨by rw [Hsta.out], Nat.le_refl _, d, Ha, Lib.hid HB.out.symm⟩
  case round =>
    obtain ⟨rfl, hkk, dk, HA, HE⟩ := hrel
    clear Ha HB
    cases gk with
    | zero =>
      have hB : dk = B := HE.out
      clear HE hkk
      subst hB
      go_wp2
      go_loopg [10] (b - a) (fun k s10 wr2 => s10 = .int .i64 ((k : Int) - 1) ∧ k ≤ b - a ∧ ∃ dj : Array Int, Hid (At w wr2 g off n dj) ∧ Hid (Sort.heapPop Sort.ltInt a k dj = D))
      case atStart => exact ⟨by rw [Ecast.out], Nat.le_refl _, dk, HA, Lib.hid HD.out.symm⟩
      case round =>
        clear HA HD
        obtain ⟨rfl, hkk, dk, HA, HE⟩ := hrel
        cases gk with
        | zero =>
          go_wp2
          go_end0
          exact ⟨rfl, HA.out.end_ HE.out⟩
        | succ k =>
          obtain ⟨G, hG⟩ : ∃ G : Nat → Int, ∀ t, G t = dk[t]! := ⟨fun t => dk[t]!, fun _ => rfl⟩
          have hcw := HA.out.cell G hG
          have hfw := HA.out.frozen
          have HG := Lib.hid hG
          clear hG
          rcases Nat.eq_zero_or_pos k with hk0 | hkp
          · subst hk0
            go_wp2_with fail
            go_region
            go_wp2_with fail
            have h2 := (HA.out.swap (i := a) (j := a) (by omega) (by omega)).drew
            rw [← HG.out] at h2
            try rw [← HG.out] at h2
            refine (sift_at (lo := 0) (hi := 0) (first := a) h2 (Nat.le_refl _) (by omega) hsz).mono ?_
            rintro e w1 ⟨rfl, h3⟩
            have H3 := Lib.hid h3
            clear h3
            go_wp2
            go_roundg 0
            case measure => omega
            case rel => exact ⟨by simp, by omega, _, H3, Lib.hid HE.out⟩
          · go_wp2_with fail
            go_region
            go_wp2_with fail
            have h2 := (HA.out.swap (i := a) (j := a + k) (by omega) (by omega)).drew
            rw [← HG.out] at h2
            try rw [← HG.out] at h2
            refine (sift_at (lo := 0) (hi := k) (first := a) h2 (Nat.zero_le _) (by omega) hsz).mono ?_
            rintro e w1 ⟨rfl, h3⟩
            have H3 := Lib.hid h3
            clear h3
            go_wp2
            go_roundg k
            case measure => omega
            case rel => exact ⟨by simp, by omega, _, H3, Lib.hid HE.out⟩
    | succ k =>
      have hcall := sift_at (cap := cap) (lo := k) (hi := b - a) (first := a) HA.out (by omega) (by omega) hsz
      rw [Ecast.out] at hcall
      go_wp2_with (go_at_call 52; refine hcall.mono ?_; rintro e w1 ⟨rfl, h3⟩)
      have H3 := Lib.hid h3
      clear h3
      go_roundg k
      case measure => omega
      case rel => exact ⟨by simp, by omega, _, H3, Lib.hid HE.out⟩
set_option maxHeartbeats 8000000 in
set_option maxRecDepth 100000 in
theorem rev_any (g off cap a b : Nat) (d : Array Int) (w : World) (hr : RowK w g off d) (hab : a ≤ b) (hb : b ≤ d.size) (hsz : d.size ≤ 1000000) :
    Calls Try.prog 45 #[.slice (some ⟨g, off, none⟩) d.size cap, .int .i64 a, .int .i64 b] w fun e w' => e = .returned (.tuple #[]) ∧ RowK w' g off (Sort.reverseRange d a b) ∧ w.grownBy w' (some g) := by
  obtain ⟨n, hn⟩ : ∃ n, n = d.size := ⟨_, rfl⟩
  have ha := At.refl hr hn.symm
  rw [← hn] at hb hsz ⊢
  obtain ⟨D, hD⟩ : ∃ D, D = Sort.reverseLoop a (b - 1) d := ⟨_, rfl⟩
  have hD' : Sort.reverseRange d a b = D := by rw [hD]; rfl
  rw [hD']
  clear hD'
  have Ha := Lib.hid ha
  clear ha
  have HD := Lib.hid hD
  clear hD
  clear hr hn
  go_enter Try.func45, Try.ntmps45
  go_wp2
  go_loopg [6, 7] (b - a) (fun k s6 s7 wr => ∃ (i jn : Nat) (jz : Int) (dk : Array Int), s6 = .int .i64 i ∧ s7 = .int .i64 jz ∧ ((i : Int) < jz → jz = jn ∧ jn < n) ∧ (¬ (i : Int) < jz → ¬ i < jn) ∧ jn - i ≤ k ∧ Hid (At w wr g off n dk) ∧ Hid (Sort.reverseLoop i jn dk = D))
  case atStart => exact ⟨a, b - 1, (b : Int) - 1, d, rfl, rfl, fun h => ⟨by omega, by omega⟩, fun h => by omega, by omega, Ha, Lib.hid HD.out.symm⟩
  case round =>
    clear Ha HD
    obtain ⟨i, jn, jz, dk, rfl, rfl, h1, h2, hk, HA, HE⟩ := hrel
    by_cases hlt : (i : Int) < jz
    · obtain ⟨rfl, hjn⟩ := h1 hlt
      have hij : i < jn := by omega
      clear h1 h2
      obtain ⟨G, hG⟩ : ∃ G : Nat → Int, ∀ t, G t = dk[t]! := ⟨fun t => dk[t]!, fun _ => rfl⟩
      have hcw := HA.out.cell G hG
      have hfw := HA.out.frozen
      have HG := Lib.hid hG
      clear hG
      go_wp2_with fail
      go_region
      go_wp2
      go_roundg (jn - 1 - (i + 1))
      case measure => omega
      case rel =>
        refine ⟨i + 1, jn - 1, (jn : Int) - 1, Sort.swp dk i jn, by simp, rfl, fun h => ⟨by omega, by omega⟩, fun h => by omega, Nat.le_refl _, Lib.hid ?_, Lib.hid ?_⟩
        · rw [HG.out, HG.out]
          exact HA.out.drew.swap (by omega) (by omega)
        · have heq := HE.out
          rw [Sort.reverseLoop, if_pos hij] at heq
          exact heq
    · have hnot := h2 hlt
      go_wp2
      go_end0
      refine ⟨rfl, HA.out.end_ ?_⟩
      have heq := HE.out
      rw [Sort.reverseLoop, if_neg hnot] at heq
      exact heq
end Go.Proofs.Ytlikngepcbmhdaa.S64
