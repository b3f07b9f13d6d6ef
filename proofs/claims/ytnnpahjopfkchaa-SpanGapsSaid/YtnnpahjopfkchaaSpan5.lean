/- span.Len; transomref02.Has, Gap, Covers, Len, Same. -/
import Derived.Test.YtnnpahjopfkchaaSpan4
import Derived.Laws.Bits64
set_option linter.unusedVariables false
set_option linter.unusedSimpArgs false
namespace Go.Proofs.Ytnnpahjopfkchaa
open Go.RowKit Go.BigFrame

/-- the first place of n at which P holds (or n) -/
structure StopG (P : Nat → Prop) (n N : Nat) : Prop where
  le : N ≤ n
  ahead : ∀ j, j < N → ¬ P j
  here : N < n → P N
theorem stopG (P : Nat → Prop) (n : Nat) : ∃ N, StopG P n N := by
  have : ∀ k, k ≤ n → (∃ N, StopG P n N) ∨ ∀ j, j < k → ¬ P j := by
    intro k
    induction k with
    | zero => exact fun _ => .inr fun j hj => by omega
    | succ k ih =>
      intro hk
      rcases ih (by omega) with h | h
      · exact .inl h
      · by_cases h1 : P k
        · exact .inl ⟨k, by omega, h, fun _ => h1⟩
        · exact .inr fun j hj => by
            by_cases e : j = k
            · rw [e]; exact h1
            · exact h j (by omega)
  rcases this n (Nat.le_refl _) with h | h
  · exact h
  · exact ⟨n, Nat.le_refl _, h, fun h => by omega⟩
theorem StopG.ex {P : Nat → Prop} {n N : Nat} (h : StopG P n N) : (∃ j, j < n ∧ P j) ↔ N < n := by
  constructor
  · rintro ⟨j, hj, hp⟩
    rcases Nat.lt_or_eq_of_le h.le with h1 | h1
    · exact h1
    · exact absurd hp (h.ahead j (by omega))
  · exact fun h1 => ⟨N, h1, h.here h1⟩
theorem mem_spn {l : List Sp} {Q : Sp → Prop} : (∃ q ∈ l, Q q) ↔ ∃ j, j < l.length ∧ Q (spn l j) := by
  constructor
  · rintro ⟨q, hq, h⟩
    obtain ⟨j, hj, rfl⟩ := List.mem_iff_getElem.1 hq
    exact ⟨j, hj, by rw [spn_get l hj]; exact h⟩
  · rintro ⟨j, hj, h⟩
    rw [spn_get l hj] at h
    exact ⟨_, List.getElem_mem hj, h⟩
theorem U64.spn {l : List Sp} (h : U64 l) {j : Nat} (hj : j < l.length) : (spn l j).1 < 18446744073709551616 ∧ (spn l j).2 < 18446744073709551616 := by
  rw [spn_get l hj]
  exact h _ (List.getElem_mem hj)
/-- how many numbers a list has -/
noncomputable def lenN (l : List Sp) : Nat := if mayB l = true then lenK l l.length else 0
section
variable {w : World} {A : Option Addr} {l : List Sp} {cap : Nat}
set_option maxRecDepth 100000 in
set_option maxHeartbeats 2000000 in
theorem len_any (hm : l.length ≤ 1000000) (hI : SpAt w.heap.size w A l) (hu : U64 l) : Calls Try.prog 22 #[.slice A l.length cap] w fun e w' => e = .returned (.int .u64 (lenN l : Int)) ∧ Below w.heap.size w w' := by
  have c0 := may_any (cap := cap) hm hI
  have lm : (l.length : Int) ≤ 1000000 := by omega
  unfold lenN
  cases hmy : mayB l with
  | false =>
    rw [hmy] at c0
    rw [if_neg (by decide)]
    clear hI hmy
    go_enter Try.func22, Try.ntmps22
    go_wp2_with fail
    refine c0.mono ?_
    rintro e w2 ⟨rfl, hb⟩
    go_wp2
    go_ret
    exact ⟨rfl, hb⟩
  | true =>
    have hn := ((mayB_iff l).1 hmy).1
    rw [hmy] at c0
    rw [if_pos rfl]
    obtain ⟨S, eS⟩ : ∃ S : Nat → Nat, S = lenK l := ⟨_, rfl⟩
    rw [← eS]
    have HX := Lib.hid (And.intro hI (And.intro hu (And.intro hn eS)))
    clear hI hmy hu hn eS
    go_enter Try.func22, Try.ntmps22
    go_wp2_with fail
    refine c0.mono ?_
    rintro e w2 ⟨rfl, hb⟩
    have HB0 := Lib.hid hb
    clear hb c0
    go_wp2
    go_loopw [2, 10] (fun s i wr => ∃ k : Nat, s = .int .u64 (S k : Int) ∧ i = .int .i64 k ∧ k ≤ l.length ∧ Hid (Below w.heap.size w wr)) (fun _ i _ => l.length - (intOf i).toNat)
    case atStart => exact ⟨0, by rw [HX.out.2.2.2]; rfl, rfl, Nat.zero_le _, HB0⟩
    case round =>
      clear HB0
      obtain ⟨k, rfl, rfl, hk, HB⟩ := hrel
      by_cases h1 : k < l.length
      · have h1z : (k : Int) < (l.length : Int) := by omega
        have k0 : (0 : Int) ≤ (k : Int) := by omega
        obtain ⟨b, off, rfl, hb, r1, r2⟩ := (HX.out.1.below HB.out).at_ h1
        rw [← spn_get l h1] at r1 r2
        have hu1 := HX.out.2.1.spn h1
        have ho := (norm_okA HX.out.2.2.1 k h1).1
        have hle := lenK_le HX.out.2.2.1 k h1
        have hst : S (k + 1) = S k + ((spn l k).2 - (spn l k).1) := by rw [HX.out.2.2.2]; rfl
        rw [← HX.out.2.2.2] at hle
        obtain ⟨x, ex⟩ : ∃ x, x = spn l k := ⟨_, rfl⟩
        rw [← ex] at r1 r2 hu1 ho hle hst
        obtain ⟨d, ed⟩ : ∃ d : Nat, (x.2 : Int) - (x.1 : Int) = (d : Int) := ⟨x.2 - x.1, by omega⟩
        obtain ⟨t, et⟩ : ∃ t : Nat, (S k : Int) + (d : Int) = (t : Int) := ⟨S k + d, by omega⟩
        have ht : t = S (k + 1) := by omega
        have t1 : (t : Int) ≤ 18446744073709551615 := by omega
        have d1 : (d : Int) ≤ 18446744073709551615 := by omega
        have t0 : (0 : Int) ≤ (t : Int) := by omega
        have d0 : (0 : Int) ≤ (d : Int) := by omega
        have HT := Lib.hid ht
        have hB1 := HB.out.alloc HB.out.size (.cells #[.int .u64 (x.1 : Int), .int .u64 (x.2 : Int)] 25)
        have HB1 := Lib.hid hB1
        clear ex hu1 ho hle hst ht hB1
        go_wp2
        go_roundw
        case rel => exact ⟨k + 1, by rw [← HT.out], by go_num, h1, HB1⟩
        case measure => simp [intOf]; omega
      · obtain rfl : k = l.length := by omega
        have h1z : ¬ (l.length : Int) < (l.length : Int) := by omega
        go_wp2
        go_ret
        exact ⟨rfl, HB.out⟩
set_option maxRecDepth 100000 in
theorem rhas_any (n : Nat) (hm : l.length ≤ 1000000) (hI : SpAt w.heap.size w A l) : ∃ b, (b = true ↔ cov l n) ∧ Calls Try.prog 17 #[.slice A l.length cap, .int .u64 (n : Int)] w fun e w' => e = .returned (.bool b) ∧ w = w' := by
  obtain ⟨N, hN⟩ := stopH l n
  obtain ⟨b, hb⟩ : ∃ b, b = decide (N < l.length) := ⟨_, rfl⟩
  refine ⟨b, by rw [hb, hN.cov]; simp, ?_⟩
  have lm : (l.length : Int) ≤ 1000000 := by omega
  have hNl := hN.le
  have HX := Lib.hid (And.intro hI (And.intro hN hb))
  clear hI hN hb
  go_enter Try.func17, Try.ntmps17
  go_wp2
  go_loopw [5] (fun i wr => ∃ k : Nat, i = .int .i64 k ∧ k ≤ N ∧ Hid (wr = w)) (fun i _ => l.length - (intOf i).toNat)
  case atStart => exact ⟨0, rfl, Nat.zero_le _, Lib.hid rfl⟩
  case round =>
    obtain ⟨k, rfl, hk, HW⟩ := hrel
    by_cases h1 : k < l.length
    · have h1z : (k : Int) < (l.length : Int) := by omega
      have k0 : (0 : Int) ≤ (k : Int) := by omega
      have hI := HX.out.1
      rw [← HW.out] at hI
      obtain ⟨bk, off, rfl, -, r1, r2⟩ := hI.at_ h1
      rw [← spn_get l h1] at r1 r2
      obtain ⟨x, ex⟩ : ∃ x, x = spn l k := ⟨_, rfl⟩
      rw [← ex] at r1 r2
      by_cases hkN : k < N
      · have ho := HX.out.2.1.ahead k hkN
        rw [← ex] at ho
        clear ex hI
        by_cases h2 : x.1 ≤ n
        · have h2z : (x.1 : Int) ≤ (n : Int) := by omega
          have h3z : ¬ (n : Int) < (x.2 : Int) := fun h => ho ⟨h2, by omega⟩
          clear ho
          go_wp2
          go_roundw
          case rel => exact ⟨k + 1, by go_num, hkN, HW⟩
          case measure => simp [intOf]; omega
        · have h2z : ¬ (x.1 : Int) ≤ (n : Int) := by omega
          clear ho
          go_wp2
          go_roundw
          case rel => exact ⟨k + 1, by go_num, hkN, HW⟩
          case measure => simp [intOf]; omega
      · obtain rfl : k = N := by omega
        have ho := HX.out.2.1.here h1
        rw [← ex] at ho
        obtain rfl : b = true := by rw [HX.out.2.2]; exact decide_eq_true h1
        have h2z : (x.1 : Int) ≤ (n : Int) := by have := ho.1; omega
        have h3z : (n : Int) < (x.2 : Int) := by have := ho.2; omega
        clear ex hI ho
        go_wp2
        go_ret
        exact ⟨rfl, HW.out.symm⟩
    · have h1z : ¬ (k : Int) < (l.length : Int) := by omega
      obtain rfl : b = false := by rw [HX.out.2.2]; exact decide_eq_false (by omega)
      go_wp2
      go_ret
      exact ⟨rfl, HW.out.symm⟩
set_option maxRecDepth 100000 in
set_option maxHeartbeats 2000000 in
theorem rgap_any (n : Nat) (hm : l.length ≤ 1000000) (hI : SpAt w.heap.size w A l) : ∃ r, GapP l n r ∧ Calls Try.prog 21 #[.slice A l.length cap, .int .u64 (n : Int)] w fun e w' => e = .returned (.int .u64 (r : Int)) ∧ Below w.heap.size w w' := by
  have c0 := rmay_any (cap := cap) hm hI
  cases hmy : mayB l with
  | false =>
    refine ⟨0, .inl ⟨hmy, rfl⟩, ?_⟩
    rw [hmy] at c0
    clear hI hmy
    go_enter Try.func21, Try.ntmps21
    go_wp2_with fail
    refine c0.mono ?_
    rintro e w2 ⟨rfl, hb⟩
    go_wp2
    go_ret
    exact ⟨rfl, hb⟩
  | true =>
    obtain ⟨N, hN⟩ := stopH l n
    obtain ⟨r, er⟩ : ∃ r : Nat, r = if N < l.length then (spn l N).2 else n := ⟨_, rfl⟩
    refine ⟨r, .inr ⟨hmy, ?_⟩, ?_⟩
    · by_cases h : N < l.length
      · rw [if_pos h] at er
        have := hN.here h
        rw [spn_get l h] at this er
        exact .inl ⟨_, List.getElem_mem h, this, er⟩
      · rw [if_neg h] at er
        exact .inr ⟨fun hc => h (hN.cov.1 hc), er⟩
    have lm : (l.length : Int) ≤ 1000000 := by omega
    have hNl := hN.le
    have HX := Lib.hid (And.intro hI (And.intro hN er))
    rw [hmy] at c0
    clear hI hN er hmy
    go_enter Try.func21, Try.ntmps21
    go_wp2_with fail
    refine c0.mono ?_
    rintro e w2 ⟨rfl, hb2⟩
    have HB2 := Lib.hid hb2
    clear hb2 c0
    go_wp2
    go_loopw [5] (fun i wr => ∃ k : Nat, i = .int .i64 k ∧ k ≤ N ∧ Hid (Below w.heap.size w wr)) (fun i _ => l.length - (intOf i).toNat)
    case atStart => exact ⟨0, rfl, Nat.zero_le _, HB2⟩
    case round =>
      clear HB2
      obtain ⟨k, rfl, hk, HW⟩ := hrel
      by_cases h1 : k < l.length
      · have h1z : (k : Int) < (l.length : Int) := by omega
        have k0 : (0 : Int) ≤ (k : Int) := by omega
        obtain ⟨bk, off, rfl, -, r1, r2⟩ := (HX.out.1.below HW.out).at_ h1
        rw [← spn_get l h1] at r1 r2
        obtain ⟨x, ex⟩ : ∃ x, x = spn l k := ⟨_, rfl⟩
        rw [← ex] at r1 r2
        by_cases hkN : k < N
        · have ho := HX.out.2.1.ahead k hkN
          rw [← ex] at ho
          clear ex
          by_cases h2 : x.1 ≤ n
          · have h2z : (x.1 : Int) ≤ (n : Int) := by omega
            have h3z : ¬ (n : Int) < (x.2 : Int) := fun h => ho ⟨h2, by omega⟩
            clear ho
            go_wp2
            go_roundw
            case rel => exact ⟨k + 1, by go_num, hkN, HW⟩
            case measure => simp [intOf]; omega
          · have h2z : ¬ (x.1 : Int) ≤ (n : Int) := by omega
            clear ho
            go_wp2
            go_roundw
            case rel => exact ⟨k + 1, by go_num, hkN, HW⟩
            case measure => simp [intOf]; omega
        · obtain rfl : k = N := by omega
          have ho := HX.out.2.1.here h1
          rw [← ex] at ho
          obtain rfl : r = x.2 := by rw [HX.out.2.2, if_pos h1, ← ex]
          have h2z : (x.1 : Int) ≤ (n : Int) := by have := ho.1; omega
          have h3z : (n : Int) < (x.2 : Int) := by have := ho.2; omega
          clear ex ho
          go_wp2
          go_ret
          exact ⟨rfl, HW.out⟩
      · have h1z : ¬ (k : Int) < (l.length : Int) := by omega
        obtain rfl : r = n := by rw [HX.out.2.2, if_neg (by omega)]
        go_wp2
        go_ret
        exact ⟨rfl, HW.out⟩
end
end Go.Proofs.Ytnnpahjopfkchaa
