/- slices.breakPatternsOrdered at uint64; its callees nextPowerOfTwo, xorshift's Next, bits.Len (Len64's walk: the shelf's template, turned). -/
import Derived.Test.YtlikngepcbmhdaaSqPivot
import Derived.Sort.Walk7
import Derived.BigRegion
import Derived.Test.YtlikngepcbmhdaaLen
set_option linter.unusedVariables false
set_option linter.unusedSimpArgs false
namespace Go.Proofs.Ytlikngepcbmhdaa.S64
open Go.RowKit Go.BigFrame

set_option maxHeartbeats 4000000 in
theorem xnext_any (rb X : Nat) (hX : X < 18446744073709551616) (w : World) (hc : w.cell? ⟨rb, 0, none⟩ = some (.int .u64 X)) (hf : w.frozen? ⟨rb, 0, none⟩ = false) :
    Calls Try.prog 54 #[.pointer (some ⟨rb, 0, none⟩)] w fun e w' => e = .returned (.int .u64 (Sort.xorNextN X : Nat)) ∧ w' = (w.setCell ⟨rb, 0, none⟩ (.int .u64 (Sort.xorNextN X : Nat))).drewN 3 := by
  obtain ⟨A, hA⟩ : ∃ A : Nat, A = X ^^^ (X * 8192 % 18446744073709551616) := ⟨_, rfl⟩
  obtain ⟨B, hB⟩ : ∃ B : Nat, B = A ^^^ (A / 128) := ⟨_, rfl⟩
  obtain ⟨C, hC⟩ : ∃ C : Nat, C = B ^^^ (B * 131072 % 18446744073709551616) := ⟨_, rfl⟩
  have lA : A < 18446744073709551616 := by rw [hA]; exact Nat.xor_lt_two_pow (n := 64) (by omega) (by omega)
  have lB : B < 18446744073709551616 := by rw [hB]; exact Nat.xor_lt_two_pow (n := 64) (by omega) (by omega)
  have e1 : bits .xor .u64 (X : Int) (IntKind.u64.wrap ((X : Int) * 8192)) = (A : Int) := by
    rw [IntKind.wrap_u64, show ((X : Int) * 8192 % 18446744073709551616) = ((X * 8192 % 18446744073709551616 : Nat) : Int) by omega, bits_xor_u64_nat _ _ hX (by omega), hA]
  have e2 : bits .xor .u64 (A : Int) ((A : Int) / 128) = (B : Int) := by
    rw [show ((A : Int) / 128) = ((A / 128 : Nat) : Int) by omega, bits_xor_u64_nat _ _ lA (by omega), hB]
  have e3 : bits .xor .u64 (B : Int) (IntKind.u64.wrap ((B : Int) * 131072)) = (C : Int) := by
    rw [IntKind.wrap_u64, show ((B : Int) * 131072 % 18446744073709551616) = ((B * 131072 % 18446744073709551616 : Nat) : Int) by omega, bits_xor_u64_nat _ _ lB (by omega), hC]
  have hv : Sort.xorNextN X = C := by unfold Sort.xorNextN; simp only []; rw [← hA, ← hB, ← hC]
  rw [hv]
  clear hA hB hC hv
  have hss : ∀ v v', (w.setCell ⟨rb, 0, none⟩ v).setCell ⟨rb, 0, none⟩ v' = w.setCell ⟨rb, 0, none⟩ v' := setCell_setCell w rb 0
  go_enter Try.func54, Try.ntmps54
  go_wp2
  go_region
  all_goals go_wp2
  all_goals go_region
  all_goals go_wp2
  all_goals go_region
  all_goals go_wp2
  go_ret
  exact ⟨rfl, rfl⟩
theorem npot_any (n : Nat) (hn : n ≤ 1000000) (w : World) :
    Calls Try.prog 53 #[.int .i64 n] w fun e w' => e = .returned (.int .u64 ((1 <<< Sort.bitsLen n : Nat) : Int)) ∧ w' = w := by
  have hLen : ∀ w, Calls Try.prog 40 #[.int .u64 (n : Int)] w fun e w' => e = .returned (.int .i64 (Sort.bitsLen n : Nat)) ∧ w' = w := fun w => by
    have h := len_any (n : Int) w (by omega) (by omega)
    rwa [Int.toNat_natCast, bitLen_eq _ (by omega)] at h
  have hk : Sort.bitsLen n ≤ 62 := (Sort.bitsLen_le_iff n 62).2 (by omega)
  have hp := wrap_two_pow (Sort.bitsLen n) hk
  go_enter Try.func53, Try.ntmps53
  go_wp2_with (first | (go_at_call 40; refine (hLen _).mono ?_; rintro e w' ⟨rfl, rfl⟩))
  go_ret
  exact ⟨rfl, rfl⟩
/-- a round of breakPatterns: the row, the source of numbers (block c, new) -/
def Bp (w wr : World) (g off n : Nat) (dk : Array Int) (c R : Nat) : Prop := At w wr g off n dk ∧ Blk wr c 104 #[.int .u64 R] ∧ c ≠ g ∧ w.heap.size ≤ c
section
variable {w wr : World} {g off n c R : Nat} {dk : Array Int}
theorem Bp.cell (h : Bp w wr g off n dk c R) : wr.cell? ⟨c, 0, none⟩ = some (.int .u64 R) := h.2.1.cell 0
theorem Bp.frozen (h : Bp w wr g off n dk c R) : wr.frozen? ⟨c, 0, none⟩ = false := h.2.1.frozen 0
theorem Bp.next (h : Bp w wr g off n dk c R) (R' : Nat) (q : Nat) : Bp w ((wr.setCell ⟨c, 0, none⟩ (.int .u64 R')).drewN q) g off n dk c R' :=
  ⟨⟨h.1.1, h.1.2.1.of_eq (Below.heap_setCell _ _ _ g (fun e => h.2.2.1 e.symm)), only_drewN (only_setCell h.1.2.2 (.inr h.2.2.2) _) q⟩, (h.2.1.set_ 0 _).drewN q, h.2.2⟩
theorem Bp.swap (h : Bp w wr g off n dk c R) {i j : Nat} (hi : i < n) (hj : j < n) : Bp w ((wr.setCell ⟨g, off + i, none⟩ (.int .u64 dk[j]!)).setCell ⟨g, off + j, none⟩ (.int .u64 dk[i]!)) g off n (Sort.swp dk i j) c R :=
  ⟨h.1.swap hi hj, (h.2.1.far h.2.2.1 _).far h.2.2.1 _, h.2.2⟩
theorem Bp.drew (h : Bp w wr g off n dk c R) : Bp w wr.drew g off n dk c R := ⟨h.1.drew, h.2.1.drew, h.2.2⟩
theorem Bp.new (h : RowK w g off dk) (hn : dk.size = n) (R : Nat) : Bp w (w.alloc (.cells #[.int .u64 R] 104)) g off n dk w.heap.size R :=
  ⟨⟨hn, h.of_eq (Below.heap_alloc w _ g h.lt), only_alloc (World.grownBy.refl _ _) _⟩, Blk.new w _ _, Nat.ne_of_gt h.lt, Nat.le_refl _⟩
end
set_option maxHeartbeats 4000000 in
set_option maxRecDepth 100000 in
theorem brk_any (g off cap a b : Nat) (d : Array Int) (w : World) (hr : RowK w g off d) (hab : a ≤ b) (hb : b ≤ d.size) (hsz : d.size ≤ 1000000) :
    Calls Try.prog 43 #[.slice (some ⟨g, off, none⟩) d.size cap, .int .i64 a, .int .i64 b] w fun e w' => e = .returned (.tuple #[]) ∧ RowK w' g off (Sort.breakPatterns d a b) ∧ w.grownBy w' (some g) := by
  obtain ⟨L, rfl⟩ : ∃ L, b = a + L := ⟨b - a, by omega⟩
  by_cases h8 : 8 ≤ L
  · rw [breakPatterns_eq d a L h8]
    obtain ⟨M, hM⟩ : ∃ M : Nat, M = 1 <<< Sort.bitsLen L := ⟨_, rfl⟩
    have hM1 : 1 ≤ M := by rw [hM, Nat.one_shiftLeft]; exact Nat.two_pow_pos _
    have hM2 : M ≤ 2 * L := by rw [hM, Nat.one_shiftLeft]; exact Sort.two_pow_bitsLen_le (by omega)
    have hNP : ∀ w, Calls Try.prog 53 #[.int .i64 (L : Int)] w fun e w' => e = .returned (.int .u64 (M : Int)) ∧ w' = w := by rw [hM]; exact fun w => npot_any L (by omega) w
    rw [← hM]
    clear hM
    have h0 := Bp.new (n := d.size) hr rfl L
    obtain ⟨n, hn⟩ : ∃ n, n = d.size := ⟨_, rfl⟩
    rw [← hn] at hb hsz h0 ⊢
    obtain ⟨D, hD⟩ : ∃ D, D = bpRest a L M (a + L / 4 * 2 - 1) 3 0 (UInt64.ofNat L, d) := ⟨_, rfl⟩
    rw [← hD]
    have hL64 : (UInt64.ofNat L).toNat = L := by simp; omega
    have H0 := Lib.hid h0
    clear h0
    have HD := Lib.hid hD
    clear hD
    have HL64 := Lib.hid hL64
    clear hL64
    clear hn hr
    go_enter Try.func43, Try.ntmps43
    go_wp2_with (first | (go_at_call 53; rw [show ((a : Int) + (L : Int) - (a : Int)) = (L : Int) by omega]; refine (hNP _).mono ?_; rintro e w' ⟨rfl, rfl⟩))
    go_loopw [9] (fun vi wr => ∃ (t : Nat) (r : UInt64) (dk : Array Int), vi = .int .i64 ((a + L / 4 * 2 - 1 + t : Nat) : Int) ∧ t ≤ 3 ∧ Hid (Bp w wr g off n dk w.heap.size r.toNat) ∧ Hid (bpRest a L M (a + L / 4 * 2 - 1) (3 - t) t (r, dk) = D)) (fun vi _ => a + L / 4 * 2 + 3 - (intOf vi).toNat)
    case atStart => exact ⟨0, UInt64.ofNat L, d, by congr 1; omega, by omega, Lib.hid (by rw [HL64.out]; exact H0.out), Lib.hid HD.out.symm⟩
    case round =>
      clear H0 HD HL64
      obtain ⟨t, r, dk, rfl, ht, HB, HR⟩ := hrel
      obtain ⟨R, hRr⟩ : ∃ R : Nat, R = r.toNat := ⟨_, rfl⟩
      have lR : R < 18446744073709551616 := by rw [hRr]; exact r.toNat_lt
      obtain ⟨R', hR'⟩ : ∃ R' : Nat, R' = Sort.xorNextN R := ⟨_, rfl⟩
      have lR' : R' < 18446744073709551616 := by rw [hR']; exact Sort.xorNextN_lt R lR
      obtain ⟨O, hO⟩ : ∃ O : Nat, O = R' &&& (M - 1) := ⟨_, rfl⟩
      have lO : O ≤ M - 1 := by rw [hO]; exact Nat.and_le_right
      have eAnd : bits .and .u64 (R' : Int) ((M : Int) - 1) = (O : Int) := by
        rw [show ((M : Int) - 1) = ((M - 1 : Nat) : Int) by omega, bits_and_u64_nat _ _ lR' (by omega), hO]
      have hNext : Calls Try.prog 54 #[.pointer (some ⟨w.heap.size, 0, none⟩)] wr fun e w' => e = .returned (.int .u64 (R' : Int)) ∧ Hid (Bp w w' g off n dk w.heap.size R') := by
        rw [hR', hRr]
        refine (xnext_any _ _ (by rw [← hRr]; exact lR) wr HB.out.cell HB.out.frozen).mono ?_
        rintro e w' ⟨rfl, rfl⟩
        exact ⟨rfl, Lib.hid (HB.out.next _ 3)⟩
      have HN : Hid (R' = (Sort.xorNext r).toNat ∧ O = (Sort.xorNext r).toNat &&& (M - 1)) := by
        have e : R' = (Sort.xorNext r).toNat := by rw [hR', hRr, Sort.xorNext_toNat]
        exact ⟨e, by rw [hO, e]⟩
      obtain ⟨G, hG⟩ : ∃ G : Nat → Int, ∀ x, G x = dk[x]! := ⟨fun x => dk[x]!, fun _ => rfl⟩
      have HG := Lib.hid hG
      clear hG
      clear hRr hR' hO
      by_cases ht3 : t < 3
      · have hz3 : ((a + L / 4 * 2 - 1 + t : Nat) : Int) ≤ (a : Int) + (L : Int) / 4 * 2 + 1 := by omega
        by_cases hLO : L ≤ O
        · by_cases hEq : a + L / 4 * 2 - 1 + t = a + (O - L)
          all_goals
            go_wp2_with (first | (go_at_call 54; refine hNext.mono ?_; rintro e w1 ⟨rfl, HB1⟩; have hcw := HB1.out.1.cell G HG.out; have hfw := HB1.out.1.frozen))
            go_region
            all_goals go_wp2
            go_roundw
            case rel =>
              refine ⟨t + 1, Sort.xorNext r, Sort.swp dk (a + L / 4 * 2 - 1 + t) (a + (O - L)), by first | rfl | (congr 1 <;> omega), by omega, Lib.hid ?_, Lib.hid ?_⟩
              · (try rw [hEq])
                simp only [HG.out]
                rw [← HN.out.1]
                exact (HB1.out.swap (by omega) (by omega)).drew
              · rw [← HR.out, bp_step a L M _ t r dk (O - L) (by omega) (by rw [← HN.out.2, if_pos (by omega)])]
            case measure => simp [intOf]; omega
        · by_cases hEq : a + L / 4 * 2 - 1 + t = a + O
          all_goals
            go_wp2_with (first | (go_at_call 54; refine hNext.mono ?_; rintro e w1 ⟨rfl, HB1⟩; have hcw := HB1.out.1.cell G HG.out; have hfw := HB1.out.1.frozen))
            go_region
            all_goals go_wp2
            go_roundw
            case rel =>
              refine ⟨t + 1, Sort.xorNext r, Sort.swp dk (a + L / 4 * 2 - 1 + t) (a + O), by first | rfl | (congr 1 <;> omega), by omega, Lib.hid ?_, Lib.hid ?_⟩
              · (try rw [hEq])
                simp only [HG.out]
                rw [← HN.out.1]
                exact (HB1.out.swap (by omega) (by omega)).drew
              · rw [← HR.out, bp_step a L M _ t r dk (O) (by omega) (by rw [← HN.out.2, if_neg (by omega)])]
            case measure => simp [intOf]; omega
      · have hz3 : ¬ ((a + L / 4 * 2 - 1 + t : Nat) : Int) ≤ (a : Int) + (L : Int) / 4 * 2 + 1 := by omega
        obtain rfl : t = 3 := by omega
        go_wp2
        go_end0
        exact ⟨rfl, HB.out.1.end_ HR.out⟩
  · have e : Sort.breakPatterns d a (a + L) = d := by
      unfold Sort.breakPatterns
      simp only [Nat.add_sub_cancel_left]
      rw [if_neg (by omega)]
    rw [e]
    have Hr := Lib.hid hr
    clear hr
    go_enter Try.func43, Try.ntmps43
    go_wp2
    go_end0
    exact ⟨rfl, Hr.out, World.grownBy.refl _ _⟩
end Go.Proofs.Ytlikngepcbmhdaa.S64
