/- Contracts of layer 21 (lead): lead.Of, the document's answer, alive. -/
import Derived.Test.YthichhoiegkcjaaBase
import Derived.Test.YthichhoiegkcjaaLeadPlain
set_option linter.unusedVariables false
set_option linter.unusedSimpArgs false
namespace Go.Proofs.Ythichhoiegkcjaa
open Go.RowKit

theorem alike_any (a b : ByteArray) (w : World) (ha : a.size ≤ maxLen) (hb : b.size ≤ maxLen) :
    Calls Try.prog 24 #[.string a, .string b] w fun e w' => e = .returned (.int .i64 (lcp a.data.toList b.data.toList)) ∧ ∃ n, w' = w.drewN n := by
  unfold maxLen at ha hb
  have l1 : lcp a.data.toList b.data.toList ≤ a.size := lcp_le_left _ _
  have l2 : lcp a.data.toList b.data.toList ≤ b.size := lcp_le_right _ _
  go_enter Try.func24, Try.ntmps24
  go_wp2
  go_loopw [4] (fun i wr => ∃ k : Nat, k ≤ lcp a.data.toList b.data.toList ∧ i = .int .i64 k ∧ ∃ n, wr = w.drewN n) (fun i _ => a.size - (intOf i).toNat)
  case atStart => exact ⟨0, Nat.zero_le _, rfl, 0, rfl⟩
  case round =>
    obtain ⟨k, hk, rfl, n, rfl⟩ := hrel
    by_cases h1 : k < a.size
    · by_cases h2 : k < b.size
      · have hs := lcp_step a.data.toList b.data.toList k (by simpa using h1) (by simpa using h2) hk
        have ea : a.data.toList[k]'(by simpa using h1) = a[k] := rfl
        have eb : b.data.toList[k]'(by simpa using h2) = b[k] := rfl
        rw [ea, eb] at hs
        clear ea eb
        by_cases h3 : a[k] = b[k]
        · have hk1 := hs.1 h3
          have h3' : ((a[k].toNat : Int) == (b[k].toNat : Int)) = true := by rw [h3]; simp
          clear hs h3
          go_wp2
          go_quiet (fail)
          go_wp2
          go_roundw
          case rel => exact ⟨k + 1, hk1, by go_num, _, rfl⟩
          case measure => simp [intOf]; omega
        · have hk1 := hs.2 h3
          have h3' : ((a[k].toNat : Int) == (b[k].toNat : Int)) = false := by
            simp only [beq_eq_false_iff_ne, ne_eq, Int.natCast_inj]
            intro e
            exact h3 (UInt8.toNat_inj.1 e)
          have HK := Lib.hid hk1
          clear hs hk1
          go_wp2
          go_quiet (fail)
          go_wp2
          go_ret
          exact ⟨ret_nat HK.out, _, World.drewN_drewN ..⟩
      · have hk1 : k = lcp a.data.toList b.data.toList := by omega
        have HK := Lib.hid hk1
        clear hk1
        have h2' : decide (k < b.size) = false := by simpa using h2
        go_wp2
        go_quiet (fail)
        go_wp2
        go_ret
        exact ⟨ret_nat HK.out, _, World.drewN_drewN ..⟩
    · have hk1 : k = lcp a.data.toList b.data.toList := by omega
      have HK := Lib.hid hk1
      clear hk1
      have h1' : decide (k < a.size) = false := by simpa using h1
      go_wp2
      go_quiet (fail)
      go_wp2
      go_ret
      exact ⟨ret_nat HK.out, _, World.drewN_drewN ..⟩
theorem of_any (a b : ByteArray) (o : Bool) (w : World) (ha : a.size ≤ maxLen) (hb : b.size ≤ maxLen) (v : Int) (hv : leadOf a.data.toList b.data.toList o = v) :
    Calls Try.prog 11 #[.string a, .string b, .bool o] w fun e w' => e = .returned (.int .u8 v) ∧ ∃ n, w' = w.drewN n := by
  have r1 := lcp_right a.data.toList b.data.toList
  have r2 := lcp_lt a.data.toList b.data.toList
  have l1 : lcp a.data.toList b.data.toList ≤ a.size := lcp_le_left _ _
  have l2 : lcp a.data.toList b.data.toList ≤ b.size := lcp_le_right _ _
  have hsa : a.data.toList.length = a.size := rfl
  have hsb : b.data.toList.length = b.size := rfl
  rw [hsb] at r1
  rw [hsa] at r2
  unfold leadOf at hv
  have A := fun w => alike_any a b w ha hb
  have HA := Lib.hid A
  clear A hsa hsb
  unfold maxLen at ha hb
  generalize lcp a.data.toList b.data.toList = c at *
  by_cases h1 : c = b.size
  · have hv' : v = 2 := by rw [if_pos (r1.1 h1)] at hv; exact hv.symm
    subst hv'
    have t1 : ((c : Int) == (b.size : Int)) = true := beq_iff_eq.2 (by omega)
    clear hv r1 r2 h1
    go_enter Try.func11, Try.ntmps11
    go_wp2_with fail
    refine (HA.out _).mono ?_
    rintro e w' ⟨rfl, n, rfl⟩
    go_wp2
    go_ret
    exact ⟨rfl, _, rfl⟩
  · have t1 : ((c : Int) == (b.size : Int)) = false := beq_eq_false_iff_ne.2 (by omega)
    rw [if_neg (fun h => h1 (r1.2 h))] at hv
    by_cases h2 : c < a.size
    · have hv' : v = 1 := by rw [if_neg (fun h => r2.1 h2 h.1)] at hv; exact hv.symm
      subst hv'
      have t2 : decide (c < a.size) = true := by simpa using h2
      clear hv r1 r2 h1
      go_enter Try.func11, Try.ntmps11
      go_wp2_with fail
      refine (HA.out _).mono ?_
      rintro e w' ⟨rfl, n, rfl⟩
      go_wp2
      go_ret
      exact ⟨rfl, _, rfl⟩
    · have t2 : decide (c < a.size) = false := by simpa using h2
      have h3 : a.data.toList <+: b.data.toList := by
        apply Classical.byContradiction
        intro h
        exact h2 (r2.2 h)
      cases o
      · have hv' : v = 0 := by rw [if_pos ⟨h3, rfl⟩] at hv; exact hv.symm
        subst hv'
        clear hv r1 r2 h1 h3
        go_enter Try.func11, Try.ntmps11
        go_wp2_with fail
        refine (HA.out _).mono ?_
        rintro e w' ⟨rfl, n, rfl⟩
        go_wp2
        go_ret
        exact ⟨rfl, _, rfl⟩
      · have hv' : v = 1 := by rw [if_neg (by simp)] at hv; exact hv.symm
        subst hv'
        clear hv r1 r2 h1 h3
        go_enter Try.func11, Try.ntmps11
        go_wp2_with fail
        refine (HA.out _).mono ?_
        rintro e w' ⟨rfl, n, rfl⟩
        go_wp2
        go_ret
        exact ⟨rfl, _, rfl⟩

theorem alive_lead (w : World) : Calls Try.prog 10 #[] w fun e w' => e = .returned (.bool true) ∧ ∃ n, w' = w.drewN n := by
  go_enter Try.func10, Try.ntmps10
  go_wp2_with fail
  refine (of_any _ _ _ _ (by decide) (by decide) 0 (by decide)).mono ?_
  rintro e w' ⟨rfl, n1, rfl⟩
  go_wp2_with fail
  refine (of_any _ _ _ _ (by decide) (by decide) 1 (by decide)).mono ?_
  rintro e w' ⟨rfl, n2, rfl⟩
  go_wp2_with fail
  refine (of_any _ _ _ _ (by decide) (by decide) 2 (by decide)).mono ?_
  rintro e w' ⟨rfl, n3, rfl⟩
  go_wp2_with fail
  refine (of_any _ _ _ _ (by decide) (by decide) 1 (by decide)).mono ?_
  rintro e w' ⟨rfl, n4, rfl⟩
  go_wp2_with fail
  refine (of_any _ _ _ _ (by decide) (by decide) 2 (by decide)).mono ?_
  rintro e w' ⟨rfl, n5, rfl⟩
  go_wp2
  go_ret
  exact ⟨rfl, _, rfl⟩
theorem ref_of_any (a b : ByteArray) (o : Bool) (w : World) (ha : a.size ≤ maxLen) (hb : b.size ≤ maxLen) (v : Int) (hv : leadOf a.data.toList b.data.toList o = v) :
    Calls Try.prog 12 #[.string a, .string b, .bool o] w fun e w' => e = .returned (.int .u8 v) ∧ ∃ n, w' = w.drewN n := by
  have r1 := lcp_right a.data.toList b.data.toList
  have r2 := lcp_lt a.data.toList b.data.toList
  have l1 : lcp a.data.toList b.data.toList ≤ a.size := lcp_le_left _ _
  have l2 : lcp a.data.toList b.data.toList ≤ b.size := lcp_le_right _ _
  have hsa : a.data.toList.length = a.size := rfl
  have hsb : b.data.toList.length = b.size := rfl
  rw [hsb] at r1
  rw [hsa] at r2
  unfold leadOf at hv
  have hyes : lcp a.data.toList b.data.toList = b.size → v = 2 := fun h => by rw [if_pos (r1.1 h)] at hv; exact hv.symm
  have hno : lcp a.data.toList b.data.toList ≠ b.size → (lcp a.data.toList b.data.toList < a.size ∨ o = true) → v = 1 := fun h h' => by
    rw [if_neg (fun k => h (r1.2 k)), if_neg] at hv
    · exact hv.symm
    · rintro ⟨k1, k2⟩
      rcases h' with h' | h'
      · exact r2.1 h' k1
      · rw [k2] at h'; cases h'
  have hun : lcp a.data.toList b.data.toList ≠ b.size → ¬ lcp a.data.toList b.data.toList < a.size → o = false → v = 0 := fun h h' h'' => by
    rw [if_neg (fun k => h (r1.2 k)), if_pos] at hv
    · exact hv.symm
    · exact ⟨Classical.byContradiction fun k => h' (r2.2 k), h''⟩
  have Hyes := Lib.hid hyes
  have Hno := Lib.hid hno
  have Hun := Lib.hid hun
  clear hyes hno hun hv r1 r2 hsa hsb
  unfold maxLen at ha hb
  go_enter Try.func12, Try.ntmps12
  go_wp2
  go_loopw [7] (fun i wr => ∃ k : Nat, k ≤ lcp a.data.toList b.data.toList ∧ i = .int .i64 k ∧ ∃ n, wr = w.drewN n) (fun i _ => b.size - (intOf i).toNat)
  case atStart => exact ⟨0, Nat.zero_le _, rfl, 0, rfl⟩
  case round =>
    obtain ⟨k, hk, rfl, n, rfl⟩ := hrel
    by_cases h2 : k < b.size
    · by_cases h1 : k < a.size
      · have hs := lcp_step a.data.toList b.data.toList k (by simpa using h1) (by simpa using h2) hk
        have ea : a.data.toList[k]'(by simpa using h1) = a[k] := rfl
        have eb : b.data.toList[k]'(by simpa using h2) = b[k] := rfl
        rw [ea, eb] at hs
        clear ea eb
        by_cases h3 : a[k] = b[k]
        · have hk1 := hs.1 h3
          have h3' : ((a[k].toNat : Int) != (b[k].toNat : Int)) = false := by rw [h3]; simp
          clear hs h3
          go_wp2
          go_quiet (fail)
          go_wp2
          go_roundw
          case rel => exact ⟨k + 1, hk1, by go_num, _, rfl⟩
          case measure => simp [intOf]; omega
        · have hk1 := hs.2 h3
          have h3' : ((a[k].toNat : Int) != (b[k].toNat : Int)) = true := by
            rw [bne_iff_ne]
            intro e
            exact h3 (UInt8.toNat_inj.1 (by omega))
          have hv' : v = 1 := Hno.out (by omega) (.inl (by omega))
          subst hv'
          clear hs hk1
          go_wp2
          go_quiet (fail)
          go_wp2
          go_ret
          exact ⟨rfl, _, World.drewN_drewN ..⟩
      · cases o
        · have hv' : v = 0 := Hun.out (by omega) (by omega) rfl
          subst hv'
          go_wp2
          go_ret
          exact ⟨rfl, _, rfl⟩
        · have hv' : v = 1 := Hno.out (by omega) (.inr rfl)
          subst hv'
          go_wp2
          go_ret
          exact ⟨rfl, _, rfl⟩
    · have hv' : v = 2 := Hyes.out (by omega)
      subst hv'
      go_wp2
      go_ret
      exact ⟨rfl, _, rfl⟩
end Go.Proofs.Ythichhoiegkcjaa
