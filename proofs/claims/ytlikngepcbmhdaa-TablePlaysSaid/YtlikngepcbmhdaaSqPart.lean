/- slices.partitionEqualOrdered, partitionOrdered at uint64 (printed by gen_sopart.py). -/
import Derived.Test.YtlikngepcbmhdaaSqHeap
import Derived.Sort.WalkC4
set_option linter.unusedVariables false
set_option linter.unusedSimpArgs false
namespace Go.Proofs.Ytlikngepcbmhdaa.S64
open Go.RowKit Go.BigFrame

-- the first exchange: data[a], data[pivot]; $1: the slots' region behind it
set_option maxHeartbeats 16000000 in
set_option maxRecDepth 100000 in
theorem peq_any (g off cap a b pivot : Nat) (d : Array Int) (w : World) (hr : RowK w g off d) (hap : a ≤ pivot) (hpb : pivot < b) (hb : b ≤ d.size) (hsz : d.size ≤ 1000000) :
    Calls Try.prog 48 #[.slice (some ⟨g, off, none⟩) d.size cap, .int .i64 a, .int .i64 b, .int .i64 pivot] w fun e w' => e = .returned (.int .i64 (Sort.partitionEqual Sort.ltInt d a b pivot).1) ∧ RowK w' g off (Sort.partitionEqual Sort.ltInt d a b pivot).2 ∧ w.grownBy w' (some g) := by
  obtain ⟨n, hn⟩ : ∃ n, n = d.size := ⟨_, rfl⟩
  have ha := At.refl hr hn.symm
  rw [← hn] at hb hsz ⊢
  clear hr hn
  have hla : a < n := by omega
  have hlp : pivot < n := by omega
  obtain ⟨E, hE⟩ : ∃ E, E = Sort.partEqLoop Sort.ltInt a (a + 1) (b - 1) (Sort.swp d a pivot) := ⟨_, rfl⟩
  have hE' : Sort.partitionEqual Sort.ltInt d a b pivot = E := by rw [hE]; rfl
  rw [hE']
  clear hE'
  have HE := Lib.hid hE
  clear hE
  obtain ⟨F, hF⟩ : ∃ F : Nat → Int, ∀ t, F t = d[t]! := ⟨fun t => d[t]!, fun _ => rfl⟩
  have hcw := ha.cell F hF
  have hfw := ha.frozen
  have hs0 := (ha.swap (i := a) (j := pivot) hla hlp).drew
  rw [← hF] at hs0
  try rw [← hF] at hs0
  have Ha := Lib.hid ha
  clear ha
  have HF := Lib.hid hF
  clear hF
  by_cases hone : a = pivot
  · subst hone
    go_enter Try.func48, Try.ntmps48
    go_wp2
    go_region
    go_wp2
    go_loopw [9, 10] (fun vi vj wr => ∃ (i j : Nat) (dk : Array Int), vi = .int .i64 i ∧ vj = .int .i64 j ∧ a < i ∧ i ≤ j + 1 ∧ j < b ∧ Hid (At w wr g off n dk) ∧ Hid (Sort.partEqLoop Sort.ltInt a i j dk = E)) (fun vi vj _ => (intOf vj).toNat + 1 - (intOf vi).toNat)
    case atStart => exact ⟨a + 1, b - 1, _, by go_num, by go_num, by omega, by omega, by omega, Lib.hid hs0, Lib.hid HE.out.symm⟩
    case round =>
      clear hs0 hcw hfw HE Ha HF
      obtain ⟨i, j, dk, rfl, rfl, hai, hij, hjb, HA, HE⟩ := hrel
      obtain ⟨G, hG⟩ : ∃ G : Nat → Int, ∀ t, G t = dk[t]! := ⟨fun t => dk[t]!, fun _ => rfl⟩
      have HG := Lib.hid hG
      clear hG
      go_wp2
      go_loopw [9] (fun vi w1 => ∃ i' : Nat, vi = .int .i64 i' ∧ i ≤ i' ∧ i' ≤ j + 1 ∧ Hid (At w w1 g off n dk) ∧ Hid (Sort.scanUp (fun x => !Sort.ltInt dk[a]! x) dk j i' = Sort.scanUp (fun x => !Sort.ltInt dk[a]! x) dk j i)) (fun vi _ => j + 1 - (intOf vi).toNat)
      case atStart => exact ⟨i, rfl, Nat.le_refl _, hij, HA, Lib.hid rfl⟩
      case round =>
        clear HA
        obtain ⟨i', rfl, hii, hij', HA, HS⟩ := hrel
        have hcw := HA.out.cell G HG.out
        by_cases hle : i' ≤ j
        · go_wp2_with fail
          go_big_quiet (first | (go_at_call 47; refine Calls.quiet_of_same (less_any _ _ _)))
          go_wp2
          · have ht : (!Sort.ltInt (G a) (G i')) = true := by assumption
            go_roundw
            case rel => exact ⟨i' + 1, by go_num, by omega, by omega, Lib.hid (HA.out.drewN nq), Lib.hid ((scanUp_go (fun x => !Sort.ltInt dk[a]! x) dk j i' hle (by rw [← HG.out, ← HG.out]; exact ht)).symm.trans HS.out)⟩
            case measure => simp [intOf]; omega
          · have ht : (!Sort.ltInt (G a) (G i')) = false := by assumption
            have hi2 := Lib.hid ((scanUp_end (fun x => !Sort.ltInt dk[a]! x) dk j i' (Or.inr (by rw [← HG.out, ← HG.out]; exact ht))).symm.trans HS.out)
            clear ht
            have HA2 := Lib.hid (HA.out.drewN nq)
            clear HA hcw
            generalize wr.drewN nq = wr2 at HA2 ⊢
            have HA := HA2
            clear HA2
            clear HS
            go_loopw [10] (fun vj w2 => ∃ j' : Nat, vj = .int .i64 j' ∧ j' ≤ j ∧ i' ≤ j' + 1 ∧ Hid (At w w2 g off n dk) ∧ Hid (Sort.scanDown (fun x => Sort.ltInt dk[a]! x) dk i' j' = Sort.scanDown (fun x => Sort.ltInt dk[a]! x) dk i' j)) (fun vj _ => (intOf vj).toNat)
            case atStart => exact ⟨j, rfl, Nat.le_refl _, hij', HA, Lib.hid rfl⟩
            case round =>
              clear HA
              obtain ⟨j', rfl, hjj, hij2, HA, HS⟩ := hrel
              have hcw := HA.out.cell G HG.out
              by_cases hle2 : i' ≤ j'
              · go_wp2_with fail
                go_big_quiet (first | (go_at_call 47; refine Calls.quiet_of_same (less_any _ _ _)))
                go_wp2
                · have ht : Sort.ltInt (G a) (G j') = true := by assumption
                  go_roundw
                  case rel => exact ⟨j' - 1, by go_num, by omega, by omega, Lib.hid (HA.out.drewN nq), Lib.hid ((scanDown_go (fun x => Sort.ltInt dk[a]! x) dk i' j' hle2 (by omega) (by rw [← HG.out, ← HG.out]; exact ht)).symm.trans HS.out)⟩
                  case measure => simp [intOf]; omega
                · have ht : Sort.ltInt (G a) (G j') = false := by assumption
                  have hj2 := Lib.hid ((scanDown_end (fun x => Sort.ltInt dk[a]! x) dk i' j' (Or.inr (by rw [← HG.out, ← HG.out]; exact ht))).symm.trans HS.out)
                  clear ht
                  have HA2 := Lib.hid (HA.out.drewN nq)
                  clear HA hcw
                  generalize wr.drewN nq = wr2 at HA2 ⊢
                  have HA := HA2
                  clear HA2
                  clear HS
                  have hlt3 := scans_lt Sort.ltInt a i j dk (by omega) hi2.out hj2.out hle2
                  have hcw := HA.out.cell G HG.out
                  have hfw := HA.out.frozen
                  go_wp2
                  go_region
                  all_goals go_wp2
                  go_roundw
                  case rel =>
                    refine ⟨i' + 1, j' - 1, Sort.swp dk i' j', by go_num, by go_num, by omega, by omega, by omega, Lib.hid ?_, Lib.hid ?_⟩
                    · rw [HG.out, HG.out]
                      exact (HA.out.swap (by omega) (by omega)).drew
                    · rw [← HE.out]; exact (partEq_go Sort.ltInt a i j dk hi2.out hj2.out (by omega)).symm
                  case measure => simp [intOf]; omega
              · go_wp2_with fail
                go_big_quiet (first | (go_at_call 47; refine Calls.quiet_of_same (less_any _ _ _)))
                have hj2 := Lib.hid ((scanDown_end (fun x => Sort.ltInt dk[a]! x) dk i' j' (Or.inl hle2)).symm.trans HS.out)
                have HA2 := Lib.hid (HA.out.drewN nq)
                clear HA hcw
                generalize wr.drewN nq = wr2 at HA2 ⊢
                have HA := HA2
                clear HA2
                clear HS
                go_wp2
                go_ret
                have e := partEq_break Sort.ltInt a i j dk hi2.out hj2.out (by omega)
                rw [HE.out] at e
                refine ⟨by rw [e]; rfl, HA.out.end_ (by rw [e])⟩
        · go_wp2_with fail
          go_big_quiet (first | (go_at_call 47; refine Calls.quiet_of_same (less_any _ _ _)))
          go_wp2
          have hi2 := Lib.hid ((scanUp_end (fun x => !Sort.ltInt dk[a]! x) dk j i' (Or.inl hle)).symm.trans HS.out)
          have HA2 := Lib.hid (HA.out.drewN nq)
          clear HA hcw
          generalize wr.drewN nq = wr2 at HA2 ⊢
          have HA := HA2
          clear HA2
          clear HS
          go_loopw [10] (fun vj w2 => ∃ j' : Nat, vj = .int .i64 j' ∧ j' ≤ j ∧ i' ≤ j' + 1 ∧ Hid (At w w2 g off n dk) ∧ Hid (Sort.scanDown (fun x => Sort.ltInt dk[a]! x) dk i' j' = Sort.scanDown (fun x => Sort.ltInt dk[a]! x) dk i' j)) (fun vj _ => (intOf vj).toNat)
          case atStart => exact ⟨j, rfl, Nat.le_refl _, hij', HA, Lib.hid rfl⟩
          case round =>
            clear HA
            obtain ⟨j', rfl, hjj, hij2, HA, HS⟩ := hrel
            have hcw := HA.out.cell G HG.out
            by_cases hle2 : i' ≤ j'
            · exfalso
              omega
            · go_wp2_with fail
              go_big_quiet (first | (go_at_call 47; refine Calls.quiet_of_same (less_any _ _ _)))
              have hj2 := Lib.hid ((scanDown_end (fun x => Sort.ltInt dk[a]! x) dk i' j' (Or.inl hle2)).symm.trans HS.out)
              have HA2 := Lib.hid (HA.out.drewN nq)
              clear HA hcw
              generalize wr.drewN nq = wr2 at HA2 ⊢
              have HA := HA2
              clear HA2
              clear HS
              go_wp2
              go_ret
              have e := partEq_break Sort.ltInt a i j dk hi2.out hj2.out (by omega)
              rw [HE.out] at e
              refine ⟨by rw [e]; rfl, HA.out.end_ (by rw [e])⟩
  · go_enter Try.func48, Try.ntmps48
    go_wp2
    go_region
    go_wp2
    go_loopw [9, 10] (fun vi vj wr => ∃ (i j : Nat) (dk : Array Int), vi = .int .i64 i ∧ vj = .int .i64 j ∧ a < i ∧ i ≤ j + 1 ∧ j < b ∧ Hid (At w wr g off n dk) ∧ Hid (Sort.partEqLoop Sort.ltInt a i j dk = E)) (fun vi vj _ => (intOf vj).toNat + 1 - (intOf vi).toNat)
    case atStart => exact ⟨a + 1, b - 1, _, by go_num, by go_num, by omega, by omega, by omega, Lib.hid hs0, Lib.hid HE.out.symm⟩
    case round =>
      clear hs0 hcw hfw HE Ha HF
      obtain ⟨i, j, dk, rfl, rfl, hai, hij, hjb, HA, HE⟩ := hrel
      obtain ⟨G, hG⟩ : ∃ G : Nat → Int, ∀ t, G t = dk[t]! := ⟨fun t => dk[t]!, fun _ => rfl⟩
      have HG := Lib.hid hG
      clear hG
      go_wp2
      go_loopw [9] (fun vi w1 => ∃ i' : Nat, vi = .int .i64 i' ∧ i ≤ i' ∧ i' ≤ j + 1 ∧ Hid (At w w1 g off n dk) ∧ Hid (Sort.scanUp (fun x => !Sort.ltInt dk[a]! x) dk j i' = Sort.scanUp (fun x => !Sort.ltInt dk[a]! x) dk j i)) (fun vi _ => j + 1 - (intOf vi).toNat)
      case atStart => exact ⟨i, rfl, Nat.le_refl _, hij, HA, Lib.hid rfl⟩
      case round =>
        clear HA
        obtain ⟨i', rfl, hii, hij', HA, HS⟩ := hrel
        have hcw := HA.out.cell G HG.out
        by_cases hle : i' ≤ j
        · go_wp2_with fail
          go_big_quiet (first | (go_at_call 47; refine Calls.quiet_of_same (less_any _ _ _)))
          go_wp2
          · have ht : (!Sort.ltInt (G a) (G i')) = true := by assumption
            go_roundw
            case rel => exact ⟨i' + 1, by go_num, by omega, by omega, Lib.hid (HA.out.drewN nq), Lib.hid ((scanUp_go (fun x => !Sort.ltInt dk[a]! x) dk j i' hle (by rw [← HG.out, ← HG.out]; exact ht)).symm.trans HS.out)⟩
            case measure => simp [intOf]; omega
          · have ht : (!Sort.ltInt (G a) (G i')) = false := by assumption
            have hi2 := Lib.hid ((scanUp_end (fun x => !Sort.ltInt dk[a]! x) dk j i' (Or.inr (by rw [← HG.out, ← HG.out]; exact ht))).symm.trans HS.out)
            clear ht
            have HA2 := Lib.hid (HA.out.drewN nq)
            clear HA hcw
            generalize wr.drewN nq = wr2 at HA2 ⊢
            have HA := HA2
            clear HA2
            clear HS
            go_loopw [10] (fun vj w2 => ∃ j' : Nat, vj = .int .i64 j' ∧ j' ≤ j ∧ i' ≤ j' + 1 ∧ Hid (At w w2 g off n dk) ∧ Hid (Sort.scanDown (fun x => Sort.ltInt dk[a]! x) dk i' j' = Sort.scanDown (fun x => Sort.ltInt dk[a]! x) dk i' j)) (fun vj _ => (intOf vj).toNat)
            case atStart => exact ⟨j, rfl, Nat.le_refl _, hij', HA, Lib.hid rfl⟩
            case round =>
              clear HA
              obtain ⟨j', rfl, hjj, hij2, HA, HS⟩ := hrel
              have hcw := HA.out.cell G HG.out
              by_cases hle2 : i' ≤ j'
              · go_wp2_with fail
                go_big_quiet (first | (go_at_call 47; refine Calls.quiet_of_same (less_any _ _ _)))
                go_wp2
                · have ht : Sort.ltInt (G a) (G j') = true := by assumption
                  go_roundw
                  case rel => exact ⟨j' - 1, by go_num, by omega, by omega, Lib.hid (HA.out.drewN nq), Lib.hid ((scanDown_go (fun x => Sort.ltInt dk[a]! x) dk i' j' hle2 (by omega) (by rw [← HG.out, ← HG.out]; exact ht)).symm.trans HS.out)⟩
                  case measure => simp [intOf]; omega
                · have ht : Sort.ltInt (G a) (G j') = false := by assumption
                  have hj2 := Lib.hid ((scanDown_end (fun x => Sort.ltInt dk[a]! x) dk i' j' (Or.inr (by rw [← HG.out, ← HG.out]; exact ht))).symm.trans HS.out)
                  clear ht
                  have HA2 := Lib.hid (HA.out.drewN nq)
                  clear HA hcw
                  generalize wr.drewN nq = wr2 at HA2 ⊢
                  have HA := HA2
                  clear HA2
                  clear HS
                  have hlt3 := scans_lt Sort.ltInt a i j dk (by omega) hi2.out hj2.out hle2
                  have hcw := HA.out.cell G HG.out
                  have hfw := HA.out.frozen
                  go_wp2
                  go_region
                  all_goals go_wp2
                  go_roundw
                  case rel =>
                    refine ⟨i' + 1, j' - 1, Sort.swp dk i' j', by go_num, by go_num, by omega, by omega, by omega, Lib.hid ?_, Lib.hid ?_⟩
                    · rw [HG.out, HG.out]
                      exact (HA.out.swap (by omega) (by omega)).drew
                    · rw [← HE.out]; exact (partEq_go Sort.ltInt a i j dk hi2.out hj2.out (by omega)).symm
                  case measure => simp [intOf]; omega
              · go_wp2_with fail
                go_big_quiet (first | (go_at_call 47; refine Calls.quiet_of_same (less_any _ _ _)))
                have hj2 := Lib.hid ((scanDown_end (fun x => Sort.ltInt dk[a]! x) dk i' j' (Or.inl hle2)).symm.trans HS.out)
                have HA2 := Lib.hid (HA.out.drewN nq)
                clear HA hcw
                generalize wr.drewN nq = wr2 at HA2 ⊢
                have HA := HA2
                clear HA2
                clear HS
                go_wp2
                go_ret
                have e := partEq_break Sort.ltInt a i j dk hi2.out hj2.out (by omega)
                rw [HE.out] at e
                refine ⟨by rw [e]; rfl, HA.out.end_ (by rw [e])⟩
        · go_wp2_with fail
          go_big_quiet (first | (go_at_call 47; refine Calls.quiet_of_same (less_any _ _ _)))
          go_wp2
          have hi2 := Lib.hid ((scanUp_end (fun x => !Sort.ltInt dk[a]! x) dk j i' (Or.inl hle)).symm.trans HS.out)
          have HA2 := Lib.hid (HA.out.drewN nq)
          clear HA hcw
          generalize wr.drewN nq = wr2 at HA2 ⊢
          have HA := HA2
          clear HA2
          clear HS
          go_loopw [10] (fun vj w2 => ∃ j' : Nat, vj = .int .i64 j' ∧ j' ≤ j ∧ i' ≤ j' + 1 ∧ Hid (At w w2 g off n dk) ∧ Hid (Sort.scanDown (fun x => Sort.ltInt dk[a]! x) dk i' j' = Sort.scanDown (fun x => Sort.ltInt dk[a]! x) dk i' j)) (fun vj _ => (intOf vj).toNat)
          case atStart => exact ⟨j, rfl, Nat.le_refl _, hij', HA, Lib.hid rfl⟩
          case round =>
            clear HA
            obtain ⟨j', rfl, hjj, hij2, HA, HS⟩ := hrel
            have hcw := HA.out.cell G HG.out
            by_cases hle2 : i' ≤ j'
            · exfalso
              omega
            · go_wp2_with fail
              go_big_quiet (first | (go_at_call 47; refine Calls.quiet_of_same (less_any _ _ _)))
              have hj2 := Lib.hid ((scanDown_end (fun x => Sort.ltInt dk[a]! x) dk i' j' (Or.inl hle2)).symm.trans HS.out)
              have HA2 := Lib.hid (HA.out.drewN nq)
              clear HA hcw
              generalize wr.drewN nq = wr2 at HA2 ⊢
              have HA := HA2
              clear HA2
              clear HS
              go_wp2
              go_ret
              have e := partEq_break Sort.ltInt a i j dk hi2.out hj2.out (by omega)
              rw [HE.out] at e
              refine ⟨by rw [e]; rfl, HA.out.end_ (by rw [e])⟩
set_option maxHeartbeats 16000000 in
set_option maxRecDepth 100000 in
theorem part_any (g off cap a b pivot : Nat) (d : Array Int) (w : World) (hr : RowK w g off d) (hap : a ≤ pivot) (hpb : pivot < b) (hb : b ≤ d.size) (hsz : d.size ≤ 1000000) :
    Calls Try.prog 49 #[.slice (some ⟨g, off, none⟩) d.size cap, .int .i64 a, .int .i64 b, .int .i64 pivot] w fun e w' => e = .returned (.tuple #[.int .i64 (Sort.partition Sort.ltInt d a b pivot).1, .bool (Sort.partition Sort.ltInt d a b pivot).2.1]) ∧ RowK w' g off (Sort.partition Sort.ltInt d a b pivot).2.2 ∧ w.grownBy w' (some g) := by
  obtain ⟨n, hn⟩ : ∃ n, n = d.size := ⟨_, rfl⟩
  have ha := At.refl hr hn.symm
  rw [← hn] at hb hsz ⊢
  clear hr hn
  have hla : a < n := by omega
  have hlp : pivot < n := by omega
  obtain ⟨E, hE⟩ : ∃ E, E = Sort.partition Sort.ltInt d a b pivot := ⟨_, rfl⟩
  rw [← hE]
  have HE := Lib.hid hE
  clear hE
  obtain ⟨F, hF⟩ : ∃ F : Nat → Int, ∀ t, F t = d[t]! := ⟨fun t => d[t]!, fun _ => rfl⟩
  have hcw := ha.cell F hF
  have hfw := ha.frozen
  have hs0 := (ha.swap (i := a) (j := pivot) hla hlp).drew
  rw [← hF] at hs0
  try rw [← hF] at hs0
  have Ha := Lib.hid ha
  clear ha
  have HF := Lib.hid hF
  clear hF
  by_cases hone : a = pivot
  · go_enter Try.func49, Try.ntmps49
    subst hone
    go_wp2
    go_region
    go_wp2
    obtain ⟨dk, hdk⟩ : ∃ dk, dk = Sort.swp d a a := ⟨_, rfl⟩
    rw [← hdk] at hs0
    clear hcw hfw Ha HF
    obtain ⟨i, hi⟩ : ∃ i, i = a + 1 := ⟨_, rfl⟩
    obtain ⟨j, hj⟩ : ∃ j, j = b - 1 := ⟨_, rfl⟩
    have ei : (a : Int) + 1 = (i : Int) := by omega
    have ej : (b : Int) - 1 = (j : Int) := by omega
    first | rw [ei, ej] | simp only [ei, ej]
    have hij : i ≤ j + 1 := by omega
    have hai : a < i := by omega
    have hjb : j < b := by omega
    have HA := Lib.hid hs0
    clear hs0 ei ej
    have Hi := Lib.hid hi
    clear hi
    have Hj := Lib.hid hj
    clear hj
    have Hdk := Lib.hid hdk
    clear hdk
    generalize World.drew _ = wq at *
    obtain ⟨G, hG⟩ : ∃ G : Nat → Int, ∀ t, G t = dk[t]! := ⟨fun t => dk[t]!, fun _ => rfl⟩
    have HG := Lib.hid hG
    clear hG
    go_loopw [10] (fun vi w1 => ∃ i' : Nat, vi = .int .i64 i' ∧ i ≤ i' ∧ i' ≤ j + 1 ∧ Hid (At w w1 g off n dk) ∧ Hid (Sort.scanUp (fun x => Sort.ltInt x dk[a]!) dk j i' = Sort.scanUp (fun x => Sort.ltInt x dk[a]!) dk j i)) (fun vi _ => j + 1 - (intOf vi).toNat)
    case atStart => exact ⟨i, rfl, Nat.le_refl _, hij, HA, Lib.hid rfl⟩
    case round =>
      clear HA
      obtain ⟨i', rfl, hii, hij', HA, HS⟩ := hrel
      have hcw := HA.out.cell G HG.out
      by_cases hle : i' ≤ j
      · go_wp2_with fail
        go_big_quiet (first | (go_at_call 47; refine Calls.quiet_of_same (less_any _ _ _)))
        go_wp2
        · have ht : Sort.ltInt (G i') (G a) = true := by assumption
          go_roundw
          case rel => exact ⟨i' + 1, by go_num, by omega, by omega, Lib.hid (HA.out.drewN nq), Lib.hid ((scanUp_go (fun x => Sort.ltInt x dk[a]!) dk j i' hle (by rw [← HG.out, ← HG.out]; exact ht)).symm.trans HS.out)⟩
          case measure => simp [intOf]; omega
        · have ht : Sort.ltInt (G i') (G a) = false := by assumption
          have hi2 := Lib.hid ((scanUp_end (fun x => Sort.ltInt x dk[a]!) dk j i' (Or.inr (by rw [← HG.out, ← HG.out]; exact ht))).symm.trans HS.out)
          clear ht
          have HA2 := Lib.hid (HA.out.drewN nq)
          clear HA hcw
          generalize wr.drewN nq = wr2 at HA2 ⊢
          have HA := HA2
          clear HA2
          clear HS
          go_loopw [11] (fun vj w2 => ∃ j' : Nat, vj = .int .i64 j' ∧ j' ≤ j ∧ i' ≤ j' + 1 ∧ Hid (At w w2 g off n dk) ∧ Hid (Sort.scanDown (fun x => !Sort.ltInt x dk[a]!) dk i' j' = Sort.scanDown (fun x => !Sort.ltInt x dk[a]!) dk i' j)) (fun vj _ => (intOf vj).toNat)
          case atStart => exact ⟨j, rfl, Nat.le_refl _, hij', HA, Lib.hid rfl⟩
          case round =>
            clear HA
            obtain ⟨j', rfl, hjj, hij2, HA, HS⟩ := hrel
            have hcw := HA.out.cell G HG.out
            by_cases hle2 : i' ≤ j'
            · go_wp2_with fail
              go_big_quiet (first | (go_at_call 47; refine Calls.quiet_of_same (less_any _ _ _)))
              go_wp2
              · have ht : (!Sort.ltInt (G j') (G a)) = true := by assumption
                go_roundw
                case rel => exact ⟨j' - 1, by go_num, by omega, by omega, Lib.hid (HA.out.drewN nq), Lib.hid ((scanDown_go (fun x => !Sort.ltInt x dk[a]!) dk i' j' hle2 (by omega) (by rw [← HG.out, ← HG.out]; exact ht)).symm.trans HS.out)⟩
                case measure => simp [intOf]; omega
              · have ht : (!Sort.ltInt (G j') (G a)) = false := by assumption
                have hj2 := Lib.hid ((scanDown_end (fun x => !Sort.ltInt x dk[a]!) dk i' j' (Or.inr (by rw [← HG.out, ← HG.out]; exact ht))).symm.trans HS.out)
                clear ht
                have HA2 := Lib.hid (HA.out.drewN nq)
                clear HA hcw
                generalize wr.drewN nq = wr2 at HA2 ⊢
                have HA := HA2
                clear HA2
                clear HS
                have he := part_first_go Sort.ltInt d a b a Hi.out Hj.out Hdk.out hi2.out hj2.out (by omega)
                rw [← HE.out] at he
                obtain ⟨E2, hE2⟩ : ∃ E2, E2 = Sort.partLoop Sort.ltInt a (i' + 1) (j' - 1) (Sort.swp dk i' j') := ⟨_, rfl⟩
                rw [← hE2] at he
                have He := Lib.hid he
                clear he
                have HE2 := Lib.hid hE2
                clear hE2
                have hlt3 := part_scans_lt Sort.ltInt a i j dk (by omega) hi2.out hj2.out hle2
                have hcw := HA.out.cell G HG.out
                have hfw := HA.out.frozen
                go_wp2
                go_region
                all_goals go_wp2
                have hs2 := (HA.out.swap (i := i') (j := j') (by omega) (by omega)).drew
                rw [← HG.out, ← HG.out] at hs2
                have Hs2 := Lib.hid hs2
                clear hs2
                have hi9 : a < i' + 1 := by omega
                have hj9 : i' + 1 ≤ j' - 1 + 1 := by omega
                have hb9 : j' - 1 < b := by omega
                clear HA HG hcw hfw HE Hi Hj Hdk hi2 hj2
                go_loopw [10, 11] (fun vi vj wr => ∃ (i j : Nat) (dk : Array Int), vi = .int .i64 i ∧ vj = .int .i64 j ∧ a < i ∧ i ≤ j + 1 ∧ j < b ∧ Hid (At w wr g off n dk) ∧ Hid (Sort.partLoop Sort.ltInt a i j dk = E2)) (fun vi vj _ => (intOf vj).toNat + 1 - (intOf vi).toNat)
                case atStart => exact ⟨i' + 1, j' - 1, _, by go_num, by go_num, hi9, hj9, hb9, Hs2, Lib.hid HE2.out.symm⟩
                case round =>
                  clear Hs2 HE2 hi9 hj9 hb9 hij hij' hii hjj hij2 hle2
                  try clear hle
                  obtain ⟨i, j, dk, rfl, rfl, hai, hij, hjb, HA, HE2⟩ := hrel
                  obtain ⟨G, hG⟩ : ∃ G : Nat → Int, ∀ t, G t = dk[t]! := ⟨fun t => dk[t]!, fun _ => rfl⟩
                  have HG := Lib.hid hG
                  clear hG
                  go_wp2
                  go_loopw [10] (fun vi w1 => ∃ i' : Nat, vi = .int .i64 i' ∧ i ≤ i' ∧ i' ≤ j + 1 ∧ Hid (At w w1 g off n dk) ∧ Hid (Sort.scanUp (fun x => Sort.ltInt x dk[a]!) dk j i' = Sort.scanUp (fun x => Sort.ltInt x dk[a]!) dk j i)) (fun vi _ => j + 1 - (intOf vi).toNat)
                  case atStart => exact ⟨i, rfl, Nat.le_refl _, hij, HA, Lib.hid rfl⟩
                  case round =>
                    clear HA
                    obtain ⟨i', rfl, hii, hij', HA, HS⟩ := hrel
                    have hcw := HA.out.cell G HG.out
                    by_cases hle : i' ≤ j
                    · go_wp2_with fail
                      go_big_quiet (first | (go_at_call 47; refine Calls.quiet_of_same (less_any _ _ _)))
                      go_wp2
                      · have ht : Sort.ltInt (G i') (G a) = true := by assumption
                        go_roundw
                        case rel => exact ⟨i' + 1, by go_num, by omega, by omega, Lib.hid (HA.out.drewN nq), Lib.hid ((scanUp_go (fun x => Sort.ltInt x dk[a]!) dk j i' hle (by rw [← HG.out, ← HG.out]; exact ht)).symm.trans HS.out)⟩
                        case measure => simp [intOf]; omega
                      · have ht : Sort.ltInt (G i') (G a) = false := by assumption
                        have hi2 := Lib.hid ((scanUp_end (fun x => Sort.ltInt x dk[a]!) dk j i' (Or.inr (by rw [← HG.out, ← HG.out]; exact ht))).symm.trans HS.out)
                        clear ht
                        have HA2 := Lib.hid (HA.out.drewN nq)
                        clear HA hcw
                        generalize wr.drewN nq = wr2 at HA2 ⊢
                        have HA := HA2
                        clear HA2
                        clear HS
                        go_loopw [11] (fun vj w2 => ∃ j' : Nat, vj = .int .i64 j' ∧ j' ≤ j ∧ i' ≤ j' + 1 ∧ Hid (At w w2 g off n dk) ∧ Hid (Sort.scanDown (fun x => !Sort.ltInt x dk[a]!) dk i' j' = Sort.scanDown (fun x => !Sort.ltInt x dk[a]!) dk i' j)) (fun vj _ => (intOf vj).toNat)
                        case atStart => exact ⟨j, rfl, Nat.le_refl _, hij', HA, Lib.hid rfl⟩
                        case round =>
                          clear HA
                          obtain ⟨j', rfl, hjj, hij2, HA, HS⟩ := hrel
                          have hcw := HA.out.cell G HG.out
                          by_cases hle2 : i' ≤ j'
                          · go_wp2_with fail
                            go_big_quiet (first | (go_at_call 47; refine Calls.quiet_of_same (less_any _ _ _)))
                            go_wp2
                            · have ht : (!Sort.ltInt (G j') (G a)) = true := by assumption
                              go_roundw
                              case rel => exact ⟨j' - 1, by go_num, by omega, by omega, Lib.hid (HA.out.drewN nq), Lib.hid ((scanDown_go (fun x => !Sort.ltInt x dk[a]!) dk i' j' hle2 (by omega) (by rw [← HG.out, ← HG.out]; exact ht)).symm.trans HS.out)⟩
                              case measure => simp [intOf]; omega
                            · have ht : (!Sort.ltInt (G j') (G a)) = false := by assumption
                              have hj2 := Lib.hid ((scanDown_end (fun x => !Sort.ltInt x dk[a]!) dk i' j' (Or.inr (by rw [← HG.out, ← HG.out]; exact ht))).symm.trans HS.out)
                              clear ht
                              have HA2 := Lib.hid (HA.out.drewN nq)
                              clear HA hcw
                              generalize wr.drewN nq = wr2 at HA2 ⊢
                              have HA := HA2
                              clear HA2
                              clear HS
                              have hlt3 := part_scans_lt Sort.ltInt a i j dk (by omega) hi2.out hj2.out hle2
                              have hcw := HA.out.cell G HG.out
                              have hfw := HA.out.frozen
                              go_wp2
                              go_region
                              all_goals go_wp2
                              go_roundw
                              case rel =>
                                refine ⟨i' + 1, j' - 1, Sort.swp dk i' j', by go_num, by go_num, by omega, by omega, by omega, Lib.hid ?_, Lib.hid ?_⟩
                                · rw [HG.out, HG.out]
                                  exact (HA.out.swap (by omega) (by omega)).drew
                                · rw [← HE2.out]; exact (part_go Sort.ltInt a i j dk hi2.out hj2.out (by omega)).symm
                              case measure => simp [intOf]; omega
                          · go_wp2_with fail
                            go_big_quiet (first | (go_at_call 47; refine Calls.quiet_of_same (less_any _ _ _)))
                            have hj2 := Lib.hid ((scanDown_end (fun x => !Sort.ltInt x dk[a]!) dk i' j' (Or.inl hle2)).symm.trans HS.out)
                            have HA2 := Lib.hid (HA.out.drewN nq)
                            clear HA hcw
                            generalize wr.drewN nq = wr2 at HA2 ⊢
                            have HA := HA2
                            clear HA2
                            clear HS
                            have e := part_break Sort.ltInt a i j dk hi2.out hj2.out (by omega)
                            rw [HE2.out] at e
                            have he := He.out
                            rw [e] at he
                            have He := Lib.hid he
                            clear he
                            clear HE2
                            have hcw := HA.out.cell G HG.out
                            have hfw := HA.out.frozen
                            by_cases hone2 : j' = a
                            · subst hone2
                              have hs9 := (HA.out.swap (i := j') (j := j') (by omega) (by omega)).drew
                              rw [← HG.out] at hs9
                              go_wp2
                              go_region
                              go_wp2
                              go_ret2
                              refine ⟨by rw [He.out]; rfl, hs9.end_ (by rw [He.out])⟩
                            · have hs9 := (HA.out.swap (i := j') (j := a) (by omega) (by omega)).drew
                              rw [← HG.out, ← HG.out] at hs9
                              go_wp2
                              go_region
                              go_wp2
                              go_ret2
                              refine ⟨by rw [He.out]; rfl, hs9.end_ (by rw [He.out])⟩
                    · go_wp2_with fail
                      go_big_quiet (first | (go_at_call 47; refine Calls.quiet_of_same (less_any _ _ _)))
                      go_wp2
                      have hi2 := Lib.hid ((scanUp_end (fun x => Sort.ltInt x dk[a]!) dk j i' (Or.inl hle)).symm.trans HS.out)
                      have HA2 := Lib.hid (HA.out.drewN nq)
                      clear HA hcw
                      generalize wr.drewN nq = wr2 at HA2 ⊢
                      have HA := HA2
                      clear HA2
                      clear HS
                      go_loopw [11] (fun vj w2 => ∃ j' : Nat, vj = .int .i64 j' ∧ j' ≤ j ∧ i' ≤ j' + 1 ∧ Hid (At w w2 g off n dk) ∧ Hid (Sort.scanDown (fun x => !Sort.ltInt x dk[a]!) dk i' j' = Sort.scanDown (fun x => !Sort.ltInt x dk[a]!) dk i' j)) (fun vj _ => (intOf vj).toNat)
                      case atStart => exact ⟨j, rfl, Nat.le_refl _, hij', HA, Lib.hid rfl⟩
                      case round =>
                        clear HA
                        obtain ⟨j', rfl, hjj, hij2, HA, HS⟩ := hrel
                        have hcw := HA.out.cell G HG.out
                        by_cases hle2 : i' ≤ j'
                        · exfalso
                          omega
                        · go_wp2_with fail
                          go_big_quiet (first | (go_at_call 47; refine Calls.quiet_of_same (less_any _ _ _)))
                          have hj2 := Lib.hid ((scanDown_end (fun x => !Sort.ltInt x dk[a]!) dk i' j' (Or.inl hle2)).symm.trans HS.out)
                          have HA2 := Lib.hid (HA.out.drewN nq)
                          clear HA hcw
                          generalize wr.drewN nq = wr2 at HA2 ⊢
                          have HA := HA2
                          clear HA2
                          clear HS
                          have e := part_break Sort.ltInt a i j dk hi2.out hj2.out (by omega)
                          rw [HE2.out] at e
                          have he := He.out
                          rw [e] at he
                          have He := Lib.hid he
                          clear he
                          clear HE2
                          have hcw := HA.out.cell G HG.out
                          have hfw := HA.out.frozen
                          by_cases hone2 : j' = a
                          · subst hone2
                            have hs9 := (HA.out.swap (i := j') (j := j') (by omega) (by omega)).drew
                            rw [← HG.out] at hs9
                            go_wp2
                            go_region
                            go_wp2
                            go_ret2
                            refine ⟨by rw [He.out]; rfl, hs9.end_ (by rw [He.out])⟩
                          · have hs9 := (HA.out.swap (i := j') (j := a) (by omega) (by omega)).drew
                            rw [← HG.out, ← HG.out] at hs9
                            go_wp2
                            go_region
                            go_wp2
                            go_ret2
                            refine ⟨by rw [He.out]; rfl, hs9.end_ (by rw [He.out])⟩
            · go_wp2_with fail
              go_big_quiet (first | (go_at_call 47; refine Calls.quiet_of_same (less_any _ _ _)))
              have hj2 := Lib.hid ((scanDown_end (fun x => !Sort.ltInt x dk[a]!) dk i' j' (Or.inl hle2)).symm.trans HS.out)
              have HA2 := Lib.hid (HA.out.drewN nq)
              clear HA hcw
              generalize wr.drewN nq = wr2 at HA2 ⊢
              have HA := HA2
              clear HA2
              clear HS
              have he := part_first_break Sort.ltInt d a b a Hi.out Hj.out Hdk.out hi2.out hj2.out (by omega)
              rw [← HE.out] at he
              have He := Lib.hid he
              clear he
              clear HE Hi Hj Hdk
              have hcw := HA.out.cell G HG.out
              have hfw := HA.out.frozen
              by_cases hone2 : j' = a
              · subst hone2
                have hs9 := (HA.out.swap (i := j') (j := j') (by omega) (by omega)).drew
                rw [← HG.out] at hs9
                go_wp2
                go_region
                go_wp2
                go_ret2
                refine ⟨by rw [He.out]; rfl, hs9.end_ (by rw [He.out])⟩
              · have hs9 := (HA.out.swap (i := j') (j := a) (by omega) (by omega)).drew
                rw [← HG.out, ← HG.out] at hs9
                go_wp2
                go_region
                go_wp2
                go_ret2
                refine ⟨by rw [He.out]; rfl, hs9.end_ (by rw [He.out])⟩
      · go_wp2_with fail
        go_big_quiet (first | (go_at_call 47; refine Calls.quiet_of_same (less_any _ _ _)))
        go_wp2
        have hi2 := Lib.hid ((scanUp_end (fun x => Sort.ltInt x dk[a]!) dk j i' (Or.inl hle)).symm.trans HS.out)
        have HA2 := Lib.hid (HA.out.drewN nq)
        clear HA hcw
        generalize wr.drewN nq = wr2 at HA2 ⊢
        have HA := HA2
        clear HA2
        clear HS
        go_loopw [11] (fun vj w2 => ∃ j' : Nat, vj = .int .i64 j' ∧ j' ≤ j ∧ i' ≤ j' + 1 ∧ Hid (At w w2 g off n dk) ∧ Hid (Sort.scanDown (fun x => !Sort.ltInt x dk[a]!) dk i' j' = Sort.scanDown (fun x => !Sort.ltInt x dk[a]!) dk i' j)) (fun vj _ => (intOf vj).toNat)
        case atStart => exact ⟨j, rfl, Nat.le_refl _, hij', HA, Lib.hid rfl⟩
        case round =>
          clear HA
          obtain ⟨j', rfl, hjj, hij2, HA, HS⟩ := hrel
          have hcw := HA.out.cell G HG.out
          by_cases hle2 : i' ≤ j'
          · exfalso
            omega
          · go_wp2_with fail
            go_big_quiet (first | (go_at_call 47; refine Calls.quiet_of_same (less_any _ _ _)))
            have hj2 := Lib.hid ((scanDown_end (fun x => !Sort.ltInt x dk[a]!) dk i' j' (Or.inl hle2)).symm.trans HS.out)
            have HA2 := Lib.hid (HA.out.drewN nq)
            clear HA hcw
            generalize wr.drewN nq = wr2 at HA2 ⊢
            have HA := HA2
            clear HA2
            clear HS
            have he := part_first_break Sort.ltInt d a b a Hi.out Hj.out Hdk.out hi2.out hj2.out (by omega)
            rw [← HE.out] at he
            have He := Lib.hid he
            clear he
            clear HE Hi Hj Hdk
            have hcw := HA.out.cell G HG.out
            have hfw := HA.out.frozen
            by_cases hone2 : j' = a
            · subst hone2
              have hs9 := (HA.out.swap (i := j') (j := j') (by omega) (by omega)).drew
              rw [← HG.out] at hs9
              go_wp2
              go_region
              go_wp2
              go_ret2
              refine ⟨by rw [He.out]; rfl, hs9.end_ (by rw [He.out])⟩
            · have hs9 := (HA.out.swap (i := j') (j := a) (by omega) (by omega)).drew
              rw [← HG.out, ← HG.out] at hs9
              go_wp2
              go_region
              go_wp2
              go_ret2
              refine ⟨by rw [He.out]; rfl, hs9.end_ (by rw [He.out])⟩
  · go_enter Try.func49, Try.ntmps49
    go_wp2
    go_region
    go_wp2
    obtain ⟨dk, hdk⟩ : ∃ dk, dk = Sort.swp d a pivot := ⟨_, rfl⟩
    rw [← hdk] at hs0
    clear hcw hfw Ha HF
    obtain ⟨i, hi⟩ : ∃ i, i = a + 1 := ⟨_, rfl⟩
    obtain ⟨j, hj⟩ : ∃ j, j = b - 1 := ⟨_, rfl⟩
    have ei : (a : Int) + 1 = (i : Int) := by omega
    have ej : (b : Int) - 1 = (j : Int) := by omega
    first | rw [ei, ej] | simp only [ei, ej]
    have hij : i ≤ j + 1 := by omega
    have hai : a < i := by omega
    have hjb : j < b := by omega
    have HA := Lib.hid hs0
    clear hs0 ei ej
    have Hi := Lib.hid hi
    clear hi
    have Hj := Lib.hid hj
    clear hj
    have Hdk := Lib.hid hdk
    clear hdk
    generalize World.drew _ = wq at *
    obtain ⟨G, hG⟩ : ∃ G : Nat → Int, ∀ t, G t = dk[t]! := ⟨fun t => dk[t]!, fun _ => rfl⟩
    have HG := Lib.hid hG
    clear hG
    go_loopw [10] (fun vi w1 => ∃ i' : Nat, vi = .int .i64 i' ∧ i ≤ i' ∧ i' ≤ j + 1 ∧ Hid (At w w1 g off n dk) ∧ Hid (Sort.scanUp (fun x => Sort.ltInt x dk[a]!) dk j i' = Sort.scanUp (fun x => Sort.ltInt x dk[a]!) dk j i)) (fun vi _ => j + 1 - (intOf vi).toNat)
    case atStart => exact ⟨i, rfl, Nat.le_refl _, hij, HA, Lib.hid rfl⟩
    case round =>
      clear HA
      obtain ⟨i', rfl, hii, hij', HA, HS⟩ := hrel
      have hcw := HA.out.cell G HG.out
      by_cases hle : i' ≤ j
      · go_wp2_with fail
        go_big_quiet (first | (go_at_call 47; refine Calls.quiet_of_same (less_any _ _ _)))
        go_wp2
        · have ht : Sort.ltInt (G i') (G a) = true := by assumption
          go_roundw
          case rel => exact ⟨i' + 1, by go_num, by omega, by omega, Lib.hid (HA.out.drewN nq), Lib.hid ((scanUp_go (fun x => Sort.ltInt x dk[a]!) dk j i' hle (by rw [← HG.out, ← HG.out]; exact ht)).symm.trans HS.out)⟩
          case measure => simp [intOf]; omega
        · have ht : Sort.ltInt (G i') (G a) = false := by assumption
          have hi2 := Lib.hid ((scanUp_end (fun x => Sort.ltInt x dk[a]!) dk j i' (Or.inr (by rw [← HG.out, ← HG.out]; exact ht))).symm.trans HS.out)
          clear ht
          have HA2 := Lib.hid (HA.out.drewN nq)
          clear HA hcw
          generalize wr.drewN nq = wr2 at HA2 ⊢
          have HA := HA2
          clear HA2
          clear HS
          go_loopw [11] (fun vj w2 => ∃ j' : Nat, vj = .int .i64 j' ∧ j' ≤ j ∧ i' ≤ j' + 1 ∧ Hid (At w w2 g off n dk) ∧ Hid (Sort.scanDown (fun x => !Sort.ltInt x dk[a]!) dk i' j' = Sort.scanDown (fun x => !Sort.ltInt x dk[a]!) dk i' j)) (fun vj _ => (intOf vj).toNat)
          case atStart => exact ⟨j, rfl, Nat.le_refl _, hij', HA, Lib.hid rfl⟩
          case round =>
            clear HA
            obtain ⟨j', rfl, hjj, hij2, HA, HS⟩ := hrel
            have hcw := HA.out.cell G HG.out
            by_cases hle2 : i' ≤ j'
            · go_wp2_with fail
              go_big_quiet (first | (go_at_call 47; refine Calls.quiet_of_same (less_any _ _ _)))
              go_wp2
              · have ht : (!Sort.ltInt (G j') (G a)) = true := by assumption
                go_roundw
                case rel => exact ⟨j' - 1, by go_num, by omega, by omega, Lib.hid (HA.out.drewN nq), Lib.hid ((scanDown_go (fun x => !Sort.ltInt x dk[a]!) dk i' j' hle2 (by omega) (by rw [← HG.out, ← HG.out]; exact ht)).symm.trans HS.out)⟩
                case measure => simp [intOf]; omega
              · have ht : (!Sort.ltInt (G j') (G a)) = false := by assumption
                have hj2 := Lib.hid ((scanDown_end (fun x => !Sort.ltInt x dk[a]!) dk i' j' (Or.inr (by rw [← HG.out, ← HG.out]; exact ht))).symm.trans HS.out)
                clear ht
                have HA2 := Lib.hid (HA.out.drewN nq)
                clear HA hcw
                generalize wr.drewN nq = wr2 at HA2 ⊢
                have HA := HA2
                clear HA2
                clear HS
                have he := part_first_go Sort.ltInt d a b pivot Hi.out Hj.out Hdk.out hi2.out hj2.out (by omega)
                rw [← HE.out] at he
                obtain ⟨E2, hE2⟩ : ∃ E2, E2 = Sort.partLoop Sort.ltInt a (i' + 1) (j' - 1) (Sort.swp dk i' j') := ⟨_, rfl⟩
                rw [← hE2] at he
                have He := Lib.hid he
                clear he
                have HE2 := Lib.hid hE2
                clear hE2
                have hlt3 := part_scans_lt Sort.ltInt a i j dk (by omega) hi2.out hj2.out hle2
                have hcw := HA.out.cell G HG.out
                have hfw := HA.out.frozen
                go_wp2
                go_region
                all_goals go_wp2
                have hs2 := (HA.out.swap (i := i') (j := j') (by omega) (by omega)).drew
                rw [← HG.out, ← HG.out] at hs2
                have Hs2 := Lib.hid hs2
                clear hs2
                have hi9 : a < i' + 1 := by omega
                have hj9 : i' + 1 ≤ j' - 1 + 1 := by omega
                have hb9 : j' - 1 < b := by omega
                clear HA HG hcw hfw HE Hi Hj Hdk hi2 hj2
                go_loopw [10, 11] (fun vi vj wr => ∃ (i j : Nat) (dk : Array Int), vi = .int .i64 i ∧ vj = .int .i64 j ∧ a < i ∧ i ≤ j + 1 ∧ j < b ∧ Hid (At w wr g off n dk) ∧ Hid (Sort.partLoop Sort.ltInt a i j dk = E2)) (fun vi vj _ => (intOf vj).toNat + 1 - (intOf vi).toNat)
                case atStart => exact ⟨i' + 1, j' - 1, _, by go_num, by go_num, hi9, hj9, hb9, Hs2, Lib.hid HE2.out.symm⟩
                case round =>
                  clear Hs2 HE2 hi9 hj9 hb9 hij hij' hii hjj hij2 hle2
                  try clear hle
                  obtain ⟨i, j, dk, rfl, rfl, hai, hij, hjb, HA, HE2⟩ := hrel
                  obtain ⟨G, hG⟩ : ∃ G : Nat → Int, ∀ t, G t = dk[t]! := ⟨fun t => dk[t]!, fun _ => rfl⟩
                  have HG := Lib.hid hG
                  clear hG
                  go_wp2
                  go_loopw [10] (fun vi w1 => ∃ i' : Nat, vi = .int .i64 i' ∧ i ≤ i' ∧ i' ≤ j + 1 ∧ Hid (At w w1 g off n dk) ∧ Hid (Sort.scanUp (fun x => Sort.ltInt x dk[a]!) dk j i' = Sort.scanUp (fun x => Sort.ltInt x dk[a]!) dk j i)) (fun vi _ => j + 1 - (intOf vi).toNat)
                  case atStart => exact ⟨i, rfl, Nat.le_refl _, hij, HA, Lib.hid rfl⟩
                  case round =>
                    clear HA
                    obtain ⟨i', rfl, hii, hij', HA, HS⟩ := hrel
                    have hcw := HA.out.cell G HG.out
                    by_cases hle : i' ≤ j
                    · go_wp2_with fail
                      go_big_quiet (first | (go_at_call 47; refine Calls.quiet_of_same (less_any _ _ _)))
                      go_wp2
                      · have ht : Sort.ltInt (G i') (G a) = true := by assumption
                        go_roundw
                        case rel => exact ⟨i' + 1, by go_num, by omega, by omega, Lib.hid (HA.out.drewN nq), Lib.hid ((scanUp_go (fun x => Sort.ltInt x dk[a]!) dk j i' hle (by rw [← HG.out, ← HG.out]; exact ht)).symm.trans HS.out)⟩
                        case measure => simp [intOf]; omega
                      · have ht : Sort.ltInt (G i') (G a) = false := by assumption
                        have hi2 := Lib.hid ((scanUp_end (fun x => Sort.ltInt x dk[a]!) dk j i' (Or.inr (by rw [← HG.out, ← HG.out]; exact ht))).symm.trans HS.out)
                        clear ht
                        have HA2 := Lib.hid (HA.out.drewN nq)
                        clear HA hcw
                        generalize wr.drewN nq = wr2 at HA2 ⊢
                        have HA := HA2
                        clear HA2
                        clear HS
                        go_loopw [11] (fun vj w2 => ∃ j' : Nat, vj = .int .i64 j' ∧ j' ≤ j ∧ i' ≤ j' + 1 ∧ Hid (At w w2 g off n dk) ∧ Hid (Sort.scanDown (fun x => !Sort.ltInt x dk[a]!) dk i' j' = Sort.scanDown (fun x => !Sort.ltInt x dk[a]!) dk i' j)) (fun vj _ => (intOf vj).toNat)
                        case atStart => exact ⟨j, rfl, Nat.le_refl _, hij', HA, Lib.hid rfl⟩
                        case round =>
                          clear HA
                          obtain ⟨j', rfl, hjj, hij2, HA, HS⟩ := hrel
                          have hcw := HA.out.cell G HG.out
                          by_cases hle2 : i' ≤ j'
                          · go_wp2_with fail
                            go_big_quiet (first | (go_at_call 47; refine Calls.quiet_of_same (less_any _ _ _)))
                            go_wp2
                            · have ht : (!Sort.ltInt (G j') (G a)) = true := by assumption
                              go_roundw
                              case rel => exact ⟨j' - 1, by go_num, by omega, by omega, Lib.hid (HA.out.drewN nq), Lib.hid ((scanDown_go (fun x => !Sort.ltInt x dk[a]!) dk i' j' hle2 (by omega) (by rw [← HG.out, ← HG.out]; exact ht)).symm.trans HS.out)⟩
                              case measure => simp [intOf]; omega
                            · have ht : (!Sort.ltInt (G j') (G a)) = false := by assumption
                              have hj2 := Lib.hid ((scanDown_end (fun x => !Sort.ltInt x dk[a]!) dk i' j' (Or.inr (by rw [← HG.out, ← HG.out]; exact ht))).symm.trans HS.out)
                              clear ht
                              have HA2 := Lib.hid (HA.out.drewN nq)
                              clear HA hcw
                              generalize wr.drewN nq = wr2 at HA2 ⊢
                              have HA := HA2
                              clear HA2
                              clear HS
                              have hlt3 := part_scans_lt Sort.ltInt a i j dk (by omega) hi2.out hj2.out hle2
                              have hcw := HA.out.cell G HG.out
                              have hfw := HA.out.frozen
                              go_wp2
                              go_region
                              all_goals go_wp2
                              go_roundw
                              case rel =>
                                refine ⟨i' + 1, j' - 1, Sort.swp dk i' j', by go_num, by go_num, by omega, by omega, by omega, Lib.hid ?_, Lib.hid ?_⟩
                                · rw [HG.out, HG.out]
                                  exact (HA.out.swap (by omega) (by omega)).drew
                                · rw [← HE2.out]; exact (part_go Sort.ltInt a i j dk hi2.out hj2.out (by omega)).symm
                              case measure => simp [intOf]; omega
                          · go_wp2_with fail
                            go_big_quiet (first | (go_at_call 47; refine Calls.quiet_of_same (less_any _ _ _)))
                            have hj2 := Lib.hid ((scanDown_end (fun x => !Sort.ltInt x dk[a]!) dk i' j' (Or.inl hle2)).symm.trans HS.out)
                            have HA2 := Lib.hid (HA.out.drewN nq)
                            clear HA hcw
                            generalize wr.drewN nq = wr2 at HA2 ⊢
                            have HA := HA2
                            clear HA2
                            clear HS
                            have e := part_break Sort.ltInt a i j dk hi2.out hj2.out (by omega)
                            rw [HE2.out] at e
                            have he := He.out
                            rw [e] at he
                            have He := Lib.hid he
                            clear he
                            clear HE2
                            have hcw := HA.out.cell G HG.out
                            have hfw := HA.out.frozen
                            by_cases hone2 : j' = a
                            · subst hone2
                              have hs9 := (HA.out.swap (i := j') (j := j') (by omega) (by omega)).drew
                              rw [← HG.out] at hs9
                              go_wp2
                              go_region
                              go_wp2
                              go_ret2
                              refine ⟨by rw [He.out]; rfl, hs9.end_ (by rw [He.out])⟩
                            · have hs9 := (HA.out.swap (i := j') (j := a) (by omega) (by omega)).drew
                              rw [← HG.out, ← HG.out] at hs9
                              go_wp2
                              go_region
                              go_wp2
                              go_ret2
                              refine ⟨by rw [He.out]; rfl, hs9.end_ (by rw [He.out])⟩
                    · go_wp2_with fail
                      go_big_quiet (first | (go_at_call 47; refine Calls.quiet_of_same (less_any _ _ _)))
                      go_wp2
                      have hi2 := Lib.hid ((scanUp_end (fun x => Sort.ltInt x dk[a]!) dk j i' (Or.inl hle)).symm.trans HS.out)
                      have HA2 := Lib.hid (HA.out.drewN nq)
                      clear HA hcw
                      generalize wr.drewN nq = wr2 at HA2 ⊢
                      have HA := HA2
                      clear HA2
                      clear HS
                      go_loopw [11] (fun vj w2 => ∃ j' : Nat, vj = .int .i64 j' ∧ j' ≤ j ∧ i' ≤ j' + 1 ∧ Hid (At w w2 g off n dk) ∧ Hid (Sort.scanDown (fun x => !Sort.ltInt x dk[a]!) dk i' j' = Sort.scanDown (fun x => !Sort.ltInt x dk[a]!) dk i' j)) (fun vj _ => (intOf vj).toNat)
                      case atStart => exact ⟨j, rfl, Nat.le_refl _, hij', HA, Lib.hid rfl⟩
                      case round =>
                        clear HA
                        obtain ⟨j', rfl, hjj, hij2, HA, HS⟩ := hrel
                        have hcw := HA.out.cell G HG.out
                        by_cases hle2 : i' ≤ j'
                        · exfalso
                          omega
                        · go_wp2_with fail
                          go_big_quiet (first | (go_at_call 47; refine Calls.quiet_of_same (less_any _ _ _)))
                          have hj2 := Lib.hid ((scanDown_end (fun x => !Sort.ltInt x dk[a]!) dk i' j' (Or.inl hle2)).symm.trans HS.out)
                          have HA2 := Lib.hid (HA.out.drewN nq)
                          clear HA hcw
                          generalize wr.drewN nq = wr2 at HA2 ⊢
                          have HA := HA2
                          clear HA2
                          clear HS
                          have e := part_break Sort.ltInt a i j dk hi2.out hj2.out (by omega)
                          rw [HE2.out] at e
                          have he := He.out
                          rw [e] at he
                          have He := Lib.hid he
                          clear he
                          clear HE2
                          have hcw := HA.out.cell G HG.out
                          have hfw := HA.out.frozen
                          by_cases hone2 : j' = a
                          · subst hone2
                            have hs9 := (HA.out.swap (i := j') (j := j') (by omega) (by omega)).drew
                            rw [← HG.out] at hs9
                            go_wp2
                            go_region
                            go_wp2
                            go_ret2
                            refine ⟨by rw [He.out]; rfl, hs9.end_ (by rw [He.out])⟩
                          · have hs9 := (HA.out.swap (i := j') (j := a) (by omega) (by omega)).drew
                            rw [← HG.out, ← HG.out] at hs9
                            go_wp2
                            go_region
                            go_wp2
                            go_ret2
                            refine ⟨by rw [He.out]; rfl, hs9.end_ (by rw [He.out])⟩
            · go_wp2_with fail
              go_big_quiet (first | (go_at_call 47; refine Calls.quiet_of_same (less_any _ _ _)))
              have hj2 := Lib.hid ((scanDown_end (fun x => !Sort.ltInt x dk[a]!) dk i' j' (Or.inl hle2)).symm.trans HS.out)
              have HA2 := Lib.hid (HA.out.drewN nq)
              clear HA hcw
              generalize wr.drewN nq = wr2 at HA2 ⊢
              have HA := HA2
              clear HA2
              clear HS
              have he := part_first_break Sort.ltInt d a b pivot Hi.out Hj.out Hdk.out hi2.out hj2.out (by omega)
              rw [← HE.out] at he
              have He := Lib.hid he
              clear he
              clear HE Hi Hj Hdk
              have hcw := HA.out.cell G HG.out
              have hfw := HA.out.frozen
              by_cases hone2 : j' = a
              · subst hone2
                have hs9 := (HA.out.swap (i := j') (j := j') (by omega) (by omega)).drew
                rw [← HG.out] at hs9
                go_wp2
                go_region
                go_wp2
                go_ret2
                refine ⟨by rw [He.out]; rfl, hs9.end_ (by rw [He.out])⟩
              · have hs9 := (HA.out.swap (i := j') (j := a) (by omega) (by omega)).drew
                rw [← HG.out, ← HG.out] at hs9
                go_wp2
                go_region
                go_wp2
                go_ret2
                refine ⟨by rw [He.out]; rfl, hs9.end_ (by rw [He.out])⟩
      · go_wp2_with fail
        go_big_quiet (first | (go_at_call 47; refine Calls.quiet_of_same (less_any _ _ _)))
        go_wp2
        have hi2 := Lib.hid ((scanUp_end (fun x => Sort.ltInt x dk[a]!) dk j i' (Or.inl hle)).symm.trans HS.out)
        have HA2 := Lib.hid (HA.out.drewN nq)
        clear HA hcw
        generalize wr.drewN nq = wr2 at HA2 ⊢
        have HA := HA2
        clear HA2
        clear HS
        go_loopw [11] (fun vj w2 => ∃ j' : Nat, vj = .int .i64 j' ∧ j' ≤ j ∧ i' ≤ j' + 1 ∧ Hid (At w w2 g off n dk) ∧ Hid (Sort.scanDown (fun x => !Sort.ltInt x dk[a]!) dk i' j' = Sort.scanDown (fun x => !Sort.ltInt x dk[a]!) dk i' j)) (fun vj _ => (intOf vj).toNat)
        case atStart => exact ⟨j, rfl, Nat.le_refl _, hij', HA, Lib.hid rfl⟩
        case round =>
          clear HA
          obtain ⟨j', rfl, hjj, hij2, HA, HS⟩ := hrel
          have hcw := HA.out.cell G HG.out
          by_cases hle2 : i' ≤ j'
          · exfalso
            omega
          · go_wp2_with fail
            go_big_quiet (first | (go_at_call 47; refine Calls.quiet_of_same (less_any _ _ _)))
            have hj2 := Lib.hid ((scanDown_end (fun x => !Sort.ltInt x dk[a]!) dk i' j' (Or.inl hle2)).symm.trans HS.out)
            have HA2 := Lib.hid (HA.out.drewN nq)
            clear HA hcw
            generalize wr.drewN nq = wr2 at HA2 ⊢
            have HA := HA2
            clear HA2
            clear HS
            have he := part_first_break Sort.ltInt d a b pivot Hi.out Hj.out Hdk.out hi2.out hj2.out (by omega)
            rw [← HE.out] at he
            have He := Lib.hid he
            clear he
            clear HE Hi Hj Hdk
            have hcw := HA.out.cell G HG.out
            have hfw := HA.out.frozen
            by_cases hone2 : j' = a
            · subst hone2
              have hs9 := (HA.out.swap (i := j') (j := j') (by omega) (by omega)).drew
              rw [← HG.out] at hs9
              go_wp2
              go_region
              go_wp2
              go_ret2
              refine ⟨by rw [He.out]; rfl, hs9.end_ (by rw [He.out])⟩
            · have hs9 := (HA.out.swap (i := j') (j := a) (by omega) (by omega)).drew
              rw [← HG.out, ← HG.out] at hs9
              go_wp2
              go_region
              go_wp2
              go_ret2
              refine ⟨by rw [He.out]; rfl, hs9.end_ (by rw [He.out])⟩
end Go.Proofs.Ytlikngepcbmhdaa.S64
