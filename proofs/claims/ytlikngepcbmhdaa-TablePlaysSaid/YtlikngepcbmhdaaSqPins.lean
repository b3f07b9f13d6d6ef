/- slices.partialInsertionSortOrdered at uint64. -/
import Derived.Test.YtlikngepcbmhdaaSqHeap
import Derived.Sort.WalkA6
set_option linter.unusedVariables false
set_option linter.unusedSimpArgs false
namespace Go.Proofs.Ytlikngepcbmhdaa.S64
open Go.RowKit Go.BigFrame

-- $1: the array; the row's facts
-- the drawn world becomes a letter
-- the round's end: $1 the array, $2 fixUp's proof
-- the stage upwards: $1 the array (HD: fixDown = it; HA), $2 a world's name
set_option maxHeartbeats 8000000 in
set_option maxRecDepth 100000 in
theorem pins_any (g off cap a b : Nat) (d : Array Int) (w : World) (hr : RowK w g off d) (hab : a < b) (hb : b ≤ d.size) (hsz : d.size ≤ 1000000) :
    Calls Try.prog 46 #[.slice (some ⟨g, off, none⟩) d.size cap, .int .i64 a, .int .i64 b] w fun e w' => e = .returned (.bool (Sort.partialInsertionSort Sort.ltInt d a b).2) ∧ RowK w' g off (Sort.partialInsertionSort Sort.ltInt d a b).1 ∧ w.grownBy w' (some g) := by
  obtain ⟨n, hn⟩ : ∃ n, n = d.size := ⟨_, rfl⟩
  have ha := At.refl hr hn.symm
  rw [← hn] at hb hsz ⊢
  obtain ⟨E, hE⟩ : ∃ E, E = Sort.partialIns Sort.ltInt a b 5 (a + 1) d := ⟨_, rfl⟩
  have hE' : Sort.partialInsertionSort Sort.ltInt d a b = E := by rw [hE]; rfl
  rw [hE']
  clear hE'
  have Ha := Lib.hid ha
  clear ha
  have HE := Lib.hid hE
  clear hE
  clear hr hn
  go_enter Try.func46, Try.ntmps46
  go_wp2
  go_loopw [7, 8] (fun vi vs wr => ∃ (i s : Nat) (dk : Array Int), vi = .int .i64 i ∧ vs = .int .i64 s ∧ s ≤ 5 ∧ a < i ∧ i ≤ b ∧ Hid (At w wr g off n dk) ∧ Hid (Sort.partialIns Sort.ltInt a b (5 - s) i dk = E)) (fun _ vs _ => 5 - (intOf vs).toNat)
  case atStart => exact ⟨a + 1, 0, d, by go_num, rfl, by omega, by omega, by omega, Ha, Lib.hid HE.out.symm⟩
  case round =>
    clear Ha HE
    obtain ⟨i, s, dk, rfl, rfl, hs5, hai, hib, HA, HO⟩ := hrel
    by_cases hs : s < 5
    · have hsz5 : (s : Int) < 5 := by omega
      go_wp2
      go_loopw [7] (fun vi wr2 => ∃ k : Nat, vi = .int .i64 k ∧ i ≤ k ∧ k ≤ b ∧ Hid (At w wr2 g off n dk) ∧ Hid (Sort.scanSorted Sort.ltInt dk b k = Sort.scanSorted Sort.ltInt dk b i)) (fun vi _ => b - (intOf vi).toNat)
      case atStart => exact ⟨i, rfl, Nat.le_refl _, hib, HA, Lib.hid rfl⟩
      case round =>
        clear HA
        obtain ⟨k, rfl, hik, hkb, HA, HS⟩ := hrel
        obtain ⟨G, hG⟩ : ∃ G : Nat → Int, ∀ t, G t = dk[t]! := ⟨fun t => dk[t]!, fun _ => rfl⟩
        have hcw := HA.out.cell G hG
        have hfw := HA.out.frozen
        have HG := Lib.hid hG
        clear hG
        by_cases hkb' : k < b
        · by_cases h50 : b - a < 50
          · have h50z : (b : Int) - (a : Int) < 50 := by omega
            go_wp2_with fail
            go_big_quiet (first | (go_at_call 47; refine Calls.quiet_of_same (less_any _ _ _)))
            go_wp2_with fail
            · have hl : Sort.ltInt (G k) (G (k - 1)) = false := by
                have h : (!Sort.ltInt (G k) (G (k - 1))) = true := by assumption
                simpa using h
              go_roundw
              case rel => exact ⟨k + 1, by go_num, by omega, by omega, Lib.hid (HA.out.drewN nq), Lib.hid (by rw [← HS.out, scanSorted_go Sort.ltInt dk b k hkb' (by rw [← HG.out, ← HG.out]; exact hl)])⟩
              case measure => simp [intOf]; omega
            · have hl : Sort.ltInt (G k) (G (k - 1)) = true := by
                have h : (!Sort.ltInt (G k) (G (k - 1))) = false := by assumption
                simpa using h
              have HK : Hid (Sort.scanSorted Sort.ltInt dk b i = k) := Lib.hid (by
                rw [← HS.out, scanSorted_stop Sort.ltInt dk b k (Or.inr (by rw [← HG.out, ← HG.out]; exact hl))])
              clear hl HS
              have HA2 := Lib.hid (HA.out.drewN nq)
              clear HA hcw hfw
              generalize wr.drewN nq = w5 at HA2 ⊢
              have HA := HA2
              clear HA2
              obtain ⟨G, hG⟩ : ∃ G : Nat → Int, ∀ t, G t = dk[t]! := ⟨fun t => dk[t]!, fun _ => rfl⟩
              have hcw := HA.out.cell G hG
              have hfw := HA.out.frozen
              have HG := Lib.hid hG
              clear hG
              have hkne : ¬ (k : Int) = (b : Int) := by omega
              have hkneb : ((k : Int) == (b : Int)) = false := by simpa using hkne
              go_ret
              have e := pi_short Sort.ltInt a b s i dk hs (by rw [HK.out]; omega) h50
              rw [HO.out] at e
              exact ⟨by rw [e]; rfl, HA.out.end_ (by rw [e])⟩
          · have h50z : ¬ (b : Int) - (a : Int) < 50 := by omega
            by_cases hu2 : b - k ≥ 2
            · have hu2z : (b : Int) - (k : Int) ≥ 2 := by omega
              go_wp2_with fail
              go_big_quiet (first | (go_at_call 47; refine Calls.quiet_of_same (less_any _ _ _)))
              go_wp2_with fail
              · have hl : Sort.ltInt (G k) (G (k - 1)) = false := by
                  have h : (!Sort.ltInt (G k) (G (k - 1))) = true := by assumption
                  simpa using h
                go_roundw
                case rel => exact ⟨k + 1, by go_num, by omega, by omega, Lib.hid (HA.out.drewN nq), Lib.hid (by rw [← HS.out, scanSorted_go Sort.ltInt dk b k hkb' (by rw [← HG.out, ← HG.out]; exact hl)])⟩
                case measure => simp [intOf]; omega
              · have hl : Sort.ltInt (G k) (G (k - 1)) = true := by
                  have h : (!Sort.ltInt (G k) (G (k - 1))) = false := by assumption
                  simpa using h
                have HK : Hid (Sort.scanSorted Sort.ltInt dk b i = k) := Lib.hid (by
                  rw [← HS.out, scanSorted_stop Sort.ltInt dk b k (Or.inr (by rw [← HG.out, ← HG.out]; exact hl))])
                clear hl HS
                have HA2 := Lib.hid (HA.out.drewN nq)
                clear HA hcw hfw
                generalize wr.drewN nq = w5 at HA2 ⊢
                have HA := HA2
                clear HA2
                obtain ⟨G, hG⟩ : ∃ G : Nat → Int, ∀ t, G t = dk[t]! := ⟨fun t => dk[t]!, fun _ => rfl⟩
                have hcw := HA.out.cell G hG
                have hfw := HA.out.frozen
                have HG := Lib.hid hG
                clear hG
                have hkne : ¬ (k : Int) = (b : Int) := by omega
                have hkneb : ((k : Int) == (b : Int)) = false := by simpa using hkne
                go_region
                have h2 := (HA.out.swap (i := k) (j := k - 1) (by omega) (by omega)).drew
                rw [← HG.out, ← HG.out] at h2
                obtain ⟨ds, hds⟩ : ∃ ds, ds = Sort.swp dk k (k - 1) := ⟨_, rfl⟩
                rw [← hds] at h2
                have Hds := Lib.hid hds
                clear hds
                have H2 := Lib.hid h2
                clear h2
                clear HA hcw hfw
                generalize World.setCell _ _ _ = w6 at *
                have HA := Lib.hid H2.out
                clear H2
                by_cases hka : k - a ≥ 2
                · have hkaz : (k : Int) - (a : Int) ≥ 2 := by omega
                  go_wp2_with fail
                  go_loopw [9] (fun vj wr2 => ∃ (j : Nat) (dj : Array Int), vj = .int .i64 j ∧ j ≤ k - 1 ∧ Hid (At w wr2 g off n dj) ∧ Hid (Sort.shiftDown Sort.ltInt j dj = Sort.shiftDown Sort.ltInt (k - 1) (Sort.swp dk k (k - 1)))) (fun vj _ => (intOf vj).toNat)
                  case atStart => exact ⟨k - 1, ds, by congr 1; omega, Nat.le_refl _, HA, Lib.hid (by rw [Hds.out])⟩
                  case round =>
                    clear HA Hds
                    obtain ⟨j, dj, rfl, hjk, HA, HDn⟩ := hrel
                    by_cases hj1 : j ≥ 1
                    · have hj1z : (j : Int) ≥ 1 := by omega
                      obtain ⟨G, hG⟩ : ∃ G : Nat → Int, ∀ t, G t = dj[t]! := ⟨fun t => dj[t]!, fun _ => rfl⟩
                      have hcw := HA.out.cell G hG
                      have hfw := HA.out.frozen
                      have HG := Lib.hid hG
                      clear hG
                      go_wp2
                      go_big_quiet (first | (go_at_call 47; refine Calls.quiet_of_same (less_any _ _ _)))
                      go_wp2_with fail
                      · have hl : Sort.ltInt (G j) (G (j - 1)) = false := by
                          have h : (!Sort.ltInt (G j) (G (j - 1))) = true := by assumption
                          simpa using h
                        have HD : Hid (Sort.fixDown Sort.ltInt a k (Sort.swp dk k (k - 1)) = dj) := Lib.hid (by
                          unfold Sort.fixDown; rw [if_pos hka, ← HDn.out, shiftDown_stop Sort.ltInt j dj (Or.inr (by rw [← HG.out, ← HG.out]; exact hl))])
                        clear hl
                        have HA2 := Lib.hid (HA.out.drewN nq)
                        clear HA hcw hfw
                        generalize wr.drewN nq = w7 at HA2 ⊢
                        have HA := HA2
                        clear HA2
                        clear HG HDn
                        go_loopw [10] (fun vj wr2 => ∃ (j : Nat) (du : Array Int), vj = .int .i64 j ∧ k + 1 ≤ j ∧ j ≤ b ∧ Hid (At w wr2 g off n du) ∧ Hid (Sort.shiftUp Sort.ltInt b j du = Sort.shiftUp Sort.ltInt b (k + 1) dj)) (fun vj _ => b - (intOf vj).toNat)
                        case atStart => exact ⟨k + 1, dj, by go_num, Nat.le_refl _, by omega, HA, Lib.hid rfl⟩
                        case round =>
                          clear HA
                          obtain ⟨j, du, rfl, hkj, hjb, HA, HU⟩ := hrel
                          by_cases hjb2 : j < b
                          · have hjb2z : (j : Int) < (b : Int) := by omega
                            obtain ⟨G, hG⟩ : ∃ G : Nat → Int, ∀ t, G t = du[t]! := ⟨fun t => du[t]!, fun _ => rfl⟩
                            have hcw := HA.out.cell G hG
                            have hfw := HA.out.frozen
                            have HG := Lib.hid hG
                            clear hG
                            go_wp2
                            go_big_quiet (first | (go_at_call 47; refine Calls.quiet_of_same (less_any _ _ _)))
                            go_wp2_with fail
                            · have hl : Sort.ltInt (G j) (G (j - 1)) = false := by
                                have h : (!Sort.ltInt (G j) (G (j - 1))) = true := by assumption
                                simpa using h
                              have HA2 := Lib.hid (HA.out.drewN nq)
                              clear HA hcw hfw
                              generalize wr.drewN nq = w8 at HA2 ⊢
                              have HA := HA2
                              clear HA2
                              go_roundw
                              case rel =>
                                refine ⟨k, s + 1, du, rfl, by go_num, by omega, by omega, by omega, HA, Lib.hid ?_⟩
                                rw [← HO.out, pi_go Sort.ltInt a b s i k dk (by omega) HK.out (by omega) (by omega), HD.out, show Sort.fixUp Sort.ltInt b k dj = du from by unfold Sort.fixUp; rw [if_pos hu2, ← HU.out, shiftUp_stop Sort.ltInt b j du (Or.inr (by rw [← HG.out, ← HG.out]; exact hl))]]
                              case measure => simp [intOf]; omega
                            · have hl : Sort.ltInt (G j) (G (j - 1)) = true := by
                                have h : (!Sort.ltInt (G j) (G (j - 1))) = false := by assumption
                                simpa using h
                              go_region
                              all_goals go_wp2
                              go_roundw
                              case rel =>
                                refine ⟨j + 1, Sort.swp du j (j - 1), by go_num, by omega, by omega, Lib.hid ?_, Lib.hid ?_⟩
                                · rw [HG.out, HG.out]
                                  exact (HA.out.drewN _).swap (by omega) (by omega)
                                · rw [← HU.out, shiftUp_go Sort.ltInt b j du (by omega) (by rw [← HG.out, ← HG.out]; exact hl)]
                              case measure => simp [intOf]; omega
                          · have hjb2z : ¬ (j : Int) < (b : Int) := by omega
                            go_wp2
                            go_roundw
                            case rel =>
                              refine ⟨k, s + 1, du, rfl, by go_num, by omega, by omega, by omega, HA, Lib.hid ?_⟩
                              rw [← HO.out, pi_go Sort.ltInt a b s i k dk (by omega) HK.out (by omega) (by omega), HD.out, show Sort.fixUp Sort.ltInt b k dj = du from by unfold Sort.fixUp; rw [if_pos hu2, ← HU.out, shiftUp_stop Sort.ltInt b j du (Or.inl (by omega))]]
                            case measure => simp [intOf]; omega
                      · have hl : Sort.ltInt (G j) (G (j - 1)) = true := by
                          have h : (!Sort.ltInt (G j) (G (j - 1))) = false := by assumption
                          simpa using h
                        go_region
                        all_goals go_wp2
                        go_roundw
                        case rel =>
                          refine ⟨j - 1, Sort.swp dj j (j - 1), by congr 1; omega, by omega, Lib.hid ?_, Lib.hid ?_⟩
                          · rw [HG.out, HG.out]
                            exact (HA.out.drewN _).swap (by omega) (by omega)
                          · rw [← HDn.out, shiftDown_go Sort.ltInt j dj (by omega) (by rw [← HG.out, ← HG.out]; exact hl)]
                        case measure => simp [intOf]; omega
                    · have hj1z : ¬ (j : Int) ≥ 1 := by omega
                      have HD : Hid (Sort.fixDown Sort.ltInt a k (Sort.swp dk k (k - 1)) = dj) := Lib.hid (by
                        unfold Sort.fixDown; rw [if_pos hka, ← HDn.out, shiftDown_stop Sort.ltInt j dj (Or.inl (by omega))])
                      go_wp2_with fail
                      clear HDn
                      go_loopw [10] (fun vj wr2 => ∃ (j : Nat) (du : Array Int), vj = .int .i64 j ∧ k + 1 ≤ j ∧ j ≤ b ∧ Hid (At w wr2 g off n du) ∧ Hid (Sort.shiftUp Sort.ltInt b j du = Sort.shiftUp Sort.ltInt b (k + 1) dj)) (fun vj _ => b - (intOf vj).toNat)
                      case atStart => exact ⟨k + 1, dj, by go_num, Nat.le_refl _, by omega, HA, Lib.hid rfl⟩
                      case round =>
                        clear HA
                        obtain ⟨j, du, rfl, hkj, hjb, HA, HU⟩ := hrel
                        by_cases hjb2 : j < b
                        · have hjb2z : (j : Int) < (b : Int) := by omega
                          obtain ⟨G, hG⟩ : ∃ G : Nat → Int, ∀ t, G t = du[t]! := ⟨fun t => du[t]!, fun _ => rfl⟩
                          have hcw := HA.out.cell G hG
                          have hfw := HA.out.frozen
                          have HG := Lib.hid hG
                          clear hG
                          go_wp2
                          go_big_quiet (first | (go_at_call 47; refine Calls.quiet_of_same (less_any _ _ _)))
                          go_wp2_with fail
                          · have hl : Sort.ltInt (G j) (G (j - 1)) = false := by
                              have h : (!Sort.ltInt (G j) (G (j - 1))) = true := by assumption
                              simpa using h
                            have HA2 := Lib.hid (HA.out.drewN nq)
                            clear HA hcw hfw
                            generalize wr.drewN nq = w8 at HA2 ⊢
                            have HA := HA2
                            clear HA2
                            go_roundw
                            case rel =>
                              refine ⟨k, s + 1, du, rfl, by go_num, by omega, by omega, by omega, HA, Lib.hid ?_⟩
                              rw [← HO.out, pi_go Sort.ltInt a b s i k dk (by omega) HK.out (by omega) (by omega), HD.out, show Sort.fixUp Sort.ltInt b k dj = du from by unfold Sort.fixUp; rw [if_pos hu2, ← HU.out, shiftUp_stop Sort.ltInt b j du (Or.inr (by rw [← HG.out, ← HG.out]; exact hl))]]
                            case measure => simp [intOf]; omega
                          · have hl : Sort.ltInt (G j) (G (j - 1)) = true := by
                              have h : (!Sort.ltInt (G j) (G (j - 1))) = false := by assumption
                              simpa using h
                            go_region
                            all_goals go_wp2
                            go_roundw
                            case rel =>
                              refine ⟨j + 1, Sort.swp du j (j - 1), by go_num, by omega, by omega, Lib.hid ?_, Lib.hid ?_⟩
                              · rw [HG.out, HG.out]
                                exact (HA.out.drewN _).swap (by omega) (by omega)
                              · rw [← HU.out, shiftUp_go Sort.ltInt b j du (by omega) (by rw [← HG.out, ← HG.out]; exact hl)]
                            case measure => simp [intOf]; omega
                        · have hjb2z : ¬ (j : Int) < (b : Int) := by omega
                          go_wp2
                          go_roundw
                          case rel =>
                            refine ⟨k, s + 1, du, rfl, by go_num, by omega, by omega, by omega, HA, Lib.hid ?_⟩
                            rw [← HO.out, pi_go Sort.ltInt a b s i k dk (by omega) HK.out (by omega) (by omega), HD.out, show Sort.fixUp Sort.ltInt b k dj = du from by unfold Sort.fixUp; rw [if_pos hu2, ← HU.out, shiftUp_stop Sort.ltInt b j du (Or.inl (by omega))]]
                          case measure => simp [intOf]; omega
                · have hkaz : ¬ (k : Int) - (a : Int) ≥ 2 := by omega
                  have HD : Hid (Sort.fixDown Sort.ltInt a k (Sort.swp dk k (k - 1)) = ds) := Lib.hid (by
                    unfold Sort.fixDown; rw [if_neg hka, Hds.out])
                  go_wp2_with fail
                  go_loopw [10] (fun vj wr2 => ∃ (j : Nat) (du : Array Int), vj = .int .i64 j ∧ k + 1 ≤ j ∧ j ≤ b ∧ Hid (At w wr2 g off n du) ∧ Hid (Sort.shiftUp Sort.ltInt b j du = Sort.shiftUp Sort.ltInt b (k + 1) ds)) (fun vj _ => b - (intOf vj).toNat)
                  case atStart => exact ⟨k + 1, ds, by go_num, Nat.le_refl _, by omega, HA, Lib.hid rfl⟩
                  case round =>
                    clear HA
                    obtain ⟨j, du, rfl, hkj, hjb, HA, HU⟩ := hrel
                    by_cases hjb2 : j < b
                    · have hjb2z : (j : Int) < (b : Int) := by omega
                      obtain ⟨G, hG⟩ : ∃ G : Nat → Int, ∀ t, G t = du[t]! := ⟨fun t => du[t]!, fun _ => rfl⟩
                      have hcw := HA.out.cell G hG
                      have hfw := HA.out.frozen
                      have HG := Lib.hid hG
                      clear hG
                      go_wp2
                      go_big_quiet (first | (go_at_call 47; refine Calls.quiet_of_same (less_any _ _ _)))
                      go_wp2_with fail
                      · have hl : Sort.ltInt (G j) (G (j - 1)) = false := by
                          have h : (!Sort.ltInt (G j) (G (j - 1))) = true := by assumption
                          simpa using h
                        have HA2 := Lib.hid (HA.out.drewN nq)
                        clear HA hcw hfw
                        generalize wr.drewN nq = w8 at HA2 ⊢
                        have HA := HA2
                        clear HA2
                        go_roundw
                        case rel =>
                          refine ⟨k, s + 1, du, rfl, by go_num, by omega, by omega, by omega, HA, Lib.hid ?_⟩
                          rw [← HO.out, pi_go Sort.ltInt a b s i k dk (by omega) HK.out (by omega) (by omega), HD.out, show Sort.fixUp Sort.ltInt b k ds = du from by unfold Sort.fixUp; rw [if_pos hu2, ← HU.out, shiftUp_stop Sort.ltInt b j du (Or.inr (by rw [← HG.out, ← HG.out]; exact hl))]]
                        case measure => simp [intOf]; omega
                      · have hl : Sort.ltInt (G j) (G (j - 1)) = true := by
                          have h : (!Sort.ltInt (G j) (G (j - 1))) = false := by assumption
                          simpa using h
                        go_region
                        all_goals go_wp2
                        go_roundw
                        case rel =>
                          refine ⟨j + 1, Sort.swp du j (j - 1), by go_num, by omega, by omega, Lib.hid ?_, Lib.hid ?_⟩
                          · rw [HG.out, HG.out]
                            exact (HA.out.drewN _).swap (by omega) (by omega)
                          · rw [← HU.out, shiftUp_go Sort.ltInt b j du (by omega) (by rw [← HG.out, ← HG.out]; exact hl)]
                        case measure => simp [intOf]; omega
                    · have hjb2z : ¬ (j : Int) < (b : Int) := by omega
                      go_wp2
                      go_roundw
                      case rel =>
                        refine ⟨k, s + 1, du, rfl, by go_num, by omega, by omega, by omega, HA, Lib.hid ?_⟩
                        rw [← HO.out, pi_go Sort.ltInt a b s i k dk (by omega) HK.out (by omega) (by omega), HD.out, show Sort.fixUp Sort.ltInt b k ds = du from by unfold Sort.fixUp; rw [if_pos hu2, ← HU.out, shiftUp_stop Sort.ltInt b j du (Or.inl (by omega))]]
                      case measure => simp [intOf]; omega
            · have hu2z : ¬ (b : Int) - (k : Int) ≥ 2 := by omega
              go_wp2_with fail
              go_big_quiet (first | (go_at_call 47; refine Calls.quiet_of_same (less_any _ _ _)))
              go_wp2_with fail
              · have hl : Sort.ltInt (G k) (G (k - 1)) = false := by
                  have h : (!Sort.ltInt (G k) (G (k - 1))) = true := by assumption
                  simpa using h
                go_roundw
                case rel => exact ⟨k + 1, by go_num, by omega, by omega, Lib.hid (HA.out.drewN nq), Lib.hid (by rw [← HS.out, scanSorted_go Sort.ltInt dk b k hkb' (by rw [← HG.out, ← HG.out]; exact hl)])⟩
                case measure => simp [intOf]; omega
              · have hl : Sort.ltInt (G k) (G (k - 1)) = true := by
                  have h : (!Sort.ltInt (G k) (G (k - 1))) = false := by assumption
                  simpa using h
                have HK : Hid (Sort.scanSorted Sort.ltInt dk b i = k) := Lib.hid (by
                  rw [← HS.out, scanSorted_stop Sort.ltInt dk b k (Or.inr (by rw [← HG.out, ← HG.out]; exact hl))])
                clear hl HS
                have HA2 := Lib.hid (HA.out.drewN nq)
                clear HA hcw hfw
                generalize wr.drewN nq = w5 at HA2 ⊢
                have HA := HA2
                clear HA2
                obtain ⟨G, hG⟩ : ∃ G : Nat → Int, ∀ t, G t = dk[t]! := ⟨fun t => dk[t]!, fun _ => rfl⟩
                have hcw := HA.out.cell G hG
                have hfw := HA.out.frozen
                have HG := Lib.hid hG
                clear hG
                have hkne : ¬ (k : Int) = (b : Int) := by omega
                have hkneb : ((k : Int) == (b : Int)) = false := by simpa using hkne
                go_region
                have h2 := (HA.out.swap (i := k) (j := k - 1) (by omega) (by omega)).drew
                rw [← HG.out, ← HG.out] at h2
                obtain ⟨ds, hds⟩ : ∃ ds, ds = Sort.swp dk k (k - 1) := ⟨_, rfl⟩
                rw [← hds] at h2
                have Hds := Lib.hid hds
                clear hds
                have H2 := Lib.hid h2
                clear h2
                clear HA hcw hfw
                generalize World.setCell _ _ _ = w6 at *
                have HA := Lib.hid H2.out
                clear H2
                by_cases hka : k - a ≥ 2
                · have hkaz : (k : Int) - (a : Int) ≥ 2 := by omega
                  go_wp2_with fail
                  go_loopw [9] (fun vj wr2 => ∃ (j : Nat) (dj : Array Int), vj = .int .i64 j ∧ j ≤ k - 1 ∧ Hid (At w wr2 g off n dj) ∧ Hid (Sort.shiftDown Sort.ltInt j dj = Sort.shiftDown Sort.ltInt (k - 1) (Sort.swp dk k (k - 1)))) (fun vj _ => (intOf vj).toNat)
                  case atStart => exact ⟨k - 1, ds, by congr 1; omega, Nat.le_refl _, HA, Lib.hid (by rw [Hds.out])⟩
                  case round =>
                    clear HA Hds
                    obtain ⟨j, dj, rfl, hjk, HA, HDn⟩ := hrel
                    by_cases hj1 : j ≥ 1
                    · have hj1z : (j : Int) ≥ 1 := by omega
                      obtain ⟨G, hG⟩ : ∃ G : Nat → Int, ∀ t, G t = dj[t]! := ⟨fun t => dj[t]!, fun _ => rfl⟩
                      have hcw := HA.out.cell G hG
                      have hfw := HA.out.frozen
                      have HG := Lib.hid hG
                      clear hG
                      go_wp2
                      go_big_quiet (first | (go_at_call 47; refine Calls.quiet_of_same (less_any _ _ _)))
                      go_wp2_with fail
                      · have hl : Sort.ltInt (G j) (G (j - 1)) = false := by
                          have h : (!Sort.ltInt (G j) (G (j - 1))) = true := by assumption
                          simpa using h
                        have HD : Hid (Sort.fixDown Sort.ltInt a k (Sort.swp dk k (k - 1)) = dj) := Lib.hid (by
                          unfold Sort.fixDown; rw [if_pos hka, ← HDn.out, shiftDown_stop Sort.ltInt j dj (Or.inr (by rw [← HG.out, ← HG.out]; exact hl))])
                        clear hl
                        have HA2 := Lib.hid (HA.out.drewN nq)
                        clear HA hcw hfw
                        generalize wr.drewN nq = w7 at HA2 ⊢
                        have HA := HA2
                        clear HA2
                        clear HG HDn
                        all_goals (
                          go_roundw
                          case rel =>
                            refine ⟨k, s + 1, dj, rfl, by go_num, by omega, by omega, by omega, HA, Lib.hid ?_⟩
                            rw [← HO.out, pi_go Sort.ltInt a b s i k dk (by omega) HK.out (by omega) (by omega), HD.out, show Sort.fixUp Sort.ltInt b k dj = dj from by unfold Sort.fixUp; rw [if_neg hu2]]
                          case measure => simp [intOf]; omega
                          )
                      · have hl : Sort.ltInt (G j) (G (j - 1)) = true := by
                          have h : (!Sort.ltInt (G j) (G (j - 1))) = false := by assumption
                          simpa using h
                        go_region
                        all_goals go_wp2
                        go_roundw
                        case rel =>
                          refine ⟨j - 1, Sort.swp dj j (j - 1), by congr 1; omega, by omega, Lib.hid ?_, Lib.hid ?_⟩
                          · rw [HG.out, HG.out]
                            exact (HA.out.drewN _).swap (by omega) (by omega)
                          · rw [← HDn.out, shiftDown_go Sort.ltInt j dj (by omega) (by rw [← HG.out, ← HG.out]; exact hl)]
                        case measure => simp [intOf]; omega
                    · have hj1z : ¬ (j : Int) ≥ 1 := by omega
                      have HD : Hid (Sort.fixDown Sort.ltInt a k (Sort.swp dk k (k - 1)) = dj) := Lib.hid (by
                        unfold Sort.fixDown; rw [if_pos hka, ← HDn.out, shiftDown_stop Sort.ltInt j dj (Or.inl (by omega))])
                      go_wp2_with fail
                      clear HDn
                      all_goals (
                        go_roundw
                        case rel =>
                          refine ⟨k, s + 1, dj, rfl, by go_num, by omega, by omega, by omega, HA, Lib.hid ?_⟩
                          rw [← HO.out, pi_go Sort.ltInt a b s i k dk (by omega) HK.out (by omega) (by omega), HD.out, show Sort.fixUp Sort.ltInt b k dj = dj from by unfold Sort.fixUp; rw [if_neg hu2]]
                        case measure => simp [intOf]; omega
                        )
                · have hkaz : ¬ (k : Int) - (a : Int) ≥ 2 := by omega
                  have HD : Hid (Sort.fixDown Sort.ltInt a k (Sort.swp dk k (k - 1)) = ds) := Lib.hid (by
                    unfold Sort.fixDown; rw [if_neg hka, Hds.out])
                  go_wp2_with fail
                  all_goals (
                    go_roundw
                    case rel =>
                      refine ⟨k, s + 1, ds, rfl, by go_num, by omega, by omega, by omega, HA, Lib.hid ?_⟩
                      rw [← HO.out, pi_go Sort.ltInt a b s i k dk (by omega) HK.out (by omega) (by omega), HD.out, show Sort.fixUp Sort.ltInt b k ds = ds from by unfold Sort.fixUp; rw [if_neg hu2]]
                    case measure => simp [intOf]; omega
                    )
        · have hkbz : ¬ (k : Int) < (b : Int) := by omega
          obtain rfl : k = b := by omega
          have hkd : decide ((k : Int) < (k : Int)) = false := decide_eq_false (by omega)
          go_wp2_with fail
          go_big_quiet (first | (go_at_call 47; refine Calls.quiet_of_same (less_any _ _ _)))
          go_wp2_with fail
          go_ret
          have e := pi_true Sort.ltInt a k s i dk hs (by rw [← HS.out, scanSorted_stop Sort.ltInt dk k k (Or.inl (by omega))])
          rw [HO.out] at e
          exact ⟨by rw [e]; rfl, (HA.out.drewN nq).end_ (by rw [e])⟩
    · have hsz5 : ¬ (s : Int) < 5 := by omega
      obtain rfl : s = 5 := by omega
      go_wp2
      go_ret
      have e := pi_end Sort.ltInt a b i dk
      rw [HO.out] at e
      exact ⟨by rw [e]; rfl, HA.out.end_ (by rw [e])⟩
end Go.Proofs.Ytlikngepcbmhdaa.S64
