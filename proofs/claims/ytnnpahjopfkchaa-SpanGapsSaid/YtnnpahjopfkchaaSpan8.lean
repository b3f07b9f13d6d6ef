/- transomref02.Covers. -/
import Derived.Test.YtnnpahjopfkchaaSpan5
import Derived.Laws.Bits64
set_option linter.unusedVariables false
set_option linter.unusedSimpArgs false
namespace Go.Proofs.Ytnnpahjopfkchaa
open Go.RowKit Go.BigFrame

section
variable {w : World} {A : Option Addr} {l : List Sp} {cap : Nat}
set_option maxRecDepth 100000 in
set_option maxHeartbeats 2000000 in
theorem rcovers_any (x : Sp) (hm : l.length ≤ 1000000) (hI : SpAt w.heap.size w A l) : ∃ b, CvP l x b ∧ Calls Try.prog 19 #[.slice A l.length cap, spV x] w fun e w' => e = .returned (.bool b) ∧ Below w.heap.size w w' := by
  obtain ⟨w1, hw1⟩ : ∃ w1, w1 = w.alloc (.cells #[.int .u64 (x.1 : Int), .int .u64 (x.2 : Int)] 25) := ⟨_, rfl⟩
  have hB1 : Below w.heap.size w w1 := by rw [hw1]; exact (Below.refl _ w).alloc (Nat.le_refl _) _
  have hx : Blk w1 w.heap.size 25 #[.int .u64 (x.1 : Int), .int .u64 (x.2 : Int)] := by rw [hw1]; exact Blk.new _ _ _
  have hI1 := (hI.below hB1).mono hB1.size
  have c0 := rmay_any (cap := cap) hm hI1
  have lm : (l.length : Int) ≤ 1000000 := by omega
  have x0 := hx.cell 0
  have x1 := hx.cell 1
  simp only [List.getElem?_toArray, List.getElem?_cons_zero, List.getElem?_cons_succ] at x0 x1
  have HW := Lib.hid hw1
  have HX := Lib.hid (And.intro hB1 (And.intro hx hI1))
  clear hw1 hB1 hx hI1 hI
  cases hmy : mayB l with
  | false =>
    refine ⟨false, ⟨fun h => (by cases h), fun h => (by rw [hmy] at h; cases h.1)⟩, ?_⟩
    rw [hmy] at c0
    unfold spV
    clear hmy x0 x1
    go_enter Try.func19, Try.ntmps19
    go_upto_region 1 with fail
    rw [← HW.out]
    go_wp2_with fail
    refine c0.mono ?_
    rintro e w2 ⟨rfl, hb⟩
    have hB := HX.out.1.trans (hb.mono HX.out.1.size)
    go_wp2
    go_ret
    exact ⟨rfl, hB⟩
  | true =>
    rw [hmy] at c0
    by_cases hxx : x.1 ≤ x.2
    · have hxz : ¬ (x.1 : Int) > (x.2 : Int) := by omega
      by_cases hee : x.1 = x.2
      · refine ⟨true, ⟨fun _ => ⟨hmy, hxx, .inl hee⟩, fun _ => rfl⟩, ?_⟩
        have hez : (x.1 : Int) = (x.2 : Int) := by omega
        have heb : ((x.1 : Int) == (x.2 : Int)) = true := by simp [hez]
        unfold spV
        clear hmy hxx hee hez x0 x1
        go_enter Try.func19, Try.ntmps19
        go_upto_region 1 with fail
        rw [← HW.out]
        go_wp2_with fail
        refine c0.mono ?_
        rintro e w2 ⟨rfl, hb⟩
        have hx2 := HX.out.2.1.below hb HX.out.2.1.lt
        have x0 := hx2.cell 0
        have x1 := hx2.cell 1
        simp only [List.getElem?_toArray, List.getElem?_cons_zero, List.getElem?_cons_succ] at x0 x1
        have hB := HX.out.1.trans (hb.mono HX.out.1.size)
        go_wp2
        go_ret
        exact ⟨rfl, hB⟩
      · have hez : ¬ (x.1 : Int) = (x.2 : Int) := by omega
        have heb : ((x.1 : Int) == (x.2 : Int)) = false := by simp [hez]
        obtain ⟨N, hN⟩ := stopG (fun j => (spn l j).1 ≤ x.1 ∧ x.2 ≤ (spn l j).2) l.length
        obtain ⟨b, hb⟩ : ∃ b, b = decide (N < l.length) := ⟨_, rfl⟩
        refine ⟨b, ?_, ?_⟩
        · rw [CvP, hb, decide_eq_true_iff, ← hN.ex]
          constructor
          · intro h; exact ⟨hmy, hxx, .inr (mem_spn.2 h)⟩
          · rintro ⟨_, _, h⟩
            rcases h with h | h
            · exact absurd h hee
            · exact mem_spn.1 h
        have hNl := hN.le
        have HY := Lib.hid (And.intro hN hb)
        unfold spV
        clear hmy hxx hee x0 x1 hN hb
        go_enter Try.func19, Try.ntmps19
        go_upto_region 1 with fail
        rw [← HW.out]
        go_wp2_with fail
        refine c0.mono ?_
        rintro e w2 ⟨rfl, hb⟩
        have hx2 := HX.out.2.1.below hb HX.out.2.1.lt
        have HZ := Lib.hid (And.intro hb hx2)
        have x0 := hx2.cell 0
        have x1 := hx2.cell 1
        simp only [List.getElem?_toArray, List.getElem?_cons_zero, List.getElem?_cons_succ] at x0 x1
        clear hx2 hb
        go_wp2
        clear x0 x1
        go_loopw [5] (fun i wr => ∃ k : Nat, i = .int .i64 k ∧ k ≤ N ∧ Hid (Below w1.heap.size w1 wr)) (fun i _ => l.length - (intOf i).toNat)
        case atStart => exact ⟨0, rfl, Nat.zero_le _, Lib.hid HZ.out.1⟩
        case round =>
          clear HZ
          obtain ⟨k, rfl, hk, HB⟩ := hrel
          have hx2 := HX.out.2.1.below HB.out HX.out.2.1.lt
          have x0 := hx2.cell 0
          have x1 := hx2.cell 1
          simp only [List.getElem?_toArray, List.getElem?_cons_zero, List.getElem?_cons_succ] at x0 x1
          clear hx2
          by_cases h1 : k < l.length
          · have h1z : (k : Int) < (l.length : Int) := by omega
            have k0 : (0 : Int) ≤ (k : Int) := by omega
            obtain ⟨bk, off, rfl, -, r1, r2⟩ := (HX.out.2.2.below HB.out).at_ h1
            rw [← spn_get l h1] at r1 r2
            obtain ⟨y, ey⟩ : ∃ y, y = spn l k := ⟨_, rfl⟩
            rw [← ey] at r1 r2
            by_cases hkN : k < N
            · have ho := HY.out.1.ahead k hkN
              simp only [← ey] at ho
              clear ey
              by_cases h2 : y.1 ≤ x.1
              · have h2z : (y.1 : Int) ≤ (x.1 : Int) := by omega
                have h3z : ¬ (x.2 : Int) ≤ (y.2 : Int) := fun h => ho ⟨h2, by omega⟩
                clear ho h2
                go_upto_region 8 with fail
                go_quiet (fail)
                go_wp2
                go_roundw
                case rel => exact ⟨k + 1, by go_num, hkN, by first | exact HB | exact Lib.hid (below_drewN HB.out _)⟩
                case measure => simp [intOf]; omega
              · have h2z : ¬ (y.1 : Int) ≤ (x.1 : Int) := by omega
                clear ho h2
                go_upto_region 8 with fail
                go_quiet (fail)
                go_wp2
                go_roundw
                case rel => exact ⟨k + 1, by go_num, hkN, by first | exact HB | exact Lib.hid (below_drewN HB.out _)⟩
                case measure => simp [intOf]; omega
            · obtain rfl : k = N := by omega
              have ho := HY.out.1.here h1
              simp only [← ey] at ho
              obtain rfl : b = true := by rw [HY.out.2]; exact decide_eq_true h1
              have h2z : (y.1 : Int) ≤ (x.1 : Int) := by have := ho.1; omega
              have h3z : (x.2 : Int) ≤ (y.2 : Int) := by have := ho.2; omega
              clear ey ho
              go_upto_region 8 with fail
              go_quiet (fail)
              go_wp2
              go_ret
              exact ⟨rfl, by first | exact HX.out.1.trans (HB.out.mono HX.out.1.size) | exact below_drewN (HX.out.1.trans (HB.out.mono HX.out.1.size)) _⟩
          · have h1z : ¬ (k : Int) < (l.length : Int) := by omega
            obtain rfl : b = false := by rw [HY.out.2]; exact decide_eq_false (by omega)
            go_wp2
            go_ret
            exact ⟨rfl, HX.out.1.trans (HB.out.mono HX.out.1.size)⟩
    · refine ⟨false, ⟨fun h => (by cases h), fun h => absurd h.2.1 hxx⟩, ?_⟩
      have hxz : (x.1 : Int) > (x.2 : Int) := by omega
      unfold spV
      clear hmy hxx x0 x1
      go_enter Try.func19, Try.ntmps19
      go_upto_region 1 with fail
      rw [← HW.out]
      go_wp2_with fail
      refine c0.mono ?_
      rintro e w2 ⟨rfl, hb⟩
      have hx2 := HX.out.2.1.below hb HX.out.2.1.lt
      have x0 := hx2.cell 0
      have x1 := hx2.cell 1
      simp only [List.getElem?_toArray, List.getElem?_cons_zero, List.getElem?_cons_succ] at x0 x1
      have hB := HX.out.1.trans (hb.mono HX.out.1.size)
      go_wp2
      go_ret
      exact ⟨rfl, hB⟩
end
end Go.Proofs.Ytnnpahjopfkchaa
