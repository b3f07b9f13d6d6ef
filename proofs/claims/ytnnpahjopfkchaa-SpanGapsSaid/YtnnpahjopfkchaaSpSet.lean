/- transomref02.Set. -/
import Derived.Test.YtnnpahjopfkchaaSpMade
set_option linter.unusedVariables false
set_option linter.unusedSimpArgs false
namespace Go.Proofs.Ytnnpahjopfkchaa
open Go.RowKit Go.BigFrame

section
variable {w : World} {A : Option Addr} {l : List Sp} {cap : Nat}
set_option maxRecDepth 100000 in
set_option maxHeartbeats 4000000 in
theorem set_any (add : Bool) (x : Sp) (hm : l.length ≤ 900000) (hI : SpAt w.heap.size w A l) : Calls Try.prog 11 #[.slice A l.length cap, spV x, .bool add] w (SetPost w (setR add l x)) := by
  obtain ⟨w1, hw1⟩ : ∃ w1, w1 = w.alloc (.cells #[.int .u64 (x.1 : Int), .int .u64 (x.2 : Int)] 25) := ⟨_, rfl⟩
  have hB1 : Below w.heap.size w w1 := by rw [hw1]; exact (Below.refl _ w).alloc (Nat.le_refl _) _
  have hx : Blk w1 w.heap.size 25 #[.int .u64 (x.1 : Int), .int .u64 (x.2 : Int)] := by rw [hw1]; exact Blk.new _ _ _
  have hI1 := (hI.below hB1).mono hB1.size
  have c0 := rmay_any (cap := cap) (by omega) hI1
  have HW := Lib.hid hw1
  have HX := Lib.hid (And.intro hB1 (And.intro hx hI1))
  clear hw1 hB1 hx hI1 hI
  cases hmy : mayB l with
  | false =>
    have hR : setR add l x = ([], 8) := by unfold setR; rw [if_pos hmy]
    rw [hR]
    rw [hmy] at c0
    unfold spV SetPost
    clear hmy hR
    go_enter Try.func11, Try.ntmps11
    go_upto_region 1 with fail
    rw [← HW.out]
    go_wp2_with fail
    refine c0.mono ?_
    rintro e w2 ⟨rfl, hb⟩
    have HB := Lib.hid (HX.out.1.trans (hb.mono HX.out.1.size))
    clear hb
    go_wp2
    go_ret2
    exact ⟨none, 0, rfl, .inl rfl, HB.out⟩
  | true =>
    rw [hmy] at c0
    by_cases hlt : x.2 < x.1
    · have hR : setR add l x = ([], 2) := by unfold setR; rw [if_neg (by rw [hmy]; decide), if_pos hlt]
      rw [hR]
      have hz : (x.1 : Int) > (x.2 : Int) := by omega
      unfold spV SetPost
      clear hmy hR hlt
      go_enter Try.func11, Try.ntmps11
      go_upto_region 1 with fail
      rw [← HW.out]
      go_wp2_with fail
      refine c0.mono ?_
      rintro e w2 ⟨rfl, hb⟩
      have hx2 := HX.out.2.1.below hb HX.out.2.1.lt
      have x0 := hx2.cell 0
      have x1 := hx2.cell 1
      simp only [List.getElem?_toArray, List.getElem?_cons_zero, List.getElem?_cons_succ] at x0 x1
      have HB := Lib.hid (HX.out.1.trans (hb.mono HX.out.1.size))
      clear hb hx2
      go_wp2
      go_ret2
      exact ⟨none, 0, rfl, .inl rfl, HB.out⟩
    · have hR : setR add l x = if 256 < (setS add l x).length then ([], 6) else (setS add l x, 0) := by unfold setR; rw [if_neg (by rw [hmy]; decide), if_neg hlt]
      obtain ⟨hn, hn256⟩ := (mayB_iff l).1 hmy
      have hz : ¬ (x.1 : Int) > (x.2 : Int) := by omega
      obtain ⟨L, hL⟩ : ∃ L, L = setS add l x := ⟨_, rfl⟩
      rw [← hL] at hR
      have HR := Lib.hid (And.intro hR (And.intro hL (And.intro hn (Nat.le_of_not_lt hlt))))
      unfold spV
      clear hmy hR hlt hL hn
      go_enter Try.func11, Try.ntmps11
      go_upto_region 1 with fail
      rw [← HW.out]
      go_wp2_with fail
      refine c0.mono ?_
      rintro e w2 ⟨rfl, hb⟩
      have hx2 := HX.out.2.1.below hb HX.out.2.1.lt
      have x0 := hx2.cell 0
      have x1 := hx2.cell 1
      simp only [List.getElem?_toArray, List.getElem?_cons_zero, List.getElem?_cons_succ] at x0 x1
      have c1 := made_any (cap := cap) add x HR.out.2.2.1 HR.out.2.2.2 (by omega) ((HX.out.2.2.below hb).mono hb.size)
      rw [← HR.out.2.1] at c1
      unfold spV at c1
      have HB := Lib.hid (HX.out.1.trans (hb.mono HX.out.1.size))
      clear hb hx2
      go_wp2_with fail
      refine c1.mono ?_
      rintro e w3 ⟨A', c', rfl, ha, hb⟩
      have HA := Lib.hid (And.intro ha (HB.out.trans (hb.mono HB.out.size)))
      clear ha hb c1 x0 x1
      by_cases h256 : 256 < L.length
      · have h2z : (L.length : Int) > 256 := by omega
        have hR := HR.out.1
        rw [if_pos h256] at hR
        have HR2 := Lib.hid hR
        clear hR h256
        go_wp2
        go_ret2
        show SetPost _ _ _ _
        rw [HR2.out]
        exact ⟨none, 0, rfl, .inl rfl, HA.out.2⟩
      · have h2z : ¬ (L.length : Int) > 256 := by omega
        have hR := HR.out.1
        rw [if_neg h256] at hR
        have HR2 := Lib.hid hR
        clear hR h256
        go_wp2
        go_ret2
        show SetPost _ _ _ _
        rw [HR2.out]
        exact ⟨A', c', rfl, HA.out.1, HA.out.2⟩
end
end Go.Proofs.Ytnnpahjopfkchaa
