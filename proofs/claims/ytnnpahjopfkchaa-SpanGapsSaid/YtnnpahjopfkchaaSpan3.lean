/- span.at, Has, Gap, Covers, Len. -/
import Derived.Test.YtnnpahjopfkchaaSpan2
set_option linter.unusedVariables false
set_option linter.unusedSimpArgs false
namespace Go.Proofs.Ytnnpahjopfkchaa
open Go.RowKit Go.BigFrame

/-- what at answers -/
def AtP (l : List Sp) (n : Nat) (q : Sp) (b : Bool) : Prop := (b = true ∧ mayB l = true ∧ q ∈ l ∧ hasAt q n) ∨ (b = false ∧ q = (0, 0) ∧ (mayB l = false ∨ ¬ cov l n))
theorem atP (l : List Sp) (n N : Nat) (hN : StopH l n N) : AtP l n (if N < l.length ∧ mayB l = true then spn l N else (0, 0)) (decide (N < l.length ∧ mayB l = true)) := by
  by_cases h : N < l.length ∧ mayB l = true
  · rw [if_pos h, decide_eq_true h]
    refine .inl ⟨rfl, h.2, ?_, hN.here h.1⟩
    rw [spn_get l h.1]
    exact List.getElem_mem h.1
  · rw [if_neg h, decide_eq_false h]
    refine .inr ⟨rfl, rfl, ?_⟩
    cases hm : mayB l with
    | false => exact .inl rfl
    | true =>
      refine .inr fun hc => h ⟨hN.cov.1 hc, hm⟩
theorem AtP.uniq {l : List Sp} {n : Nat} {q : Sp} {b : Bool} (h : AtP l n q b) (hm : mayB l = true) : (b = true ↔ cov l n) ∧ ∀ r ∈ l, hasAt r n → q = r := by
  have hn := ((mayB_iff l).1 hm).1
  rcases h with ⟨rfl, _, h1, h2⟩ | ⟨rfl, _, h1⟩
  · exact ⟨⟨fun _ => ⟨q, h1, h2.1, h2.2⟩, fun _ => rfl⟩, fun r hr hr2 => hn.uniq h1 hr h2.1 h2.2 hr2.1 hr2.2⟩
  · rcases h1 with h1 | h1
    · rw [hm] at h1; cases h1
    · exact ⟨⟨fun h => (by cases h), fun h => absurd h h1⟩, fun r hr hr2 => absurd ⟨r, hr, hr2.1, hr2.2⟩ h1⟩
section
variable {w : World} {A : Option Addr} {l : List Sp} {cap : Nat}
set_option maxRecDepth 100000 in
set_option maxHeartbeats 2000000 in
theorem at_any (n : Nat) (hm : l.length ≤ 1000000) (hI : SpAt w.heap.size w A l) : ∃ q b, AtP l n q b ∧ Calls Try.prog 30 #[.slice A l.length cap, .int .u64 (n : Int)] w fun e w' => e = .returned (.tuple #[spV q, .bool b]) ∧ Below w.heap.size w w' := by
  obtain ⟨N, hN⟩ := stopH l n
  refine ⟨_, _, atP l n N hN, ?_⟩
  obtain ⟨w1, hw1⟩ : ∃ w1, w1 = (w.alloc (.cells #[.int .u64 (n : Int)] 23)).alloc (.cells #[.int .u64 0, .int .u64 0] 25) := ⟨_, rfl⟩
  have hB : Below w.heap.size w w1 := by rw [hw1]; exact ((Below.refl _ w).alloc (Nat.le_refl _) _).alloc (by simp) _
  have hk : HasNum w1 w.heap.size n := by
    rw [hw1]
    exact ⟨by simp; omega, ((Blk.new w 23 #[.int .u64 (n : Int)]).alloc _).cell 0⟩
  have hx : Blk w1 (w.heap.size + 1) 25 #[.int .u64 0, .int .u64 0] := by
    rw [hw1]
    have := Blk.new (w.alloc (.cells #[.int .u64 (n : Int)] 23)) 25 #[.int .u64 0, .int .u64 0]
    rwa [World.size_alloc] at this
  have hI1 := (hI.below hB).mono hB.size
  have c1 := index_any (cap := cap) w.heap.size n N hm hI1 hk hN
  have HW := Lib.hid hw1
  have HX := Lib.hid (And.intro hI1 (And.intro hx hB))
  have lm : (l.length : Int) ≤ 1000000 := by omega
  clear hw1 hB hk hx hI1 hI
  by_cases hlt : N < l.length
  · rw [if_pos hlt] at c1
    have hn0 : ¬ (N : Int) < 0 := by omega
    have hn1 : (0 : Int) ≤ (N : Int) := by omega
    have hn2 : (N : Int) < (l.length : Int) := by omega
    cases hmy : mayB l with
    | true =>
      rw [if_pos ⟨hlt, rfl⟩, decide_eq_true ⟨hlt, rfl⟩]
      obtain ⟨x, ex⟩ : ∃ x, x = spn l N := ⟨_, rfl⟩
      rw [← ex]
      have Ex := Lib.hid ex
      clear ex
      unfold spV
      go_enter Try.func30, Try.ntmps30
      go_upto_region 1 with fail
      rw [← HW.out]
      go_wp2_with fail
      refine c1.mono ?_
      rintro e w2 ⟨rfl, hb2⟩
      have c2 := may_any (cap := cap) hm ((HX.out.1.below hb2).mono hb2.size)
      rw [hmy] at c2
      go_wp2_with fail
      refine c2.mono ?_
      rintro e w3 ⟨rfl, hb3⟩
      have hB3 := HX.out.2.2.trans ((hb2.trans (hb3.mono hb2.size)).mono HX.out.2.2.size)
      have hx3 := (HX.out.2.1.below hb2 HX.out.2.1.lt).below hb3 (Nat.lt_of_lt_of_le HX.out.2.1.lt hb2.size)
      obtain ⟨b, off, rfl, hb, r1, r2⟩ := (HX.out.1.below (hb2.trans (hb3.mono hb2.size))).at_ hlt
      rw [← spn_get l hlt] at r1 r2
      rw [← Ex.out] at r1 r2
      have hne : b ≠ w.heap.size + 1 ∨ True := .inr trivial
      have c0 := hx3.cell 0
      have c1' := hx3.cell 1
      have fr := hx3.frozen
      simp only [List.getElem?_toArray, List.getElem?_cons_zero, List.getElem?_cons_succ] at c0 c1'
      have hs := (hx3.set_ 0 (.int .u64 (x.1 : Int))).set_ 1 (.int .u64 (x.2 : Int))
      have z0 := hs.cell 0
      have z1 := hs.cell 1
      simp at z0 z1
      have hBf := (hB3.setCell (p := ⟨w.heap.size + 1, 0, none⟩) (by simp) (.int .u64 (x.1 : Int))).setCell (p := ⟨w.heap.size + 1, 1, none⟩) (by simp) (.int .u64 (x.2 : Int))
      have HBf := Lib.hid hBf
      clear hBf
      have Hx3 := Lib.hid hx3
      clear hx3
      have HB3 := Lib.hid hB3
      clear hB3
      have Hs := Lib.hid hs
      clear hs
      clear hne hb2 hb3 c2 c1
      go_wp2
      exact bodyPost_ret (v := .tuple #[.agg #[.int .u64 (x.1 : Int), .int .u64 (x.2 : Int)], .bool true]) (by simp [results, Try.results30, go_sem, z0, z1]) rfl ⟨rfl, HBf.out⟩
    | false =>
      rw [if_neg (fun h => by cases h.2), decide_eq_false (fun h => by cases h.2)]
      unfold spV
      go_enter Try.func30, Try.ntmps30
      go_upto_region 1 with fail
      rw [← HW.out]
      go_wp2_with fail
      refine c1.mono ?_
      rintro e w2 ⟨rfl, hb2⟩
      have c2 := may_any (cap := cap) hm ((HX.out.1.below hb2).mono hb2.size)
      rw [hmy] at c2
      go_wp2_with fail
      refine c2.mono ?_
      rintro e w3 ⟨rfl, hb3⟩
      have hB3 := HX.out.2.2.trans ((hb2.trans (hb3.mono hb2.size)).mono HX.out.2.2.size)
      have hx3 := (HX.out.2.1.below hb2 HX.out.2.1.lt).below hb3 (Nat.lt_of_lt_of_le HX.out.2.1.lt hb2.size)
      have c0 := hx3.cell 0
      have c1' := hx3.cell 1
      have fr := hx3.frozen
      simp only [List.getElem?_toArray, List.getElem?_cons_zero, List.getElem?_cons_succ] at c0 c1'
      have hs := (hx3.set_ 0 (.int .u64 0)).set_ 1 (.int .u64 0)
      have z0 := hs.cell 0
      have z1 := hs.cell 1
      simp at z0 z1
      have hBf := (hB3.setCell (p := ⟨w.heap.size + 1, 0, none⟩) (by simp) (.int .u64 0)).setCell (p := ⟨w.heap.size + 1, 1, none⟩) (by simp) (.int .u64 0)
      have HBf := Lib.hid hBf
      clear hBf
      have Hx3 := Lib.hid hx3
      clear hx3
      have HB3 := Lib.hid hB3
      clear hB3
      have Hs := Lib.hid hs
      clear hs
      clear hb2 hb3 c2 c1
      go_wp2
      exact bodyPost_ret (v := .tuple #[.agg #[.int .u64 0, .int .u64 0], .bool false]) (by simp [results, Try.results30, go_sem, z0, z1]) rfl ⟨rfl, HBf.out⟩
  · rw [if_neg hlt] at c1
    rw [if_neg (fun h => hlt h.1), decide_eq_false (fun h => hlt h.1)]
    unfold spV
    go_enter Try.func30, Try.ntmps30
    go_upto_region 1 with fail
    rw [← HW.out]
    go_wp2_with fail
    refine c1.mono ?_
    rintro e w2 ⟨rfl, hb2⟩
    have hB3 := HX.out.2.2.trans (hb2.mono HX.out.2.2.size)
    have hx3 := HX.out.2.1.below hb2 HX.out.2.1.lt
    have c0 := hx3.cell 0
    have c1' := hx3.cell 1
    have fr := hx3.frozen
    simp only [List.getElem?_toArray, List.getElem?_cons_zero, List.getElem?_cons_succ] at c0 c1'
    have hs := (hx3.set_ 0 (.int .u64 0)).set_ 1 (.int .u64 0)
    have z0 := hs.cell 0
    have z1 := hs.cell 1
    simp at z0 z1
    have hBf := (hB3.setCell (p := ⟨w.heap.size + 1, 0, none⟩) (by simp) (.int .u64 0)).setCell (p := ⟨w.heap.size + 1, 1, none⟩) (by simp) (.int .u64 0)
    have HBf := Lib.hid hBf
    clear hBf
    have Hx3 := Lib.hid hx3
    clear hx3
    have HB3 := Lib.hid hB3
    clear hB3
    have Hs := Lib.hid hs
    clear hs
    clear hb2 c1
    go_wp2
    exact bodyPost_ret (v := .tuple #[.agg #[.int .u64 0, .int .u64 0], .bool false]) (by simp [results, Try.results30, go_sem, z0, z1]) rfl ⟨rfl, HBf.out⟩
end
end Go.Proofs.Ytnnpahjopfkchaa
