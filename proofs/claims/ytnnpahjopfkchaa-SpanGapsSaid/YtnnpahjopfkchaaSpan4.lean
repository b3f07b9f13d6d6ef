/- span.Has, Gap, Covers, Len. -/
import Derived.Test.YtnnpahjopfkchaaSpan3
set_option linter.unusedVariables false
set_option linter.unusedSimpArgs false
namespace Go.Proofs.Ytnnpahjopfkchaa
open Go.RowKit Go.BigFrame

def HasP (l : List Sp) (n : Nat) (b : Bool) : Prop := b = true ↔ mayB l = true ∧ cov l n
def GapP (l : List Sp) (n r : Nat) : Prop := (mayB l = false ∧ r = 0) ∨ (mayB l = true ∧ ((∃ q ∈ l, hasAt q n ∧ r = q.2) ∨ (¬ cov l n ∧ r = n)))
def CvP (l : List Sp) (x : Sp) (b : Bool) : Prop := b = true ↔ mayB l = true ∧ x.1 ≤ x.2 ∧ (x.1 = x.2 ∨ ∃ q ∈ l, q.1 ≤ x.1 ∧ x.2 ≤ q.2)
def U64 (l : List Sp) : Prop := ∀ q ∈ l, q.1 < 18446744073709551616 ∧ q.2 < 18446744073709551616
def lenK (l : List Sp) : Nat → Nat
  | 0 => 0
  | k + 1 => lenK l k + ((spn l k).2 - (spn l k).1)
theorem lenK_le {l : List Sp} (hn : Norm l) : ∀ k, k < l.length → lenK l (k + 1) ≤ (spn l k).2
  | 0, h => by have := (norm_okA hn 0 h).1; simp only [lenK]; omega
  | k + 1, h => by
    have ih := lenK_le hn k (by omega)
    have h1 := norm_okA hn (k + 1) h
    have h2 := h1.2 (by omega)
    rw [show k + 1 - 1 = k by omega] at h2
    have h3 := h1.1
    rw [lenK]
    omega
section
variable {w : World} {A : Option Addr} {l : List Sp} {cap : Nat}
set_option maxRecDepth 100000 in
theorem has_any (n : Nat) (hm : l.length ≤ 1000000) (hI : SpAt w.heap.size w A l) : ∃ b, HasP l n b ∧ Calls Try.prog 16 #[.slice A l.length cap, .int .u64 (n : Int)] w fun e w' => e = .returned (.bool b) ∧ Below w.heap.size w w' := by
  obtain ⟨q, b, hP, c1⟩ := at_any (cap := cap) n hm hI
  refine ⟨b, ?_, ?_⟩
  · rcases hP with ⟨rfl, h1, h2, h3⟩ | ⟨rfl, h1, h2⟩
    · exact ⟨fun _ => ⟨h1, q, h2, h3.1, h3.2⟩, fun _ => rfl⟩
    · refine ⟨fun h => (by cases h), fun ⟨h3, h4⟩ => ?_⟩
      rcases h2 with h2 | h2
      · rw [h2] at h3; cases h3
      · exact absurd h4 h2
  · unfold spV at c1
    clear hI hP
    go_enter Try.func16, Try.ntmps16
    go_wp2_with fail
    refine c1.mono ?_
    rintro e w2 ⟨rfl, hb⟩
    go_wp2
    go_ret
    exact ⟨rfl, hb.alloc hb.size _⟩
set_option maxRecDepth 100000 in
theorem gap_any (n : Nat) (hm : l.length ≤ 1000000) (hI : SpAt w.heap.size w A l) : ∃ r, GapP l n r ∧ Calls Try.prog 20 #[.slice A l.length cap, .int .u64 (n : Int)] w fun e w' => e = .returned (.int .u64 (r : Int)) ∧ Below w.heap.size w w' := by
  have c0 := may_any (cap := cap) hm hI
  cases hmy : mayB l with
  | false =>
    refine ⟨0, .inl ⟨hmy, rfl⟩, ?_⟩
    rw [hmy] at c0
    clear hI hmy
    go_enter Try.func20, Try.ntmps20
    go_wp2_with fail
    refine c0.mono ?_
    rintro e w2 ⟨rfl, hb⟩
    go_wp2
    go_ret
    exact ⟨rfl, hb⟩
  | true =>
    have hat := fun (W : World) (hb : Below w.heap.size w W) => at_any (w := W) (cap := cap) n hm ((hI.below hb).mono hb.size)
    by_cases hc : cov l n
    · obtain ⟨r, hr, hr1, hr2⟩ := id hc
      refine ⟨r.2, .inr ⟨hmy, .inl ⟨r, hr, ⟨hr1, hr2⟩, rfl⟩⟩, ?_⟩
      have hat2 : ∀ (W : World) (hb : Below w.heap.size w W), Calls Try.prog 30 #[.slice A l.length cap, .int .u64 (n : Int)] W fun e w' => e = .returned (.tuple #[spV r, .bool true]) ∧ Below W.heap.size W w' := fun W hb => by
        obtain ⟨q, b, hP, c1⟩ := hat W hb
        obtain ⟨h1, h2⟩ := hP.uniq hmy
        rw [← h2 r hr ⟨hr1, hr2⟩, ← h1.2 hc]
        exact c1
      rw [hmy] at c0
      unfold spV at hat2
      have HA := Lib.hid hat2
      clear hat2 hat hI hmy hc hr hr1 hr2
      go_enter Try.func20, Try.ntmps20
      go_wp2_with fail
      refine c0.mono ?_
      rintro e w2 ⟨rfl, hb⟩
      go_wp2_with fail
      refine (HA.out w2 hb).mono ?_
      rintro e w3 ⟨rfl, hb3⟩
      have hB := hb.trans (hb3.mono hb.size)
      go_wp2
      go_ret
      exact ⟨rfl, hB.alloc hB.size _⟩
    · refine ⟨n, .inr ⟨hmy, .inr ⟨hc, rfl⟩⟩, ?_⟩
      have hat2 : ∀ (W : World) (hb : Below w.heap.size w W), ∃ q, Calls Try.prog 30 #[.slice A l.length cap, .int .u64 (n : Int)] W fun e w' => e = .returned (.tuple #[spV q, .bool false]) ∧ Below W.heap.size W w' := fun W hb => by
        obtain ⟨q, b, hP, c1⟩ := hat W hb
        obtain ⟨h1, h2⟩ := hP.uniq hmy
        refine ⟨q, ?_⟩
        cases b with
        | true => exact absurd (h1.1 rfl) hc
        | false => exact c1
      rw [hmy] at c0
      have HA := Lib.hid hat2
      clear hat2 hat hI hmy hc
      go_enter Try.func20, Try.ntmps20
      go_wp2_with fail
      refine c0.mono ?_
      rintro e w2 ⟨rfl, hb⟩
      obtain ⟨q, c1⟩ := HA.out w2 hb
      unfold spV at c1
      go_wp2_with fail
      refine c1.mono ?_
      rintro e w3 ⟨rfl, hb3⟩
      have hB := hb.trans (hb3.mono hb.size)
      go_wp2
      go_ret
      exact ⟨rfl, hB.alloc hB.size _⟩
set_option maxRecDepth 100000 in
set_option maxHeartbeats 2000000 in
theorem covers_any (x : Sp) (hm : l.length ≤ 1000000) (hI : SpAt w.heap.size w A l) : ∃ b, CvP l x b ∧ Calls Try.prog 18 #[.slice A l.length cap, spV x] w fun e w' => e = .returned (.bool b) ∧ Below w.heap.size w w' := by
  obtain ⟨w1, hw1⟩ : ∃ w1, w1 = w.alloc (.cells #[.int .u64 (x.1 : Int), .int .u64 (x.2 : Int)] 25) := ⟨_, rfl⟩
  have hB1 : Below w.heap.size w w1 := by rw [hw1]; exact (Below.refl _ _).alloc (Nat.le_refl _) _
  have hx : Blk w1 w.heap.size 25 #[.int .u64 (x.1 : Int), .int .u64 (x.2 : Int)] := by rw [hw1]; exact Blk.new _ _ _
  have hI1 := (hI.below hB1).mono hB1.size
  have c0 := check_any (cap := cap) x hm hI1
  have HW := Lib.hid hw1
  have HX := Lib.hid (And.intro hB1 (And.intro hx hI1))
  have x0 := hx.cell 0
  have x1 := hx.cell 1
  simp only [List.getElem?_toArray, List.getElem?_cons_zero, List.getElem?_cons_succ] at x0 x1
  clear hw1 hB1 hx hI1 hI
  by_cases hc : checkE l x = 0
  · have hmx : mayB l = true ∧ x.1 ≤ x.2 := by
      unfold checkE at hc
      by_cases h1 : mayB l = false
      · rw [if_pos h1] at hc; omega
      · rw [if_neg h1] at hc
        refine ⟨by simpa using h1, ?_⟩
        by_cases h2 : x.2 < x.1
        · rw [if_pos h2] at hc; omega
        · omega
    rw [hc] at c0
    have hstep : ∀ (W : World), Below w1.heap.size w1 W → ∃ q b, AtP l x.1 q b ∧ Calls Try.prog 30 #[.slice A l.length cap, .int .u64 (x.1 : Int)] W fun e w' => e = .returned (.tuple #[spV q, .bool b]) ∧ Below W.heap.size W w' := fun W hb => at_any x.1 hm ((HX.out.2.2.below hb).mono hb.size)
    have HS := Lib.hid hstep
    by_cases he : x.1 = x.2
    · refine ⟨true, ⟨fun _ => ⟨hmx.1, hmx.2, .inl he⟩, fun _ => rfl⟩, ?_⟩
      have hez : (x.1 : Int) = (x.2 : Int) := by omega
      have heb : ((x.1 : Int) == (x.2 : Int)) = true := by simp [hez]
      unfold spV at c0 ⊢
      clear hstep hmx hc he hez
      go_enter Try.func18, Try.ntmps18
      go_upto_region 1 with fail
      rw [← HW.out]
      go_wp2_with fail
      refine c0.mono ?_
      rintro e w2 ⟨rfl, hb⟩
      have hx2 := HX.out.2.1.below hb HX.out.2.1.lt
      obtain ⟨q, b, _, c1⟩ := HS.out w2 hb
      unfold spV at c1
      clear x0 x1
      have y0 := hx2.cell 0
      have y1 := hx2.cell 1
      simp only [List.getElem?_toArray, List.getElem?_cons_zero, List.getElem?_cons_succ] at y0 y1
      have HX2 := Lib.hid hx2
      clear hx2
      go_wp2_with fail
      refine c1.mono ?_
      rintro e w3 ⟨rfl, hb3⟩
      have hx3 := HX2.out.below hb3 HX2.out.lt
      clear y0 y1
      have y0 := hx3.cell 0
      have y1 := hx3.cell 1
      simp only [List.getElem?_toArray, List.getElem?_cons_zero, List.getElem?_cons_succ] at y0 y1
      have hlt := hx3.lt
      have hB := HX.out.1.trans ((hb.trans (hb3.mono hb.size)).mono HX.out.1.size)
      have HB := Lib.hid hB
      clear hx3 hB hb hb3 c0 c1
      go_wp2
      go_ret
      exact ⟨rfl, HB.out.alloc HB.out.size _⟩
    · have hez : ¬ (x.1 : Int) = (x.2 : Int) := by omega
      have heb : ((x.1 : Int) == (x.2 : Int)) = false := by simp [hez]
      by_cases hq : ∃ q ∈ l, q.1 ≤ x.1 ∧ x.2 ≤ q.2
      · refine ⟨true, ⟨fun _ => ⟨hmx.1, hmx.2, .inr hq⟩, fun _ => rfl⟩, ?_⟩
        obtain ⟨r, hr, hr1, hr2⟩ := hq
        have hat : hasAt r x.1 := ⟨hr1, by omega⟩
        have hs2 : ∀ (W : World), Below w1.heap.size w1 W → Calls Try.prog 30 #[.slice A l.length cap, .int .u64 (x.1 : Int)] W fun e w' => e = .returned (.tuple #[spV r, .bool true]) ∧ Below W.heap.size W w' := fun W hb => by
          obtain ⟨q, b, hP, c1⟩ := HS.out W hb
          obtain ⟨h1, h2⟩ := hP.uniq hmx.1
          rw [← h2 r hr hat, ← h1.2 ⟨r, hr, hat.1, hat.2⟩]
          exact c1
        have hrz : (x.2 : Int) ≤ (r.2 : Int) := by omega
        have HS2 := Lib.hid hs2
        unfold spV at c0 HS2 ⊢
        clear hstep hmx hc he HS hs2 hat hr
        go_enter Try.func18, Try.ntmps18
        go_upto_region 1 with fail
        rw [← HW.out]
        go_wp2_with fail
        refine c0.mono ?_
        rintro e w2 ⟨rfl, hb⟩
        have hx2 := HX.out.2.1.below hb HX.out.2.1.lt
        have c1 := HS2.out w2 hb
        clear x0 x1
        have y0 := hx2.cell 0
        have y1 := hx2.cell 1
        simp only [List.getElem?_toArray, List.getElem?_cons_zero, List.getElem?_cons_succ] at y0 y1
        have HX2 := Lib.hid hx2
        clear hx2
        go_wp2_with fail
        refine c1.mono ?_
        rintro e w3 ⟨rfl, hb3⟩
        have hx3 := HX2.out.below hb3 HX2.out.lt
        clear y0 y1
        have y0 := hx3.cell 0
        have y1 := hx3.cell 1
        simp only [List.getElem?_toArray, List.getElem?_cons_zero, List.getElem?_cons_succ] at y0 y1
        have hlt := hx3.lt
        have hB := HX.out.1.trans ((hb.trans (hb3.mono hb.size)).mono HX.out.1.size)
        have HB := Lib.hid hB
        clear hx3 hB hb hb3 c0 c1
        go_wp2
        go_ret
        exact ⟨rfl, HB.out.alloc HB.out.size _⟩
      · refine ⟨false, ⟨fun h => (by cases h), fun ⟨_, _, h⟩ => (h.elim (fun h => absurd h he) (fun h => absurd h hq))⟩, ?_⟩
        have hs2 : ∀ (W : World), Below w1.heap.size w1 W → ∃ q b, (b = true → ¬ (x.2 : Int) ≤ (q.2 : Int)) ∧ Calls Try.prog 30 #[.slice A l.length cap, .int .u64 (x.1 : Int)] W fun e w' => e = .returned (.tuple #[spV q, .bool b]) ∧ Below W.heap.size W w' := fun W hb => by
          obtain ⟨q, b, hP, c1⟩ := HS.out W hb
          refine ⟨q, b, fun hb2 h => ?_, c1⟩
          rcases hP with ⟨_, _, h1, h2⟩ | ⟨h1, _⟩
          · exact hq ⟨q, h1, h2.1, by omega⟩
          · rw [hb2] at h1; cases h1
        have HS2 := Lib.hid hs2
        unfold spV at c0 HS2 ⊢
        clear hstep hmx hc he HS hs2 hq
        go_enter Try.func18, Try.ntmps18
        go_upto_region 1 with fail
        rw [← HW.out]
        go_wp2_with fail
        refine c0.mono ?_
        rintro e w2 ⟨rfl, hb⟩
        have hx2 := HX.out.2.1.below hb HX.out.2.1.lt
        obtain ⟨q, b, hqb, c1⟩ := HS2.out w2 hb
        clear x0 x1
        have y0 := hx2.cell 0
        have y1 := hx2.cell 1
        simp only [List.getElem?_toArray, List.getElem?_cons_zero, List.getElem?_cons_succ] at y0 y1
        have HX2 := Lib.hid hx2
        clear hx2
        go_wp2_with fail
        refine c1.mono ?_
        rintro e w3 ⟨rfl, hb3⟩
        have hx3 := HX2.out.below hb3 HX2.out.lt
        clear y0 y1
        have y0 := hx3.cell 0
        have y1 := hx3.cell 1
        simp only [List.getElem?_toArray, List.getElem?_cons_zero, List.getElem?_cons_succ] at y0 y1
        have hlt := hx3.lt
        have hB := HX.out.1.trans ((hb.trans (hb3.mono hb.size)).mono HX.out.1.size)
        have HB := Lib.hid hB
        clear hx3 hB hb hb3 c0 c1
        cases b with
        | true =>
          have hqz := hqb rfl
          have hqn : ¬ x.2 ≤ q.2 := by omega
          clear hqb hqz
          go_wp2
          go_ret
          exact ⟨by first | rfl | simp [hqn], HB.out.alloc HB.out.size _⟩
        | false =>
          clear hqb
          go_wp2
          go_ret
          exact ⟨rfl, HB.out.alloc HB.out.size _⟩
  · refine ⟨false, ⟨fun h => (by cases h), fun ⟨h1, h2, _⟩ => ?_⟩, ?_⟩
    · exact absurd (by unfold checkE; rw [if_neg (by rw [h1]; decide), if_neg (by omega)]) hc
    · obtain ⟨ec, hec⟩ : ∃ ec, ec = checkE l x := ⟨_, rfl⟩
      rw [← hec] at c0 hc
      have hcz : ¬ (ec : Int) = 0 := by omega
      have hcb : ((ec : Int) != 0) = true := by simp only [bne_iff_ne, ne_eq]; exact hcz
      unfold spV at c0 ⊢
      clear hec hc
      go_enter Try.func18, Try.ntmps18
      go_upto_region 1 with fail
      rw [← HW.out]
      go_wp2_with fail
      refine c0.mono ?_
      rintro e w2 ⟨rfl, hb⟩
      have hB := HX.out.1.trans (hb.mono HX.out.1.size)
      clear x0 x1
      go_wp2
      go_ret
      exact ⟨rfl, hB⟩
end
end Go.Proofs.Ytnnpahjopfkchaa
