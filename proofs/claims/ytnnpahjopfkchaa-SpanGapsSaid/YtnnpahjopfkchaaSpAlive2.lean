/- transomlaw02.alive: the walk. -/
import Derived.Test.YtnnpahjopfkchaaSpAliveP
set_option linter.unusedVariables false
set_option linter.unusedSimpArgs false
namespace Go.Proofs.Ytnnpahjopfkchaa
open Go.RowKit Go.BigFrame

abbrev C25 (l : List Value) : Obj := .cells l.toArray 25
set_option maxRecDepth 100000 in
set_option maxHeartbeats 4000000 in
theorem alive_any (w : World) : Calls Try.prog 9 #[] w fun e w' => e = .returned (.bool true) ∧ Below w.heap.size w w' := by
  obtain ⟨W1, hW1⟩ : ∃ W1, W1 = w.alloc (.cells #[.int .u64 2, .int .u64 4, .int .u64 6, .int .u64 8] 25) := ⟨_, rfl⟩
  obtain ⟨g, hg⟩ : ∃ g, g = w.heap.size := ⟨_, rfl⟩
  have hb0 : Blk W1 g 25 #[.int .u64 2, .int .u64 4, .int .u64 6, .int .u64 8] := by rw [hW1, hg]; exact Blk.new _ _ _
  have hB0 : Below w.heap.size w W1 := by rw [hW1]; exact (Below.refl _ _).alloc (Nat.le_refl _) _
  have hS : SpAt W1.heap.size W1 (some ⟨g, 0, none⟩) l0 := spAt_blk hb0
  have hL : ∀ W, Below W1.heap.size W1 W → SpAt W.heap.size W (some ⟨g, 0, none⟩) l0 := fun W h => (hS.below h).mono h.size
  have HL := Lib.hid hL
  have HW1 := Lib.hid (And.intro hW1 (And.intro hg hB0))
  have c1 : Calls Try.prog 10 #[.slice (some ⟨g, 0, none⟩) 2 2, .agg #[.int .u64 4, .int .u64 6]] W1 fun e w' => ∃ A c, e = .returned (.tuple #[.slice A 1 c, .int .i64 0]) ∧ SpAt w'.heap.size w' A [(2, 8)] ∧ Below W1.heap.size W1 w' := by
    have := add_any (w := W1) (cap := 2) (l := l0) (4, 6) (by decide) hS
    rw [r_add] at this
    exact this
  clear hW1 hg hb0 hB0 hS hL
  go_enter Try.func9, Try.ntmps9
  go_upto_region 2 with fail
  rw [← HW1.out.1, ← HW1.out.2.1]
  go_wp2_with fail
  with_reducible refine c1.mono ?_
  rintro e W2 ⟨A2, k2, rfl, ha2, hb2⟩
  have c2 : Calls Try.prog 12 #[.slice A2 1 k2, .agg #[.int .u64 3, .int .u64 5]] W2 fun e w' => ∃ A c, e = .returned (.tuple #[.slice A 2 c, .int .i64 0]) ∧ SpAt w'.heap.size w' A [(2, 3), (5, 8)] ∧ Below W2.heap.size W2 w' := by
    have := cut_any (w := W2) (cap := k2) (l := [(2, 8)]) (3, 5) (by decide) ha2
    rw [r_cut] at this
    exact this
  have H2 := Lib.hid (And.intro ha2 hb2)
  clear ha2 hb2 c1
  go_wp2_with fail
  with_reducible refine c2.mono ?_
  rintro e W3 ⟨A3, k3, rfl, ha3, hb3⟩
  have hB3 := H2.out.2.trans (hb3.mono H2.out.2.size)
  have c3 : Calls Try.prog 10 #[.slice (some ⟨W3.heap.size, 0, none⟩) 1 1, .agg #[.int .u64 0, .int .u64 0]] (W3.alloc (.cells #[.int .u64 2, .int .u64 2] 25)) fun e w' => ∃ A c, e = .returned (.tuple #[.slice A 0 c, .int .i64 8]) ∧ SpAt w'.heap.size w' A [] ∧ Below (W3.alloc (.cells #[.int .u64 2, .int .u64 2] 25)).heap.size (W3.alloc (.cells #[.int .u64 2, .int .u64 2] 25)) w' := by
    have := add_any (w := W3.alloc (.cells #[.int .u64 2, .int .u64 2] 25)) (cap := 1) (l := [(2, 2)]) (0, 0) (by decide) (spAt_blk (l := [(2, 2)]) (Blk.new _ _ _))
    rw [r_bad] at this
    exact this
  have H3 := Lib.hid (And.intro ha3 (And.intro hb3 hB3))
  clear ha3 hb3 hB3 c2
  go_wp2_with fail
  with_reducible refine c3.mono ?_
  rintro e W4 ⟨A4, k4, rfl, -, hb4⟩
  have hb34 := ((Below.refl W3.heap.size W3).alloc (Nat.le_refl _) (.cells #[.int .u64 2, .int .u64 2] 25)).trans (hb4.mono (by simp))
  have hB4 := H3.out.2.2.trans (hb34.mono H3.out.2.2.size)
  have c4 : Calls Try.prog 12 #[.slice (some ⟨g, 0, none⟩) 2 2, .agg #[.int .u64 1, .int .u64 0]] W4 fun e w' => ∃ A c, e = .returned (.tuple #[.slice A 0 c, .int .i64 2]) ∧ SpAt w'.heap.size w' A [] ∧ Below W4.heap.size W4 w' := by
    have := cut_any (w := W4) (cap := 2) (l := l0) (1, 0) (by decide) (HL.out W4 hB4)
    rw [r_arg] at this
    exact this
  have H4 := Lib.hid (And.intro hb34 hB4)
  clear hb4 hb34 hB4 c3
  go_wp2_with fail
  with_reducible refine c4.mono ?_
  rintro e W5 ⟨A5, k5, rfl, -, hb5⟩
  have hb35 := H4.out.1.trans (hb5.mono H4.out.1.size)
  have H5 := Lib.hid (And.intro hb35 (H4.out.2.trans (hb5.mono H4.out.2.size)))
  clear hb5 hb35 c4
  obtain ⟨W6, hW6⟩ : ∃ W6, W6 = W5.alloc (.cells #[.int .u64 2, .int .u64 8] 25) := ⟨_, rfl⟩
  have hb56 : Below W5.heap.size W5 W6 := by rw [hW6]; exact (Below.refl _ _).alloc (Nat.le_refl _) _
  have hbl6 : Blk W6 W5.heap.size 25 #[.int .u64 2, .int .u64 8] := by rw [hW6]; exact Blk.new _ _ _
  have hB6 := H5.out.2.trans (hb56.mono H5.out.2.size)
  have hb36 := H5.out.1.trans (hb56.mono H5.out.1.size)
  have hb26 := H3.out.2.1.trans (hb36.mono H3.out.2.1.size)
  have c5 : Calls Try.prog 15 #[.slice A2 1 k2, .slice (some ⟨W5.heap.size, 0, none⟩) 1 1] (W5.alloc (.cells #[.int .u64 2, .int .u64 8] 25)) fun e w' => e = .returned (.bool true) ∧ Below W6.heap.size W6 w' := by
    rw [← hW6]
    exact same_any (w := W6) (cap := k2) (cap' := 1) (l := [(2, 8)]) (m := [(2, 8)]) (by decide) (by decide) ((H2.out.1.below hb26).mono hb26.size) (spAt_blk (l := [(2, 8)]) hbl6)
  have H6 := Lib.hid (And.intro hB6 hb36)
  clear hW6 hb56 hbl6 hB6 hb36 hb26
  go_wp2_with fail
  with_reducible refine c5.mono ?_
  rintro e W7 ⟨rfl, hb7⟩
  have hB7 := H6.out.1.trans (hb7.mono H6.out.1.size)
  have hb37 := H6.out.2.trans (hb7.mono H6.out.2.size)
  obtain ⟨W8, hW8⟩ : ∃ W8, W8 = W7.alloc (.cells #[.int .u64 2, .int .u64 3, .int .u64 5, .int .u64 8] 25) := ⟨_, rfl⟩
  have hb78 : Below W7.heap.size W7 W8 := by rw [hW8]; exact (Below.refl _ _).alloc (Nat.le_refl _) _
  have hbl8 : Blk W8 W7.heap.size 25 #[.int .u64 2, .int .u64 3, .int .u64 5, .int .u64 8] := by rw [hW8]; exact Blk.new _ _ _
  have hB8 := hB7.trans (hb78.mono hB7.size)
  have hb38 := hb37.trans (hb78.mono hb37.size)
  have c6 : Calls Try.prog 15 #[.slice A3 2 k3, .slice (some ⟨W7.heap.size, 0, none⟩) 2 2] (W7.alloc (.cells #[.int .u64 2, .int .u64 3, .int .u64 5, .int .u64 8] 25)) fun e w' => e = .returned (.bool true) ∧ Below W8.heap.size W8 w' := by
    rw [← hW8]
    exact same_any (w := W8) (cap := k3) (cap' := 2) (l := [(2, 3), (5, 8)]) (m := [(2, 3), (5, 8)]) (by decide) (by decide) ((H3.out.1.below hb38).mono hb38.size) (spAt_blk (l := [(2, 3), (5, 8)]) hbl8)
  have H8 := Lib.hid hB8
  clear hW8 hb7 hB7 hb37 hb78 hbl8 hB8 hb38 c5
  go_wp2_with fail
  with_reducible refine c6.mono ?_
  rintro e W9 ⟨rfl, hb9⟩
  have hB9 := H8.out.trans (hb9.mono H8.out.size)
  have c7 : Calls Try.prog 20 #[.slice (some ⟨g, 0, none⟩) 2 2, .int .u64 2] W9 fun e w' => e = .returned (.int .u64 4) ∧ Below W9.heap.size W9 w' :=
    gap_l0 2 4 gapP_24 (HL.out W9 hB9)
  have H9 := Lib.hid hB9
  clear hB9 hb9 c6
  go_wp2_with fail
  with_reducible refine c7.mono ?_
  rintro e W10 ⟨rfl, hb⟩
  have hB := H9.out.trans (hb.mono H9.out.size)
  have c8 : Calls Try.prog 20 #[.slice (some ⟨g, 0, none⟩) 2 2, .int .u64 0] W10 fun e w' => e = .returned (.int .u64 0) ∧ Below W10.heap.size W10 w' :=
    gap_l0 0 0 gapP_00 (HL.out W10 hB)
  have H10 := Lib.hid hB
  clear hB hb c7
  go_wp2_with fail
  with_reducible refine c8.mono ?_
  rintro e W11 ⟨rfl, hb⟩
  have hB := H10.out.trans (hb.mono H10.out.size)
  have c9 : Calls Try.prog 16 #[.slice (some ⟨g, 0, none⟩) 2 2, .int .u64 7] W11 fun e w' => e = .returned (.bool true) ∧ Below W11.heap.size W11 w' :=
    has_l0 7 true has_7 (HL.out W11 hB)
  have H11 := Lib.hid hB
  clear hB hb c8
  go_wp2_with fail
  with_reducible refine c9.mono ?_
  rintro e W12 ⟨rfl, hb⟩
  have hB := H11.out.trans (hb.mono H11.out.size)
  have c10 : Calls Try.prog 16 #[.slice (some ⟨g, 0, none⟩) 2 2, .int .u64 8] W12 fun e w' => e = .returned (.bool false) ∧ Below W12.heap.size W12 w' :=
    has_l0 8 false has_8 (HL.out W12 hB)
  have H12 := Lib.hid hB
  clear hB hb c9
  go_wp2_with fail
  with_reducible refine c10.mono ?_
  rintro e W13 ⟨rfl, hb⟩
  have hB := H12.out.trans (hb.mono H12.out.size)
  have c11 : Calls Try.prog 18 #[.slice (some ⟨g, 0, none⟩) 2 2, .agg #[.int .u64 6, .int .u64 8]] W13 fun e w' => e = .returned (.bool true) ∧ Below W13.heap.size W13 w' :=
    cov_l0 (HL.out W13 hB)
  have H13 := Lib.hid hB
  clear hB hb c10
  go_wp2_with fail
  with_reducible refine c11.mono ?_
  rintro e W14 ⟨rfl, hb⟩
  have hB := H13.out.trans (hb.mono H13.out.size)
  have c12 : Calls Try.prog 22 #[.slice (some ⟨g, 0, none⟩) 2 2] W14 fun e w' => e = .returned (.int .u64 4) ∧ Below W14.heap.size W14 w' :=
    len_l0 (HL.out W14 hB)
  have H14 := Lib.hid hB
  clear hB hb c11
  go_wp2_with fail
  with_reducible refine c12.mono ?_
  rintro e W15 ⟨rfl, hb⟩
  have hB := H14.out.trans (hb.mono H14.out.size)
  have c13 : Calls Try.prog 13 #[.slice (some ⟨g, 0, none⟩) 2 2] W15 fun e w' => e = .returned (.bool true) ∧ Below W15.heap.size W15 w' :=
    may_l0 (HL.out W15 hB)
  have H15 := Lib.hid hB
  clear hB hb c12
  go_wp2_with fail
  with_reducible refine c13.mono ?_
  rintro e W16 ⟨rfl, hb⟩
  have hB := HW1.out.2.2.trans ((H15.out.trans (hb.mono H15.out.size)).mono HW1.out.2.2.size)
  clear hb c13
  go_wp2_with fail
  go_ret
  exact ⟨rfl, hB⟩
end Go.Proofs.Ytnnpahjopfkchaa
