/- Layer 16 (reasm): calls on none; the document's example. -/
import Derived.Test.YtbiaphichaomaaaReasmU
set_option linter.unusedVariables false
set_option linter.unusedSimpArgs false
namespace Go.Proofs.Ytbiaphichaomaaa
open Go.RowKit Go.BigFrame Go.Maps Go.ChangeShapes Go.WideShapes Go.ChangeAt

theorem takeR_ok {s : Rs} (hs : RsOk s) (n : Int) : RsOk (takeR s n).1 := by
  unfold takeR
  split
  · exact hs
  · refine ⟨hs.norm, hs.above, fun q hq => ?_, hs.there, ?_, hs.few, hs.most_le, hs.next_le, hs.ends⟩
    · have := hs.below q hq
      simp only [List.length_drop]
      omega
    · have := hs.len
      simp only [List.length_drop]
      omega
theorem takeR_got (s : Rs) (n : Int) : (takeR s n).1.got = s.got := by unfold takeR; split <;> rfl
theorem takeR_parts (s : Rs) (n : Int) : (takeR s n).1.parts = s.parts := by unfold takeR; split <;> rfl
theorem movesR_got (s : Rs) : (movesR s).got = s.got := by
  unfold movesR
  cases s.parts with
  | nil => rfl
  | cons p l => simp only; split <;> rfl
theorem putR_got (s : Rs) (at_ : Nat) (t : List UInt8) : (putR s at_ t).1.got ≤ s.got + 65536 := by
  by_cases h : 4611686018427387904 < at_ ∨ 65536 < t.length
  · rw [putR_bad h]; simp
  · by_cases h1 : toR s at_ t.length ≤ fromR s at_
    · rw [putR_none h h1]; simp
    · cases h2 : manyR s (joinS s.parts (fromR s at_, toR s at_ t.length)) with
      | true => rw [putR_many h h2]; simp
      | false =>
        rw [putR_lays h h1 h2]
        simp only
        rw [movesR_got]
        show s.got + newN s.far (fromR s at_) (toR s at_ t.length - fromR s at_) ≤ _
        have := newN_le s.far (fromR s at_) (toR s at_ t.length - fromR s at_)
        unfold fromR toR at *
        omega
theorem new_z (next most : Nat) (a m : Int) (ha : (next : Int) = a) (hm : (most : Int) = m) (w : World) (h1 : next ≤ 4611686018427387904) (h2 : 1 ≤ most) (h3 : most ≤ 65536) :
    Calls Try.prog 6 #[.int .u64 a, .int .i64 m] w (NewRPost next most w) := by subst ha hm; exact new_r next most w h1 h2 h3
/-- what follows on a Reasm is kept of what came before -/
theorem own_trans {w0 w w' : World} {b bm : Nat} {rv rv' : Value} (hb : Below w0.heap.size w0 w) (hn : ∀ i, OwnR b bm rv i → w0.heap.size ≤ i) (ho : Out (OwnR b bm rv) w w') (hl : Later w rv rv') :
    Below w0.heap.size w0 w' ∧ ∀ i, OwnR b bm rv' i → w0.heap.size ≤ i := by
  refine ⟨hb.trans (ho.below hb.size (fun i hi h => by have := hn i h; omega)), fun i h => ?_⟩
  rcases h with rfl | rfl | h
  · exact hn _ (.inl rfl)
  · exact hn _ (.inr (.inl rfl))
  · rcases hl i h with h1 | h1
    · exact hn _ (.inr (.inr h1))
    · have := hb.size; omega
theorem RsAt.row_keep {w w' : World} {b bm : Nat} {rv pv : Value} {s : Rs} {v : Value} {l : List Sp} (h : RsAt w b bm rv pv s) (ho : Out (OwnR b bm rv) w w') (hP : PartsIs w v l) : PartsIs w' v l :=
  hP.keep fun g cs hg => ho.block g hg.lt (h.no_part hg)
/-- Put, whatever comes -/
theorem put_r (b bm : Nat) (rv pv : Value) (s : Rs) (w : World) (at_ : Nat) (a : Int) (ha : (at_ : Int) = a) (x : ByteArray) (n e : Int) (hn : ((putR s at_ x.data.toList).2.1 : Int) = n) (he : ((putR s at_ x.data.toList).2.2 : Int) = e) (h : RsAt w b bm rv pv s) (hok : RsOk s) (hgot : s.got ≤ 100000000000) (hx : x.size ≤ maxLen) :
    Calls Try.prog 7 #[.pointer (some ⟨b, 0, none⟩), .int .u64 a, .string x] w (RGo b bm rv (putR s at_ x.data.toList).1 (.tuple #[.int .i64 n, .int .i64 e]) w) := by
  subst ha hn he
  by_cases hb : 4611686018427387904 < at_ ∨ 65536 < x.data.toList.length
  · exact put_bad b bm rv pv s w at_ x h hx hb
  · exact put_go b bm rv pv s w at_ x h hok hgot hb
theorem none_put (a : Int) (x : ByteArray) (w : World) : Calls Try.prog 7 #[.pointer none, .int .u64 a, .string x] w fun e w' => e = .returned (.tuple #[.int .i64 0, .int .i64 1]) ∧ w = w' := by
  go_enter Try.func7, Try.ntmps7
  go_wp2
  go_step3
  go_wp2
  rw [Exit.noGoto_ret]
  go_ret2
  exact ⟨rfl, rfl⟩
theorem none_take (a : Int) (w : World) : Calls Try.prog 8 #[.pointer none, .int .i64 a] w fun e w' => e = .returned (.string ⟨#[]⟩) ∧ w = w' := by
  go_enter Try.func8, Try.ntmps8
  go_wp2
  go_ret
  exact ⟨rfl, rfl⟩
theorem none_next (w : World) : Calls Try.prog 9 #[.pointer none] w fun e w' => e = .returned (.int .u64 0) ∧ w = w' := by
  go_enter Try.func9, Try.ntmps9
  go_wp2
  go_ret
  exact ⟨rfl, rfl⟩
theorem none_ready (w : World) : Calls Try.prog 10 #[.pointer none] w fun e w' => e = .returned (.int .i64 0) ∧ w = w' := by
  go_enter Try.func10, Try.ntmps10
  go_wp2
  go_ret
  exact ⟨rfl, rfl⟩
theorem none_window (w : World) : Calls Try.prog 11 #[.pointer none] w fun e w' => e = .returned (.int .i64 0) ∧ w = w' := by
  go_enter Try.func11, Try.ntmps11
  go_wp2
  go_ret
  exact ⟨rfl, rfl⟩
theorem none_parts (w : World) : Calls Try.prog 12 #[.pointer none] w fun e w' => e = .returned (.slice none 0 0) ∧ w = w' := by
  go_enter Try.func12, Try.ntmps12
  go_wp2
  go_ret
  exact ⟨rfl, rfl⟩
set_option maxHeartbeats 4000000 in
theorem works16 (w : World) : Calls Try.prog 5 #[] w fun e w' => e = .returned (.bool true) ∧ Below w.heap.size w w' := by
  obtain ⟨s1, hs1⟩ : ∃ s1, s1 = (putR (newR 0 10) 2 [99, 100]).1 := ⟨_, rfl⟩
  obtain ⟨s2, hs2⟩ : ∃ s2, s2 = (putR s1 0 [97, 98, 88]).1 := ⟨_, rfl⟩
  obtain ⟨s3, hs3⟩ : ∃ s3, s3 = (takeR s2 9).1 := ⟨_, rfl⟩
  have a1 : (((putR (newR 0 10) 2 [99, 100]).2.1 : Nat) : Int) = 2 := by decide
  have a2 : (((putR (newR 0 10) 2 [99, 100]).2.2 : Nat) : Int) = 0 := by decide
  have a3 : s1.parts = [(2, 4)] := by subst hs1; decide
  have a4 : (((putR s1 0 [97, 98, 88]).2.1 : Nat) : Int) = 2 := by subst hs1; decide
  have a5 : (((putR s1 0 [97, 98, 88]).2.2 : Nat) : Int) = 0 := by subst hs1; decide
  have a6 : (takeR s2 9).2 = [97, 98, 99, 100] := by subst hs2 hs1; decide
  have a7 : s3.next = 4 := by subst hs3 hs2 hs1; decide
  have a8 : s3.most - s3.ready.length = 10 := by subst hs3 hs2 hs1; decide
  have o0 : RsOk (newR 0 10) := newR_ok (by decide) (by decide)
  have o1 : RsOk s1 := by rw [hs1]; exact putR_ok o0 _ _
  have o2 : RsOk s2 := by rw [hs2]; exact putR_ok o1 _ _
  have o3 : RsOk s3 := by rw [hs3]; exact takeR_ok o2 _
  have g1 : s1.got ≤ 65536 := by rw [hs1]; exact putR_got (newR 0 10) 2 [99, 100]
  have g2 : s2.got ≤ 131072 := by rw [hs2]; have := putR_got s1 0 [97, 98, 88]; omega
  have l2 : s2.ready.length ≤ 1000000 := by have := o2.len; have := o2.most_le; omega
  have n1 := fun w => new_z 0 10 0 10 rfl rfl w (by decide) (by decide) (by decide)
  have A1 := Lib.hid a1
  clear a1
  have A2 := Lib.hid a2
  clear a2
  have A3 := Lib.hid a3
  clear a3
  have A4 := Lib.hid a4
  clear a4
  have A5 := Lib.hid a5
  clear a5
  have A6 := Lib.hid a6
  clear a6
  have A7 := Lib.hid a7
  clear a7
  have A8 := Lib.hid a8
  clear a8
  have O0 := Lib.hid o0
  clear o0
  have O1 := Lib.hid o1
  clear o1
  have O2 := Lib.hid o2
  clear o2
  have O3 := Lib.hid o3
  clear o3
  have G1 := Lib.hid g1
  clear g1
  have G2 := Lib.hid g2
  clear g2
  have L2 := Lib.hid l2
  clear l2
  have N1 := Lib.hid n1
  clear n1
  have Hs1 := Lib.hid hs1
  clear hs1
  have Hs2 := Lib.hid hs2
  clear hs2
  have Hs3 := Lib.hid hs3
  clear hs3
  go_enter Try.func5, Try.ntmps5
  go_wp2_with fail
  (with_reducible refine (N1.out _).mono ?_)
  rintro e w1 ⟨b, bm, rv, pv, rfl, h1, hb1, hn1⟩
  have hp1 := put_r b bm rv pv (newR 0 10) w1 2 2 rfl ⟨#[99, 100]⟩ 2 0 A1.out A2.out h1 O0.out (by decide) (by decide)
  clear h1
  have Hp1 := Lib.hid hp1
  clear hp1
  have Hb1 := Lib.hid hb1
  clear hb1
  have Hn1 := Lib.hid hn1
  clear hn1
  go_wp2_with fail
  (with_reducible refine (Hp1.out).mono ?_)
  rintro e w2 ⟨rv2, pv2, rfl, h2, ho2, hl2⟩
  rw [← Hs1.out] at h2
  obtain ⟨hb2, hn2⟩ := own_trans Hb1.out (fun i h => (Hn1.out i h).1) ho2 hl2
  have hp2 := parts_r b bm rv2 pv2 s1 w2 h2 (by rw [A3.out]; decide)
  rw [A3.out] at hp2
  clear ho2 hl2 Hp1 Hb1 Hn1
  have Hp2 := Lib.hid hp2
  clear hp2
  have Hb2 := Lib.hid hb2
  clear hb2
  have Hn2 := Lib.hid hn2
  clear hn2
  have H2 := Lib.hid h2
  clear h2
  go_wp2_with fail
  (with_reducible refine (Hp2.out).mono ?_)
  rintro e w3 ⟨v3, rfl, ho3, hb3⟩
  have hP3 := PartsIs.of_own (w := w3) ho3
  obtain ⟨A, c, hv3, hc1, hc2, hpc⟩ := hP3
  subst hv3
  have hP3 := PartsIs.of_own (w := w3) ho3
  have h3 := H2.out.below hb3
  have hb3' := Hb2.out.trans (hb3.mono Hb2.out.size)
  have hp3 := put_r b bm rv2 pv2 s1 w3 0 0 rfl ⟨#[97, 98, 88]⟩ 2 0 A4.out A5.out h3 O1.out (by have := G1.out; omega) (by decide)
  clear ho3 hpc Hp2 hb3 H2 Hb2
  have Hp3 := Lib.hid hp3
  clear hp3
  have HP3 := Lib.hid hP3
  clear hP3
  have H3 := Lib.hid h3
  clear h3
  have Hb3' := Lib.hid hb3'
  clear hb3'
  go_wp2_with fail
  (with_reducible refine (Hp3.out).mono ?_)
  rintro e w4 ⟨rv4, pv4, rfl, h4, ho4, hl4⟩
  rw [← Hs2.out] at h4
  obtain ⟨hb4, hn4⟩ := own_trans Hb3'.out Hn2.out ho4 hl4
  have hP4 := H3.out.row_keep ho4 HP3.out
  have hp4 := take_r b bm rv4 pv4 s2 w4 9 h4 L2.out
  rw [← Hs3.out, A6.out] at hp4
  clear ho4 hl4 Hp3 HP3 H3 Hb3' Hn2
  have Hp4 := Lib.hid hp4
  clear hp4
  have HP4 := Lib.hid hP4
  clear hP4
  have Hb4 := Lib.hid hb4
  clear hb4
  have Hn4 := Lib.hid hn4
  clear hn4
  have H4 := Lib.hid h4
  clear h4
  go_wp2_with fail
  (with_reducible refine (Hp4.out).mono ?_)
  rintro e w5 ⟨rv5, pv5, rfl, h5, ho5, hl5⟩
  obtain ⟨hb5, hn5⟩ := own_trans Hb4.out Hn4.out ho5 hl5
  have hP5 := H4.out.row_keep ho5 HP4.out
  obtain ⟨g, off, hA, hg, hcc⟩ : ∃ g off, A = some ⟨g, off, none⟩ ∧ g < w5.heap.size ∧ ∀ (j : Nat) (p : Sp), [((2, 4) : Sp)][j]? = some p → w5.cell? ⟨g, off + j * 2, none⟩ = some (.int .u64 (p.1 : Int)) ∧ w5.cell? ⟨g, off + j * 2 + 1, none⟩ = some (.int .u64 (p.2 : Int)) := by
    rcases hP5.prow.2.2.2 with h | h
    · cases h
    · exact h
  subst hA
  obtain ⟨e0, e1⟩ := hcc 0 (2, 4) rfl
  simp at e0 e1
  have hnx := next_r b bm rv5 pv5 s3 w5 h5
  rw [A7.out] at hnx
  have hwi := window_r b bm rv5 pv5 s3 w5 h5 O3.out.len O3.out.most_le
  rw [A8.out] at hwi
  clear hcc ho5 hl5 Hp4 HP4 hP5 Hb4 Hn4 h5 H4 hn5
  have Hnx := Lib.hid hnx
  clear hnx
  have Hwi := Lib.hid hwi
  clear hwi
  have Hb5 := Lib.hid hb5
  clear hb5
  go_wp2_with fail
  (with_reducible refine (Hnx.out).mono ?_)
  rintro e w' ⟨rfl, rfl⟩
  go_wp2_with fail
  (with_reducible refine (Hwi.out).mono ?_)
  rintro e w6 ⟨rfl, q, rfl⟩
  go_wp2
  go_ret
  exact ⟨rfl, below_drewN Hb5.out q⟩
end Go.Proofs.Ytbiaphichaomaaa
