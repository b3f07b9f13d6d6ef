/- The statement SpanHolds: of spans that are added and cut a number is there just if the last one that has it was added; the list may be, at every time; any spans, which of them are cut, any number. -/
import Derived.Test.YtnnpahjopfkchaaSpLawP
set_option linter.unusedVariables false
set_option linter.unusedSimpArgs false
namespace Go.Proofs.Ytnnpahjopfkchaa.spanHolds
open Go.ChangeShapes Go.WideShapes Go.ChangeAt Go.RowKit Go.BigFrame
open Go.ChangeMaps (open_string shut_string)

theorem bad_of {w : World} {F : FuncId} {vs : Array Value} {R : List Sp × Nat} (h : Calls Try.prog F vs w (SetPost w R)) (hR : R = ([], 2)) :
    Calls Try.prog F vs w fun e w' => ∃ A c, e = .returned (.tuple #[.slice A 0 c, .int .i64 2]) ∧ Below w.heap.size w w' := by
  subst hR
  exact h.mono fun e w' ⟨A, c, h1, h2, h3⟩ => ⟨A, c, h1, h3⟩
theorem ok_of {w : World} {F : FuncId} {vs : Array Value} {R : List Sp × Nat} {T : List Sp} (h : Calls Try.prog F vs w (SetPost w R)) (hR : R = (T, 0)) :
    Calls Try.prog F vs w fun e w' => ∃ A c, e = .returned (.tuple #[.slice A T.length c, .int .i64 0]) ∧ SpAt w'.heap.size w' A T ∧ Below w.heap.size w w' := by
  subst hR
  exact h
set_option maxRecDepth 100000 in
set_option maxHeartbeats 4000000 in
theorem walk_long (a : Option Addr) (n cap : Nat) (a1 : Option Addr) (n1 cap1 : Nat) (m : Int) (w : World) (hn : (n : Int) > 120) :
    Calls Try.prog 5 #[.slice a n cap, .slice a1 n1 cap1, .int .u64 m] w fun e w' => e = .returned (.bool true) ∧ Below w.heap.size w w' := by
  have c1 := alive_any w
  go_enter Try.func5, Try.ntmps5
  go_wp2_with fail
  refine c1.mono ?_
  rintro e w1 ⟨rfl, hb⟩
  go_wp2
  go_ret
  exact ⟨rfl, hb⟩
set_option maxRecDepth 100000 in
set_option maxHeartbeats 8000000 in
theorem walk_short (a : Option Addr) (cap : Nat) (l : List Sp) (a1 : Option Addr) (n1 cap1 : Nat) (n : Nat) (w : World) (hn : l.length ≤ 120) (hI : SpAt w.heap.size w a l) (hI1 : BoolRow w a1 n1) :
    Calls Try.prog 5 #[.slice a l.length cap, .slice a1 n1 cap1, .int .u64 (n : Int)] w fun e w' => e = .returned (.bool true) ∧ Below w.heap.size w w' := by
  have hlz : ¬ (l.length : Int) > 120 := by omega
  have HI := Lib.hid (And.intro hI hI1)
  clear hI hI1
  go_enter Try.func5, Try.ntmps5
  go_wp2
  go_loopw [7, 8, 9] (fun s b i wr => ∃ (S : List Sp) (k : Nat) (A' : Option Addr) (c' : Nat), s = .slice A' S.length c' ∧ b = .bool (covB S n) ∧ i = .int .i64 k ∧ k ≤ l.length ∧ S.length ≤ k ∧ Hid (Norm S ∧ SpAt wr.heap.size wr A' S ∧ Below w.heap.size w wr)) (fun _ _ i _ => l.length - (intOf i).toNat)
  case atStart =>
    refine ⟨[], 0, none, 0, rfl, ?_, rfl, Nat.zero_le _, Nat.le_refl _, Lib.hid ⟨trivial, .inl rfl, Below.refl _ _⟩⟩
    rw [show covB [] n = false from by
      cases h : covB [] n with
      | false => rfl
      | true => exact absurd ((covB_iff _ _).1 h) (cov_nil n)]
  case round =>
    obtain ⟨S, k, A', c', rfl, rfl, rfl, hk, hS, HS⟩ := hrel
    by_cases h1 : k < l.length
    · have h1z : (k : Int) < (l.length : Int) := by omega
      have k0 : (0 : Int) ≤ (k : Int) := by omega
      have hrow := HI.out.2.below HS.out.2.2
      obtain ⟨b, off, rfl, hlb, r1, r2⟩ := ((HI.out.1.below HS.out.2.2).mono HS.out.2.2.size).at_ h1
      rw [← spn_get l h1] at r1 r2
      obtain ⟨q, eq⟩ : ∃ q, q = spn l k := ⟨_, rfl⟩
      rw [← eq] at r1 r2
      clear eq
      by_cases h2 : k < n1
      · have h2z : (k : Int) < (n1 : Int) := by omega
        obtain ⟨b1, off1, v, rfl, hlb1, r3⟩ := hrow k h2
        clear hrow HI
        cases v with
        | true =>
          have c1 := cut_any (cap := c') q (by omega) HS.out.2.1
          unfold spV at c1
          have HLB := Lib.hid hlb
          by_cases hq : q.2 < q.1
          · as_aux_lemma =>
              have c2 := bad_of c1 (setR_bad HS.out.1 (by omega) hq)
              have hqz : (q.1 : Int) > (q.2 : Int) := by omega
              clear c1
              go_wp2_with fail
              with_reducible refine c2.mono ?_
              rintro e w2 ⟨A2, k2, rfl, hb2⟩
              have s1 := (hb2.cell (p := ⟨b, off + k * 2, none⟩) hlb).trans r1
              have s2 := (hb2.cell (p := ⟨b, off + k * 2 + 1, none⟩) hlb).trans r2
              have HB2 := Lib.hid (HS.out.2.2.trans (hb2.mono HS.out.2.2.size))
              clear r1 r2 hb2 c2
              go_upto_region 13 with fail
              go_quiet (fail)
              go_wp2_with fail
              with_reducible refine (alive_any _).mono ?_
              rintro e w3 ⟨rfl, hb3⟩
              have hB := HB2.out.trans (((below_drewN (Below.refl w2.heap.size w2) nq).trans hb3).mono HB2.out.size)
              go_wp2
              go_ret
              exact ⟨rfl, hB⟩
          · obtain ⟨T, hT⟩ : ∃ T, T = setS false S q := ⟨_, rfl⟩
            have hqz : ¬ (q.1 : Int) > (q.2 : Int) := by omega
            have c2 := ok_of c1 (setR_ok HS.out.1 (by omega) (by omega))
            rw [← hT] at c2
            have hTn : Norm T := by rw [hT]; exact setS_norm HS.out.1 (by omega)
            have hTl : T.length ≤ S.length + 1 := by rw [hT]; exact setS_len HS.out.1 (by omega)
            have hTc : covB T n = if q.1 ≤ n ∧ n < q.2 then false else covB S n := by rw [hT]; exact covB_set HS.out.1 (by omega) n
            have hTm : mayB T = true := (mayB_iff T).2 ⟨hTn, by omega⟩
            obtain ⟨bb, hbb⟩ : ∃ bb, bb = covB S n := ⟨_, rfl⟩
            obtain ⟨dd, hdd⟩ : ∃ dd, dd = covB T n := ⟨_, rfl⟩
            rw [← hbb, ← hdd] at hTc
            obtain ⟨G, hG⟩ : ∃ G, G = gapN T n := ⟨_, rfl⟩
            have hGn : G = n ↔ dd = false := by rw [hG, hdd]; exact gapN_is hTm
            rw [← hbb]
            clear c1 hT hbb
            go_wp2_with fail
            with_reducible refine c2.mono ?_
            rintro e w2 ⟨A2, k2, rfl, ha2, hb2⟩
            have s1 := (hb2.cell (p := ⟨b, off + k * 2, none⟩) hlb).trans r1
            have s2 := (hb2.cell (p := ⟨b, off + k * 2 + 1, none⟩) hlb).trans r2
            have HB2 := Lib.hid (HS.out.2.2.trans (hb2.mono HS.out.2.2.size))
            have HLB := Lib.hid (Nat.lt_of_lt_of_le hlb hb2.size)
            have hm : ∀ W, Below w2.heap.size w2 W → Calls Try.prog 13 #[.slice A2 T.length k2] W fun e w' => e = .returned (.bool true) ∧ Below W.heap.size W w' := fun W hb => by
              have := may_any (cap := k2) (by omega) ((ha2.below hb).mono hb.size)
              rwa [hTm] at this
            have hh : ∀ W, Below w2.heap.size w2 W → Calls Try.prog 16 #[.slice A2 T.length k2, .int .u64 (n : Int)] W fun e w' => e = .returned (.bool dd) ∧ Below W.heap.size W w' := fun W hb => by
              have := has_det (cap := k2) n (by omega) ((ha2.below hb).mono hb.size)
              rwa [hTm, ← hdd, Bool.true_and] at this
            have hg : ∀ W, Below w2.heap.size w2 W → Calls Try.prog 20 #[.slice A2 T.length k2, .int .u64 (n : Int)] W fun e w' => e = .returned (.int .u64 (G : Int)) ∧ Below W.heap.size W w' := fun W hb => by
              have := gap_det (cap := k2) n (by omega) ((ha2.below hb).mono hb.size)
              rwa [← hG] at this
            have HT := Lib.hid (And.intro hTn (And.intro ha2 (And.intro hTl hdd)))
            have HM := Lib.hid hm
            have HH := Lib.hid hh
            have HG := Lib.hid hg
            clear r1 r2 hb2 c2 hm hh hg hTn hTl hTm hdd hG ha2 hlb
            go_upto_region 13 with fail
            by_cases h3 : q.1 ≤ n
            · have h3z : (q.1 : Int) ≤ (n : Int) := by omega
              by_cases h4 : n < q.2
              · have h4z : (n : Int) < (q.2 : Int) := by omega
                rw [if_pos ⟨h3, h4⟩] at hTc
                subst hTc
                have hGz : (G : Int) = (n : Int) := by have := hGn.2 rfl; omega
                clear h3 h4 hGn
                as_aux_lemma =>
                  go_quiet (fail)
                  obtain ⟨W3, hW3⟩ : ∃ W3, W3 = w2.drewN nq := ⟨_, rfl⟩
                  have hb3 : Below w2.heap.size w2 W3 := by rw [hW3]; exact below_drewN (Below.refl _ _) _
                  rw [← hW3]
                  have s1 : W3.cell? ⟨b, off + k * 2, none⟩ = _ := (hb3.cell (p := ⟨b, off + k * 2, none⟩) HLB.out).trans s1
                  have s2 : W3.cell? ⟨b, off + k * 2 + 1, none⟩ = _ := (hb3.cell (p := ⟨b, off + k * 2 + 1, none⟩) HLB.out).trans s2
                  have c3 := HM.out W3 hb3
                  clear hW3
                  go_wp2_with fail
                  with_reducible refine c3.mono ?_
                  rintro e w4 ⟨rfl, hb4⟩
                  have hB4 := hb3.trans (hb4.mono hb3.size)
                  have s1 := (hb4.cell (p := ⟨b, off + k * 2, none⟩) (Nat.lt_of_lt_of_le HLB.out hb3.size)).trans s1
                  have s2 := (hb4.cell (p := ⟨b, off + k * 2 + 1, none⟩) (Nat.lt_of_lt_of_le HLB.out hb3.size)).trans s2
                  have c4 := HH.out w4 hB4
                  have HB4 := Lib.hid hB4
                  clear hb4 hB4 hb3 c3
                  go_wp2_with fail
                  with_reducible refine c4.mono ?_
                  rintro e w5 ⟨rfl, hb5⟩
                  have hB5 := HB4.out.trans (hb5.mono HB4.out.size)
                  have c5 := HG.out w5 hB5
                  have HB5 := Lib.hid hB5
                  clear hb5 hB5 s1 s2 c4
                  go_wp2_with fail
                  with_reducible refine c5.mono ?_
                  rintro e w6 ⟨rfl, hb6⟩
                  have HB6 := Lib.hid (HB5.out.trans (hb6.mono HB5.out.size))
                  clear hb6 c5
                  go_wp2
                  go_roundw
                  case rel => exact ⟨T, k + 1, A2, k2, rfl, by rw [HT.out.2.2.2], by go_num, h1, by have := HT.out.2.2.1; omega, Lib.hid ⟨HT.out.1, (HT.out.2.1.below HB6.out).mono HB6.out.size, HB2.out.trans (HB6.out.mono HB2.out.size)⟩⟩
                  case measure => simp [intOf]; omega
              · have h4z : ¬ (n : Int) < (q.2 : Int) := by omega
                rw [if_neg (fun h => h4 h.2)] at hTc
                subst hTc
                cases dd with
                | true =>
                  have hGz : ¬ (G : Int) = (n : Int) := fun h => by have := hGn.1 (by omega); cases this
                  clear h3 h4 hGn
                  as_aux_lemma =>
                    go_quiet (fail)
                    obtain ⟨W3, hW3⟩ : ∃ W3, W3 = w2.drewN nq := ⟨_, rfl⟩
                    have hb3 : Below w2.heap.size w2 W3 := by rw [hW3]; exact below_drewN (Below.refl _ _) _
                    rw [← hW3]
                    have s1 : W3.cell? ⟨b, off + k * 2, none⟩ = _ := (hb3.cell (p := ⟨b, off + k * 2, none⟩) HLB.out).trans s1
                    have s2 : W3.cell? ⟨b, off + k * 2 + 1, none⟩ = _ := (hb3.cell (p := ⟨b, off + k * 2 + 1, none⟩) HLB.out).trans s2
                    have c3 := HM.out W3 hb3
                    clear hW3
                    go_wp2_with fail
                    with_reducible refine c3.mono ?_
                    rintro e w4 ⟨rfl, hb4⟩
                    have hB4 := hb3.trans (hb4.mono hb3.size)
                    have s1 := (hb4.cell (p := ⟨b, off + k * 2, none⟩) (Nat.lt_of_lt_of_le HLB.out hb3.size)).trans s1
                    have s2 := (hb4.cell (p := ⟨b, off + k * 2 + 1, none⟩) (Nat.lt_of_lt_of_le HLB.out hb3.size)).trans s2
                    have c4 := HH.out w4 hB4
                    have HB4 := Lib.hid hB4
                    clear hb4 hB4 hb3 c3
                    go_wp2_with fail
                    with_reducible refine c4.mono ?_
                    rintro e w5 ⟨rfl, hb5⟩
                    have hB5 := HB4.out.trans (hb5.mono HB4.out.size)
                    have c5 := HG.out w5 hB5
                    have HB5 := Lib.hid hB5
                    clear hb5 hB5 s1 s2 c4
                    go_wp2_with fail
                    with_reducible refine c5.mono ?_
                    rintro e w6 ⟨rfl, hb6⟩
                    have HB6 := Lib.hid (HB5.out.trans (hb6.mono HB5.out.size))
                    clear hb6 c5
                    go_wp2
                    go_roundw
                    case rel => exact ⟨T, k + 1, A2, k2, rfl, by rw [HT.out.2.2.2], by go_num, h1, by have := HT.out.2.2.1; omega, Lib.hid ⟨HT.out.1, (HT.out.2.1.below HB6.out).mono HB6.out.size, HB2.out.trans (HB6.out.mono HB2.out.size)⟩⟩
                    case measure => simp [intOf]; omega
                | false =>
                  have hGz : (G : Int) = (n : Int) := by have := hGn.2 rfl; omega
                  clear h3 h4 hGn
                  as_aux_lemma =>
                    go_quiet (fail)
                    obtain ⟨W3, hW3⟩ : ∃ W3, W3 = w2.drewN nq := ⟨_, rfl⟩
                    have hb3 : Below w2.heap.size w2 W3 := by rw [hW3]; exact below_drewN (Below.refl _ _) _
                    rw [← hW3]
                    have s1 : W3.cell? ⟨b, off + k * 2, none⟩ = _ := (hb3.cell (p := ⟨b, off + k * 2, none⟩) HLB.out).trans s1
                    have s2 : W3.cell? ⟨b, off + k * 2 + 1, none⟩ = _ := (hb3.cell (p := ⟨b, off + k * 2 + 1, none⟩) HLB.out).trans s2
                    have c3 := HM.out W3 hb3
                    clear hW3
                    go_wp2_with fail
                    with_reducible refine c3.mono ?_
                    rintro e w4 ⟨rfl, hb4⟩
                    have hB4 := hb3.trans (hb4.mono hb3.size)
                    have s1 := (hb4.cell (p := ⟨b, off + k * 2, none⟩) (Nat.lt_of_lt_of_le HLB.out hb3.size)).trans s1
                    have s2 := (hb4.cell (p := ⟨b, off + k * 2 + 1, none⟩) (Nat.lt_of_lt_of_le HLB.out hb3.size)).trans s2
                    have c4 := HH.out w4 hB4
                    have HB4 := Lib.hid hB4
                    clear hb4 hB4 hb3 c3
                    go_wp2_with fail
                    with_reducible refine c4.mono ?_
                    rintro e w5 ⟨rfl, hb5⟩
                    have hB5 := HB4.out.trans (hb5.mono HB4.out.size)
                    have c5 := HG.out w5 hB5
                    have HB5 := Lib.hid hB5
                    clear hb5 hB5 s1 s2 c4
                    go_wp2_with fail
                    with_reducible refine c5.mono ?_
                    rintro e w6 ⟨rfl, hb6⟩
                    have HB6 := Lib.hid (HB5.out.trans (hb6.mono HB5.out.size))
                    clear hb6 c5
                    go_wp2
                    go_roundw
                    case rel => exact ⟨T, k + 1, A2, k2, rfl, by rw [HT.out.2.2.2], by go_num, h1, by have := HT.out.2.2.1; omega, Lib.hid ⟨HT.out.1, (HT.out.2.1.below HB6.out).mono HB6.out.size, HB2.out.trans (HB6.out.mono HB2.out.size)⟩⟩
                    case measure => simp [intOf]; omega
            · have h3z : ¬ (q.1 : Int) ≤ (n : Int) := by omega
              rw [if_neg (fun h => h3 h.1)] at hTc
              subst hTc
              cases dd with
              | true =>
                have hGz : ¬ (G : Int) = (n : Int) := fun h => by have := hGn.1 (by omega); cases this
                clear h3 hGn
                as_aux_lemma =>
                  go_quiet (fail)
                  obtain ⟨W3, hW3⟩ : ∃ W3, W3 = w2.drewN nq := ⟨_, rfl⟩
                  have hb3 : Below w2.heap.size w2 W3 := by rw [hW3]; exact below_drewN (Below.refl _ _) _
                  rw [← hW3]
                  have s1 : W3.cell? ⟨b, off + k * 2, none⟩ = _ := (hb3.cell (p := ⟨b, off + k * 2, none⟩) HLB.out).trans s1
                  have s2 : W3.cell? ⟨b, off + k * 2 + 1, none⟩ = _ := (hb3.cell (p := ⟨b, off + k * 2 + 1, none⟩) HLB.out).trans s2
                  have c3 := HM.out W3 hb3
                  clear hW3
                  go_wp2_with fail
                  with_reducible refine c3.mono ?_
                  rintro e w4 ⟨rfl, hb4⟩
                  have hB4 := hb3.trans (hb4.mono hb3.size)
                  have s1 := (hb4.cell (p := ⟨b, off + k * 2, none⟩) (Nat.lt_of_lt_of_le HLB.out hb3.size)).trans s1
                  have s2 := (hb4.cell (p := ⟨b, off + k * 2 + 1, none⟩) (Nat.lt_of_lt_of_le HLB.out hb3.size)).trans s2
                  have c4 := HH.out w4 hB4
                  have HB4 := Lib.hid hB4
                  clear hb4 hB4 hb3 c3
                  go_wp2_with fail
                  with_reducible refine c4.mono ?_
                  rintro e w5 ⟨rfl, hb5⟩
                  have hB5 := HB4.out.trans (hb5.mono HB4.out.size)
                  have c5 := HG.out w5 hB5
                  have HB5 := Lib.hid hB5
                  clear hb5 hB5 s1 s2 c4
                  go_wp2_with fail
                  with_reducible refine c5.mono ?_
                  rintro e w6 ⟨rfl, hb6⟩
                  have HB6 := Lib.hid (HB5.out.trans (hb6.mono HB5.out.size))
                  clear hb6 c5
                  go_wp2
                  go_roundw
                  case rel => exact ⟨T, k + 1, A2, k2, rfl, by rw [HT.out.2.2.2], by go_num, h1, by have := HT.out.2.2.1; omega, Lib.hid ⟨HT.out.1, (HT.out.2.1.below HB6.out).mono HB6.out.size, HB2.out.trans (HB6.out.mono HB2.out.size)⟩⟩
                  case measure => simp [intOf]; omega
              | false =>
                have hGz : (G : Int) = (n : Int) := by have := hGn.2 rfl; omega
                clear h3 hGn
                as_aux_lemma =>
                  go_quiet (fail)
                  obtain ⟨W3, hW3⟩ : ∃ W3, W3 = w2.drewN nq := ⟨_, rfl⟩
                  have hb3 : Below w2.heap.size w2 W3 := by rw [hW3]; exact below_drewN (Below.refl _ _) _
                  rw [← hW3]
                  have s1 : W3.cell? ⟨b, off + k * 2, none⟩ = _ := (hb3.cell (p := ⟨b, off + k * 2, none⟩) HLB.out).trans s1
                  have s2 : W3.cell? ⟨b, off + k * 2 + 1, none⟩ = _ := (hb3.cell (p := ⟨b, off + k * 2 + 1, none⟩) HLB.out).trans s2
                  have c3 := HM.out W3 hb3
                  clear hW3
                  go_wp2_with fail
                  with_reducible refine c3.mono ?_
                  rintro e w4 ⟨rfl, hb4⟩
                  have hB4 := hb3.trans (hb4.mono hb3.size)
                  have s1 := (hb4.cell (p := ⟨b, off + k * 2, none⟩) (Nat.lt_of_lt_of_le HLB.out hb3.size)).trans s1
                  have s2 := (hb4.cell (p := ⟨b, off + k * 2 + 1, none⟩) (Nat.lt_of_lt_of_le HLB.out hb3.size)).trans s2
                  have c4 := HH.out w4 hB4
                  have HB4 := Lib.hid hB4
                  clear hb4 hB4 hb3 c3
                  go_wp2_with fail
                  with_reducible refine c4.mono ?_
                  rintro e w5 ⟨rfl, hb5⟩
                  have hB5 := HB4.out.trans (hb5.mono HB4.out.size)
                  have c5 := HG.out w5 hB5
                  have HB5 := Lib.hid hB5
                  clear hb5 hB5 s1 s2 c4
                  go_wp2_with fail
                  with_reducible refine c5.mono ?_
                  rintro e w6 ⟨rfl, hb6⟩
                  have HB6 := Lib.hid (HB5.out.trans (hb6.mono HB5.out.size))
                  clear hb6 c5
                  go_wp2
                  go_roundw
                  case rel => exact ⟨T, k + 1, A2, k2, rfl, by rw [HT.out.2.2.2], by go_num, h1, by have := HT.out.2.2.1; omega, Lib.hid ⟨HT.out.1, (HT.out.2.1.below HB6.out).mono HB6.out.size, HB2.out.trans (HB6.out.mono HB2.out.size)⟩⟩
                  case measure => simp [intOf]; omega
        | false =>
          have c1 := add_any (cap := c') q (by omega) HS.out.2.1
          unfold spV at c1
          have HLB := Lib.hid hlb
          by_cases hq : q.2 < q.1
          · as_aux_lemma =>
              have c2 := bad_of c1 (setR_bad HS.out.1 (by omega) hq)
              have hqz : (q.1 : Int) > (q.2 : Int) := by omega
              clear c1
              go_wp2_with fail
              with_reducible refine c2.mono ?_
              rintro e w2 ⟨A2, k2, rfl, hb2⟩
              have s1 := (hb2.cell (p := ⟨b, off + k * 2, none⟩) hlb).trans r1
              have s2 := (hb2.cell (p := ⟨b, off + k * 2 + 1, none⟩) hlb).trans r2
              have HB2 := Lib.hid (HS.out.2.2.trans (hb2.mono HS.out.2.2.size))
              clear r1 r2 hb2 c2
              go_upto_region 13 with fail
              go_quiet (fail)
              go_wp2_with fail
              with_reducible refine (alive_any _).mono ?_
              rintro e w3 ⟨rfl, hb3⟩
              have hB := HB2.out.trans (((below_drewN (Below.refl w2.heap.size w2) nq).trans hb3).mono HB2.out.size)
              go_wp2
              go_ret
              exact ⟨rfl, hB⟩
          · obtain ⟨T, hT⟩ : ∃ T, T = setS true S q := ⟨_, rfl⟩
            have hqz : ¬ (q.1 : Int) > (q.2 : Int) := by omega
            have c2 := ok_of c1 (setR_ok HS.out.1 (by omega) (by omega))
            rw [← hT] at c2
            have hTn : Norm T := by rw [hT]; exact setS_norm HS.out.1 (by omega)
            have hTl : T.length ≤ S.length + 1 := by rw [hT]; exact setS_len HS.out.1 (by omega)
            have hTc : covB T n = if q.1 ≤ n ∧ n < q.2 then true else covB S n := by rw [hT]; exact covB_set HS.out.1 (by omega) n
            have hTm : mayB T = true := (mayB_iff T).2 ⟨hTn, by omega⟩
            obtain ⟨bb, hbb⟩ : ∃ bb, bb = covB S n := ⟨_, rfl⟩
            obtain ⟨dd, hdd⟩ : ∃ dd, dd = covB T n := ⟨_, rfl⟩
            rw [← hbb, ← hdd] at hTc
            obtain ⟨G, hG⟩ : ∃ G, G = gapN T n := ⟨_, rfl⟩
            have hGn : G = n ↔ dd = false := by rw [hG, hdd]; exact gapN_is hTm
            rw [← hbb]
            clear c1 hT hbb
            go_wp2_with fail
            with_reducible refine c2.mono ?_
            rintro e w2 ⟨A2, k2, rfl, ha2, hb2⟩
            have s1 := (hb2.cell (p := ⟨b, off + k * 2, none⟩) hlb).trans r1
            have s2 := (hb2.cell (p := ⟨b, off + k * 2 + 1, none⟩) hlb).trans r2
            have HB2 := Lib.hid (HS.out.2.2.trans (hb2.mono HS.out.2.2.size))
            have HLB := Lib.hid (Nat.lt_of_lt_of_le hlb hb2.size)
            have hm : ∀ W, Below w2.heap.size w2 W → Calls Try.prog 13 #[.slice A2 T.length k2] W fun e w' => e = .returned (.bool true) ∧ Below W.heap.size W w' := fun W hb => by
              have := may_any (cap := k2) (by omega) ((ha2.below hb).mono hb.size)
              rwa [hTm] at this
            have hh : ∀ W, Below w2.heap.size w2 W → Calls Try.prog 16 #[.slice A2 T.length k2, .int .u64 (n : Int)] W fun e w' => e = .returned (.bool dd) ∧ Below W.heap.size W w' := fun W hb => by
              have := has_det (cap := k2) n (by omega) ((ha2.below hb).mono hb.size)
              rwa [hTm, ← hdd, Bool.true_and] at this
            have hg : ∀ W, Below w2.heap.size w2 W → Calls Try.prog 20 #[.slice A2 T.length k2, .int .u64 (n : Int)] W fun e w' => e = .returned (.int .u64 (G : Int)) ∧ Below W.heap.size W w' := fun W hb => by
              have := gap_det (cap := k2) n (by omega) ((ha2.below hb).mono hb.size)
              rwa [← hG] at this
            have HT := Lib.hid (And.intro hTn (And.intro ha2 (And.intro hTl hdd)))
            have HM := Lib.hid hm
            have HH := Lib.hid hh
            have HG := Lib.hid hg
            clear r1 r2 hb2 c2 hm hh hg hTn hTl hTm hdd hG ha2 hlb
            go_upto_region 13 with fail
            by_cases h3 : q.1 ≤ n
            · have h3z : (q.1 : Int) ≤ (n : Int) := by omega
              by_cases h4 : n < q.2
              · have h4z : (n : Int) < (q.2 : Int) := by omega
                rw [if_pos ⟨h3, h4⟩] at hTc
                subst hTc
                have hGz : ¬ (G : Int) = (n : Int) := fun h => by have := hGn.1 (by omega); cases this
                clear h3 h4 hGn
                as_aux_lemma =>
                  go_quiet (fail)
                  obtain ⟨W3, hW3⟩ : ∃ W3, W3 = w2.drewN nq := ⟨_, rfl⟩
                  have hb3 : Below w2.heap.size w2 W3 := by rw [hW3]; exact below_drewN (Below.refl _ _) _
                  rw [← hW3]
                  have s1 : W3.cell? ⟨b, off + k * 2, none⟩ = _ := (hb3.cell (p := ⟨b, off + k * 2, none⟩) HLB.out).trans s1
                  have s2 : W3.cell? ⟨b, off + k * 2 + 1, none⟩ = _ := (hb3.cell (p := ⟨b, off + k * 2 + 1, none⟩) HLB.out).trans s2
                  have c3 := HM.out W3 hb3
                  clear hW3
                  go_wp2_with fail
                  with_reducible refine c3.mono ?_
                  rintro e w4 ⟨rfl, hb4⟩
                  have hB4 := hb3.trans (hb4.mono hb3.size)
                  have s1 := (hb4.cell (p := ⟨b, off + k * 2, none⟩) (Nat.lt_of_lt_of_le HLB.out hb3.size)).trans s1
                  have s2 := (hb4.cell (p := ⟨b, off + k * 2 + 1, none⟩) (Nat.lt_of_lt_of_le HLB.out hb3.size)).trans s2
                  have c4 := HH.out w4 hB4
                  have HB4 := Lib.hid hB4
                  clear hb4 hB4 hb3 c3
                  go_wp2_with fail
                  with_reducible refine c4.mono ?_
                  rintro e w5 ⟨rfl, hb5⟩
                  have hB5 := HB4.out.trans (hb5.mono HB4.out.size)
                  have c5 := HG.out w5 hB5
                  have HB5 := Lib.hid hB5
                  clear hb5 hB5 s1 s2 c4
                  go_wp2_with fail
                  with_reducible refine c5.mono ?_
                  rintro e w6 ⟨rfl, hb6⟩
                  have HB6 := Lib.hid (HB5.out.trans (hb6.mono HB5.out.size))
                  clear hb6 c5
                  go_wp2
                  go_roundw
                  case rel => exact ⟨T, k + 1, A2, k2, rfl, by rw [HT.out.2.2.2], by go_num, h1, by have := HT.out.2.2.1; omega, Lib.hid ⟨HT.out.1, (HT.out.2.1.below HB6.out).mono HB6.out.size, HB2.out.trans (HB6.out.mono HB2.out.size)⟩⟩
                  case measure => simp [intOf]; omega
              · have h4z : ¬ (n : Int) < (q.2 : Int) := by omega
                rw [if_neg (fun h => h4 h.2)] at hTc
                subst hTc
                cases dd with
                | true =>
                  have hGz : ¬ (G : Int) = (n : Int) := fun h => by have := hGn.1 (by omega); cases this
                  clear h3 h4 hGn
                  as_aux_lemma =>
                    go_quiet (fail)
                    obtain ⟨W3, hW3⟩ : ∃ W3, W3 = w2.drewN nq := ⟨_, rfl⟩
                    have hb3 : Below w2.heap.size w2 W3 := by rw [hW3]; exact below_drewN (Below.refl _ _) _
                    rw [← hW3]
                    have s1 : W3.cell? ⟨b, off + k * 2, none⟩ = _ := (hb3.cell (p := ⟨b, off + k * 2, none⟩) HLB.out).trans s1
                    have s2 : W3.cell? ⟨b, off + k * 2 + 1, none⟩ = _ := (hb3.cell (p := ⟨b, off + k * 2 + 1, none⟩) HLB.out).trans s2
                    have c3 := HM.out W3 hb3
                    clear hW3
                    go_wp2_with fail
                    with_reducible refine c3.mono ?_
                    rintro e w4 ⟨rfl, hb4⟩
                    have hB4 := hb3.trans (hb4.mono hb3.size)
                    have s1 := (hb4.cell (p := ⟨b, off + k * 2, none⟩) (Nat.lt_of_lt_of_le HLB.out hb3.size)).trans s1
                    have s2 := (hb4.cell (p := ⟨b, off + k * 2 + 1, none⟩) (Nat.lt_of_lt_of_le HLB.out hb3.size)).trans s2
                    have c4 := HH.out w4 hB4
                    have HB4 := Lib.hid hB4
                    clear hb4 hB4 hb3 c3
                    go_wp2_with fail
                    with_reducible refine c4.mono ?_
                    rintro e w5 ⟨rfl, hb5⟩
                    have hB5 := HB4.out.trans (hb5.mono HB4.out.size)
                    have c5 := HG.out w5 hB5
                    have HB5 := Lib.hid hB5
                    clear hb5 hB5 s1 s2 c4
                    go_wp2_with fail
                    with_reducible refine c5.mono ?_
                    rintro e w6 ⟨rfl, hb6⟩
                    have HB6 := Lib.hid (HB5.out.trans (hb6.mono HB5.out.size))
                    clear hb6 c5
                    go_wp2
                    go_roundw
                    case rel => exact ⟨T, k + 1, A2, k2, rfl, by rw [HT.out.2.2.2], by go_num, h1, by have := HT.out.2.2.1; omega, Lib.hid ⟨HT.out.1, (HT.out.2.1.below HB6.out).mono HB6.out.size, HB2.out.trans (HB6.out.mono HB2.out.size)⟩⟩
                    case measure => simp [intOf]; omega
                | false =>
                  have hGz : (G : Int) = (n : Int) := by have := hGn.2 rfl; omega
                  clear h3 h4 hGn
                  as_aux_lemma =>
                    go_quiet (fail)
                    obtain ⟨W3, hW3⟩ : ∃ W3, W3 = w2.drewN nq := ⟨_, rfl⟩
                    have hb3 : Below w2.heap.size w2 W3 := by rw [hW3]; exact below_drewN (Below.refl _ _) _
                    rw [← hW3]
                    have s1 : W3.cell? ⟨b, off + k * 2, none⟩ = _ := (hb3.cell (p := ⟨b, off + k * 2, none⟩) HLB.out).trans s1
                    have s2 : W3.cell? ⟨b, off + k * 2 + 1, none⟩ = _ := (hb3.cell (p := ⟨b, off + k * 2 + 1, none⟩) HLB.out).trans s2
                    have c3 := HM.out W3 hb3
                    clear hW3
                    go_wp2_with fail
                    with_reducible refine c3.mono ?_
                    rintro e w4 ⟨rfl, hb4⟩
                    have hB4 := hb3.trans (hb4.mono hb3.size)
                    have s1 := (hb4.cell (p := ⟨b, off + k * 2, none⟩) (Nat.lt_of_lt_of_le HLB.out hb3.size)).trans s1
                    have s2 := (hb4.cell (p := ⟨b, off + k * 2 + 1, none⟩) (Nat.lt_of_lt_of_le HLB.out hb3.size)).trans s2
                    have c4 := HH.out w4 hB4
                    have HB4 := Lib.hid hB4
                    clear hb4 hB4 hb3 c3
                    go_wp2_with fail
                    with_reducible refine c4.mono ?_
                    rintro e w5 ⟨rfl, hb5⟩
                    have hB5 := HB4.out.trans (hb5.mono HB4.out.size)
                    have c5 := HG.out w5 hB5
                    have HB5 := Lib.hid hB5
                    clear hb5 hB5 s1 s2 c4
                    go_wp2_with fail
                    with_reducible refine c5.mono ?_
                    rintro e w6 ⟨rfl, hb6⟩
                    have HB6 := Lib.hid (HB5.out.trans (hb6.mono HB5.out.size))
                    clear hb6 c5
                    go_wp2
                    go_roundw
                    case rel => exact ⟨T, k + 1, A2, k2, rfl, by rw [HT.out.2.2.2], by go_num, h1, by have := HT.out.2.2.1; omega, Lib.hid ⟨HT.out.1, (HT.out.2.1.below HB6.out).mono HB6.out.size, HB2.out.trans (HB6.out.mono HB2.out.size)⟩⟩
                    case measure => simp [intOf]; omega
            · have h3z : ¬ (q.1 : Int) ≤ (n : Int) := by omega
              rw [if_neg (fun h => h3 h.1)] at hTc
              subst hTc
              cases dd with
              | true =>
                have hGz : ¬ (G : Int) = (n : Int) := fun h => by have := hGn.1 (by omega); cases this
                clear h3 hGn
                as_aux_lemma =>
                  go_quiet (fail)
                  obtain ⟨W3, hW3⟩ : ∃ W3, W3 = w2.drewN nq := ⟨_, rfl⟩
                  have hb3 : Below w2.heap.size w2 W3 := by rw [hW3]; exact below_drewN (Below.refl _ _) _
                  rw [← hW3]
                  have s1 : W3.cell? ⟨b, off + k * 2, none⟩ = _ := (hb3.cell (p := ⟨b, off + k * 2, none⟩) HLB.out).trans s1
                  have s2 : W3.cell? ⟨b, off + k * 2 + 1, none⟩ = _ := (hb3.cell (p := ⟨b, off + k * 2 + 1, none⟩) HLB.out).trans s2
                  have c3 := HM.out W3 hb3
                  clear hW3
                  go_wp2_with fail
                  with_reducible refine c3.mono ?_
                  rintro e w4 ⟨rfl, hb4⟩
                  have hB4 := hb3.trans (hb4.mono hb3.size)
                  have s1 := (hb4.cell (p := ⟨b, off + k * 2, none⟩) (Nat.lt_of_lt_of_le HLB.out hb3.size)).trans s1
                  have s2 := (hb4.cell (p := ⟨b, off + k * 2 + 1, none⟩) (Nat.lt_of_lt_of_le HLB.out hb3.size)).trans s2
                  have c4 := HH.out w4 hB4
                  have HB4 := Lib.hid hB4
                  clear hb4 hB4 hb3 c3
                  go_wp2_with fail
                  with_reducible refine c4.mono ?_
                  rintro e w5 ⟨rfl, hb5⟩
                  have hB5 := HB4.out.trans (hb5.mono HB4.out.size)
                  have c5 := HG.out w5 hB5
                  have HB5 := Lib.hid hB5
                  clear hb5 hB5 s1 s2 c4
                  go_wp2_with fail
                  with_reducible refine c5.mono ?_
                  rintro e w6 ⟨rfl, hb6⟩
                  have HB6 := Lib.hid (HB5.out.trans (hb6.mono HB5.out.size))
                  clear hb6 c5
                  go_wp2
                  go_roundw
                  case rel => exact ⟨T, k + 1, A2, k2, rfl, by rw [HT.out.2.2.2], by go_num, h1, by have := HT.out.2.2.1; omega, Lib.hid ⟨HT.out.1, (HT.out.2.1.below HB6.out).mono HB6.out.size, HB2.out.trans (HB6.out.mono HB2.out.size)⟩⟩
                  case measure => simp [intOf]; omega
              | false =>
                have hGz : (G : Int) = (n : Int) := by have := hGn.2 rfl; omega
                clear h3 hGn
                as_aux_lemma =>
                  go_quiet (fail)
                  obtain ⟨W3, hW3⟩ : ∃ W3, W3 = w2.drewN nq := ⟨_, rfl⟩
                  have hb3 : Below w2.heap.size w2 W3 := by rw [hW3]; exact below_drewN (Below.refl _ _) _
                  rw [← hW3]
                  have s1 : W3.cell? ⟨b, off + k * 2, none⟩ = _ := (hb3.cell (p := ⟨b, off + k * 2, none⟩) HLB.out).trans s1
                  have s2 : W3.cell? ⟨b, off + k * 2 + 1, none⟩ = _ := (hb3.cell (p := ⟨b, off + k * 2 + 1, none⟩) HLB.out).trans s2
                  have c3 := HM.out W3 hb3
                  clear hW3
                  go_wp2_with fail
                  with_reducible refine c3.mono ?_
                  rintro e w4 ⟨rfl, hb4⟩
                  have hB4 := hb3.trans (hb4.mono hb3.size)
                  have s1 := (hb4.cell (p := ⟨b, off + k * 2, none⟩) (Nat.lt_of_lt_of_le HLB.out hb3.size)).trans s1
                  have s2 := (hb4.cell (p := ⟨b, off + k * 2 + 1, none⟩) (Nat.lt_of_lt_of_le HLB.out hb3.size)).trans s2
                  have c4 := HH.out w4 hB4
                  have HB4 := Lib.hid hB4
                  clear hb4 hB4 hb3 c3
                  go_wp2_with fail
                  with_reducible refine c4.mono ?_
                  rintro e w5 ⟨rfl, hb5⟩
                  have hB5 := HB4.out.trans (hb5.mono HB4.out.size)
                  have c5 := HG.out w5 hB5
                  have HB5 := Lib.hid hB5
                  clear hb5 hB5 s1 s2 c4
                  go_wp2_with fail
                  with_reducible refine c5.mono ?_
                  rintro e w6 ⟨rfl, hb6⟩
                  have HB6 := Lib.hid (HB5.out.trans (hb6.mono HB5.out.size))
                  clear hb6 c5
                  go_wp2
                  go_roundw
                  case rel => exact ⟨T, k + 1, A2, k2, rfl, by rw [HT.out.2.2.2], by go_num, h1, by have := HT.out.2.2.1; omega, Lib.hid ⟨HT.out.1, (HT.out.2.1.below HB6.out).mono HB6.out.size, HB2.out.trans (HB6.out.mono HB2.out.size)⟩⟩
                  case measure => simp [intOf]; omega
      · have h2z : ¬ (k : Int) < (n1 : Int) := by omega
        clear hrow HI
        have c1 := add_any (cap := c') q (by omega) HS.out.2.1
        unfold spV at c1
        have HLB := Lib.hid hlb
        by_cases hq : q.2 < q.1
        · as_aux_lemma =>
            have c2 := bad_of c1 (setR_bad HS.out.1 (by omega) hq)
            have hqz : (q.1 : Int) > (q.2 : Int) := by omega
            clear c1
            go_wp2_with fail
            with_reducible refine c2.mono ?_
            rintro e w2 ⟨A2, k2, rfl, hb2⟩
            have s1 := (hb2.cell (p := ⟨b, off + k * 2, none⟩) hlb).trans r1
            have s2 := (hb2.cell (p := ⟨b, off + k * 2 + 1, none⟩) hlb).trans r2
            have HB2 := Lib.hid (HS.out.2.2.trans (hb2.mono HS.out.2.2.size))
            clear r1 r2 hb2 c2
            go_upto_region 13 with fail
            go_quiet (fail)
            go_wp2_with fail
            with_reducible refine (alive_any _).mono ?_
            rintro e w3 ⟨rfl, hb3⟩
            have hB := HB2.out.trans (((below_drewN (Below.refl w2.heap.size w2) nq).trans hb3).mono HB2.out.size)
            go_wp2
            go_ret
            exact ⟨rfl, hB⟩
        · obtain ⟨T, hT⟩ : ∃ T, T = setS true S q := ⟨_, rfl⟩
          have hqz : ¬ (q.1 : Int) > (q.2 : Int) := by omega
          have c2 := ok_of c1 (setR_ok HS.out.1 (by omega) (by omega))
          rw [← hT] at c2
          have hTn : Norm T := by rw [hT]; exact setS_norm HS.out.1 (by omega)
          have hTl : T.length ≤ S.length + 1 := by rw [hT]; exact setS_len HS.out.1 (by omega)
          have hTc : covB T n = if q.1 ≤ n ∧ n < q.2 then true else covB S n := by rw [hT]; exact covB_set HS.out.1 (by omega) n
          have hTm : mayB T = true := (mayB_iff T).2 ⟨hTn, by omega⟩
          obtain ⟨bb, hbb⟩ : ∃ bb, bb = covB S n := ⟨_, rfl⟩
          obtain ⟨dd, hdd⟩ : ∃ dd, dd = covB T n := ⟨_, rfl⟩
          rw [← hbb, ← hdd] at hTc
          obtain ⟨G, hG⟩ : ∃ G, G = gapN T n := ⟨_, rfl⟩
          have hGn : G = n ↔ dd = false := by rw [hG, hdd]; exact gapN_is hTm
          rw [← hbb]
          clear c1 hT hbb
          go_wp2_with fail
          with_reducible refine c2.mono ?_
          rintro e w2 ⟨A2, k2, rfl, ha2, hb2⟩
          have s1 := (hb2.cell (p := ⟨b, off + k * 2, none⟩) hlb).trans r1
          have s2 := (hb2.cell (p := ⟨b, off + k * 2 + 1, none⟩) hlb).trans r2
          have HB2 := Lib.hid (HS.out.2.2.trans (hb2.mono HS.out.2.2.size))
          have HLB := Lib.hid (Nat.lt_of_lt_of_le hlb hb2.size)
          have hm : ∀ W, Below w2.heap.size w2 W → Calls Try.prog 13 #[.slice A2 T.length k2] W fun e w' => e = .returned (.bool true) ∧ Below W.heap.size W w' := fun W hb => by
            have := may_any (cap := k2) (by omega) ((ha2.below hb).mono hb.size)
            rwa [hTm] at this
          have hh : ∀ W, Below w2.heap.size w2 W → Calls Try.prog 16 #[.slice A2 T.length k2, .int .u64 (n : Int)] W fun e w' => e = .returned (.bool dd) ∧ Below W.heap.size W w' := fun W hb => by
            have := has_det (cap := k2) n (by omega) ((ha2.below hb).mono hb.size)
            rwa [hTm, ← hdd, Bool.true_and] at this
          have hg : ∀ W, Below w2.heap.size w2 W → Calls Try.prog 20 #[.slice A2 T.length k2, .int .u64 (n : Int)] W fun e w' => e = .returned (.int .u64 (G : Int)) ∧ Below W.heap.size W w' := fun W hb => by
            have := gap_det (cap := k2) n (by omega) ((ha2.below hb).mono hb.size)
            rwa [← hG] at this
          have HT := Lib.hid (And.intro hTn (And.intro ha2 (And.intro hTl hdd)))
          have HM := Lib.hid hm
          have HH := Lib.hid hh
          have HG := Lib.hid hg
          clear r1 r2 hb2 c2 hm hh hg hTn hTl hTm hdd hG ha2 hlb
          go_upto_region 13 with fail
          by_cases h3 : q.1 ≤ n
          · have h3z : (q.1 : Int) ≤ (n : Int) := by omega
            by_cases h4 : n < q.2
            · have h4z : (n : Int) < (q.2 : Int) := by omega
              rw [if_pos ⟨h3, h4⟩] at hTc
              subst hTc
              have hGz : ¬ (G : Int) = (n : Int) := fun h => by have := hGn.1 (by omega); cases this
              clear h3 h4 hGn
              as_aux_lemma =>
                go_quiet (fail)
                obtain ⟨W3, hW3⟩ : ∃ W3, W3 = w2.drewN nq := ⟨_, rfl⟩
                have hb3 : Below w2.heap.size w2 W3 := by rw [hW3]; exact below_drewN (Below.refl _ _) _
                rw [← hW3]
                have s1 : W3.cell? ⟨b, off + k * 2, none⟩ = _ := (hb3.cell (p := ⟨b, off + k * 2, none⟩) HLB.out).trans s1
                have s2 : W3.cell? ⟨b, off + k * 2 + 1, none⟩ = _ := (hb3.cell (p := ⟨b, off + k * 2 + 1, none⟩) HLB.out).trans s2
                have c3 := HM.out W3 hb3
                clear hW3
                go_wp2_with fail
                with_reducible refine c3.mono ?_
                rintro e w4 ⟨rfl, hb4⟩
                have hB4 := hb3.trans (hb4.mono hb3.size)
                have s1 := (hb4.cell (p := ⟨b, off + k * 2, none⟩) (Nat.lt_of_lt_of_le HLB.out hb3.size)).trans s1
                have s2 := (hb4.cell (p := ⟨b, off + k * 2 + 1, none⟩) (Nat.lt_of_lt_of_le HLB.out hb3.size)).trans s2
                have c4 := HH.out w4 hB4
                have HB4 := Lib.hid hB4
                clear hb4 hB4 hb3 c3
                go_wp2_with fail
                with_reducible refine c4.mono ?_
                rintro e w5 ⟨rfl, hb5⟩
                have hB5 := HB4.out.trans (hb5.mono HB4.out.size)
                have c5 := HG.out w5 hB5
                have HB5 := Lib.hid hB5
                clear hb5 hB5 s1 s2 c4
                go_wp2_with fail
                with_reducible refine c5.mono ?_
                rintro e w6 ⟨rfl, hb6⟩
                have HB6 := Lib.hid (HB5.out.trans (hb6.mono HB5.out.size))
                clear hb6 c5
                go_wp2
                go_roundw
                case rel => exact ⟨T, k + 1, A2, k2, rfl, by rw [HT.out.2.2.2], by go_num, h1, by have := HT.out.2.2.1; omega, Lib.hid ⟨HT.out.1, (HT.out.2.1.below HB6.out).mono HB6.out.size, HB2.out.trans (HB6.out.mono HB2.out.size)⟩⟩
                case measure => simp [intOf]; omega
            · have h4z : ¬ (n : Int) < (q.2 : Int) := by omega
              rw [if_neg (fun h => h4 h.2)] at hTc
              subst hTc
              cases dd with
              | true =>
                have hGz : ¬ (G : Int) = (n : Int) := fun h => by have := hGn.1 (by omega); cases this
                clear h3 h4 hGn
                as_aux_lemma =>
                  go_quiet (fail)
                  obtain ⟨W3, hW3⟩ : ∃ W3, W3 = w2.drewN nq := ⟨_, rfl⟩
                  have hb3 : Below w2.heap.size w2 W3 := by rw [hW3]; exact below_drewN (Below.refl _ _) _
                  rw [← hW3]
                  have s1 : W3.cell? ⟨b, off + k * 2, none⟩ = _ := (hb3.cell (p := ⟨b, off + k * 2, none⟩) HLB.out).trans s1
                  have s2 : W3.cell? ⟨b, off + k * 2 + 1, none⟩ = _ := (hb3.cell (p := ⟨b, off + k * 2 + 1, none⟩) HLB.out).trans s2
                  have c3 := HM.out W3 hb3
                  clear hW3
                  go_wp2_with fail
                  with_reducible refine c3.mono ?_
                  rintro e w4 ⟨rfl, hb4⟩
                  have hB4 := hb3.trans (hb4.mono hb3.size)
                  have s1 := (hb4.cell (p := ⟨b, off + k * 2, none⟩) (Nat.lt_of_lt_of_le HLB.out hb3.size)).trans s1
                  have s2 := (hb4.cell (p := ⟨b, off + k * 2 + 1, none⟩) (Nat.lt_of_lt_of_le HLB.out hb3.size)).trans s2
                  have c4 := HH.out w4 hB4
                  have HB4 := Lib.hid hB4
                  clear hb4 hB4 hb3 c3
                  go_wp2_with fail
                  with_reducible refine c4.mono ?_
                  rintro e w5 ⟨rfl, hb5⟩
                  have hB5 := HB4.out.trans (hb5.mono HB4.out.size)
                  have c5 := HG.out w5 hB5
                  have HB5 := Lib.hid hB5
                  clear hb5 hB5 s1 s2 c4
                  go_wp2_with fail
                  with_reducible refine c5.mono ?_
                  rintro e w6 ⟨rfl, hb6⟩
                  have HB6 := Lib.hid (HB5.out.trans (hb6.mono HB5.out.size))
                  clear hb6 c5
                  go_wp2
                  go_roundw
                  case rel => exact ⟨T, k + 1, A2, k2, rfl, by rw [HT.out.2.2.2], by go_num, h1, by have := HT.out.2.2.1; omega, Lib.hid ⟨HT.out.1, (HT.out.2.1.below HB6.out).mono HB6.out.size, HB2.out.trans (HB6.out.mono HB2.out.size)⟩⟩
                  case measure => simp [intOf]; omega
              | false =>
                have hGz : (G : Int) = (n : Int) := by have := hGn.2 rfl; omega
                clear h3 h4 hGn
                as_aux_lemma =>
                  go_quiet (fail)
                  obtain ⟨W3, hW3⟩ : ∃ W3, W3 = w2.drewN nq := ⟨_, rfl⟩
                  have hb3 : Below w2.heap.size w2 W3 := by rw [hW3]; exact below_drewN (Below.refl _ _) _
                  rw [← hW3]
                  have s1 : W3.cell? ⟨b, off + k * 2, none⟩ = _ := (hb3.cell (p := ⟨b, off + k * 2, none⟩) HLB.out).trans s1
                  have s2 : W3.cell? ⟨b, off + k * 2 + 1, none⟩ = _ := (hb3.cell (p := ⟨b, off + k * 2 + 1, none⟩) HLB.out).trans s2
                  have c3 := HM.out W3 hb3
                  clear hW3
                  go_wp2_with fail
                  with_reducible refine c3.mono ?_
                  rintro e w4 ⟨rfl, hb4⟩
                  have hB4 := hb3.trans (hb4.mono hb3.size)
                  have s1 := (hb4.cell (p := ⟨b, off + k * 2, none⟩) (Nat.lt_of_lt_of_le HLB.out hb3.size)).trans s1
                  have s2 := (hb4.cell (p := ⟨b, off + k * 2 + 1, none⟩) (Nat.lt_of_lt_of_le HLB.out hb3.size)).trans s2
                  have c4 := HH.out w4 hB4
                  have HB4 := Lib.hid hB4
                  clear hb4 hB4 hb3 c3
                  go_wp2_with fail
                  with_reducible refine c4.mono ?_
                  rintro e w5 ⟨rfl, hb5⟩
                  have hB5 := HB4.out.trans (hb5.mono HB4.out.size)
                  have c5 := HG.out w5 hB5
                  have HB5 := Lib.hid hB5
                  clear hb5 hB5 s1 s2 c4
                  go_wp2_with fail
                  with_reducible refine c5.mono ?_
                  rintro e w6 ⟨rfl, hb6⟩
                  have HB6 := Lib.hid (HB5.out.trans (hb6.mono HB5.out.size))
                  clear hb6 c5
                  go_wp2
                  go_roundw
                  case rel => exact ⟨T, k + 1, A2, k2, rfl, by rw [HT.out.2.2.2], by go_num, h1, by have := HT.out.2.2.1; omega, Lib.hid ⟨HT.out.1, (HT.out.2.1.below HB6.out).mono HB6.out.size, HB2.out.trans (HB6.out.mono HB2.out.size)⟩⟩
                  case measure => simp [intOf]; omega
          · have h3z : ¬ (q.1 : Int) ≤ (n : Int) := by omega
            rw [if_neg (fun h => h3 h.1)] at hTc
            subst hTc
            cases dd with
            | true =>
              have hGz : ¬ (G : Int) = (n : Int) := fun h => by have := hGn.1 (by omega); cases this
              clear h3 hGn
              as_aux_lemma =>
                go_quiet (fail)
                obtain ⟨W3, hW3⟩ : ∃ W3, W3 = w2.drewN nq := ⟨_, rfl⟩
                have hb3 : Below w2.heap.size w2 W3 := by rw [hW3]; exact below_drewN (Below.refl _ _) _
                rw [← hW3]
                have s1 : W3.cell? ⟨b, off + k * 2, none⟩ = _ := (hb3.cell (p := ⟨b, off + k * 2, none⟩) HLB.out).trans s1
                have s2 : W3.cell? ⟨b, off + k * 2 + 1, none⟩ = _ := (hb3.cell (p := ⟨b, off + k * 2 + 1, none⟩) HLB.out).trans s2
                have c3 := HM.out W3 hb3
                clear hW3
                go_wp2_with fail
                with_reducible refine c3.mono ?_
                rintro e w4 ⟨rfl, hb4⟩
                have hB4 := hb3.trans (hb4.mono hb3.size)
                have s1 := (hb4.cell (p := ⟨b, off + k * 2, none⟩) (Nat.lt_of_lt_of_le HLB.out hb3.size)).trans s1
                have s2 := (hb4.cell (p := ⟨b, off + k * 2 + 1, none⟩) (Nat.lt_of_lt_of_le HLB.out hb3.size)).trans s2
                have c4 := HH.out w4 hB4
                have HB4 := Lib.hid hB4
                clear hb4 hB4 hb3 c3
                go_wp2_with fail
                with_reducible refine c4.mono ?_
                rintro e w5 ⟨rfl, hb5⟩
                have hB5 := HB4.out.trans (hb5.mono HB4.out.size)
                have c5 := HG.out w5 hB5
                have HB5 := Lib.hid hB5
                clear hb5 hB5 s1 s2 c4
                go_wp2_with fail
                with_reducible refine c5.mono ?_
                rintro e w6 ⟨rfl, hb6⟩
                have HB6 := Lib.hid (HB5.out.trans (hb6.mono HB5.out.size))
                clear hb6 c5
                go_wp2
                go_roundw
                case rel => exact ⟨T, k + 1, A2, k2, rfl, by rw [HT.out.2.2.2], by go_num, h1, by have := HT.out.2.2.1; omega, Lib.hid ⟨HT.out.1, (HT.out.2.1.below HB6.out).mono HB6.out.size, HB2.out.trans (HB6.out.mono HB2.out.size)⟩⟩
                case measure => simp [intOf]; omega
            | false =>
              have hGz : (G : Int) = (n : Int) := by have := hGn.2 rfl; omega
              clear h3 hGn
              as_aux_lemma =>
                go_quiet (fail)
                obtain ⟨W3, hW3⟩ : ∃ W3, W3 = w2.drewN nq := ⟨_, rfl⟩
                have hb3 : Below w2.heap.size w2 W3 := by rw [hW3]; exact below_drewN (Below.refl _ _) _
                rw [← hW3]
                have s1 : W3.cell? ⟨b, off + k * 2, none⟩ = _ := (hb3.cell (p := ⟨b, off + k * 2, none⟩) HLB.out).trans s1
                have s2 : W3.cell? ⟨b, off + k * 2 + 1, none⟩ = _ := (hb3.cell (p := ⟨b, off + k * 2 + 1, none⟩) HLB.out).trans s2
                have c3 := HM.out W3 hb3
                clear hW3
                go_wp2_with fail
                with_reducible refine c3.mono ?_
                rintro e w4 ⟨rfl, hb4⟩
                have hB4 := hb3.trans (hb4.mono hb3.size)
                have s1 := (hb4.cell (p := ⟨b, off + k * 2, none⟩) (Nat.lt_of_lt_of_le HLB.out hb3.size)).trans s1
                have s2 := (hb4.cell (p := ⟨b, off + k * 2 + 1, none⟩) (Nat.lt_of_lt_of_le HLB.out hb3.size)).trans s2
                have c4 := HH.out w4 hB4
                have HB4 := Lib.hid hB4
                clear hb4 hB4 hb3 c3
                go_wp2_with fail
                with_reducible refine c4.mono ?_
                rintro e w5 ⟨rfl, hb5⟩
                have hB5 := HB4.out.trans (hb5.mono HB4.out.size)
                have c5 := HG.out w5 hB5
                have HB5 := Lib.hid hB5
                clear hb5 hB5 s1 s2 c4
                go_wp2_with fail
                with_reducible refine c5.mono ?_
                rintro e w6 ⟨rfl, hb6⟩
                have HB6 := Lib.hid (HB5.out.trans (hb6.mono HB5.out.size))
                clear hb6 c5
                go_wp2
                go_roundw
                case rel => exact ⟨T, k + 1, A2, k2, rfl, by rw [HT.out.2.2.2], by go_num, h1, by have := HT.out.2.2.1; omega, Lib.hid ⟨HT.out.1, (HT.out.2.1.below HB6.out).mono HB6.out.size, HB2.out.trans (HB6.out.mono HB2.out.size)⟩⟩
                case measure => simp [intOf]; omega
    · have h1z : ¬ (k : Int) < (l.length : Int) := by omega
      have c1 := alive_any wr
      go_wp2_with fail
      refine c1.mono ?_
      rintro e w1 ⟨rfl, hb⟩
      have hB := HS.out.2.2.trans (hb.mono HS.out.2.2.size)
      go_wp2
      go_ret
      exact ⟨rfl, hB⟩
theorem walk (a : Option Addr) (n cap : Nat) (a1 : Option Addr) (n1 cap1 : Nat) (m : Int) (w : World) (h0 : StrRows w [.inl .u64, .inl .u64] a n) (h1 : BoolRow w a1 n1) (hm : (Lit.int .u64 m).wf = true) :
    Calls Try.prog 5 #[.slice a n cap, .slice a1 n1 cap1, .int .u64 m] w fun e w' => e = .returned (.bool true) ∧ Below w.heap.size w w' := by
  by_cases hn : (n : Int) > 120
  · exact walk_long a n cap a1 n1 cap1 m w hn
  · obtain ⟨l, rfl, hu, hI⟩ := sp_rows h0
    obtain ⟨m, rfl, -⟩ := u64_nat hm
    exact walk_short a cap l a1 n1 cap1 m w (by omega) hI h1
theorem own : ownKnob Try.prog.godebug = none := by kernel_rfl
theorem laidOut : laidOutB Try.prog = true := by kernel_rfl
set_option maxRecDepth 100000 in
theorem lifted (os : Os) (started : os.Started) (H : Type) (enc : TypeId × Value → H) :
    ReturnsInHanded {} Try.checked os 5 .any (Rows.spanHoldsSpec.pre6 enc Try.prog Try.f5 Rows.spanHoldsRow.domain false) (Rows.spanHoldsSpec.post enc Try.prog Try.f5 false true false false) := by
  refine returnsInHanded_of_change (C := Try.checked) own started (by kernel_rfl) Try.func5
    (ChangeSpec.witness6 (enc := enc) (C := Try.checked) false ⟨#[], #[.slice none 0 0, .slice none 0 0, .int .u64 0], []⟩ 8 (by kernel_rfl) (by kernel_rfl) (by kernel_rfl) (by kernel_rfl)) ?_
  intro W base args ds gs before hval0 hW hcnd _
  have hval : ∀ (j : Nat) t v, Try.f5.params[j]? = some t → args[j]? = some v → Value.okWide Try.prog W .any base t v := hval0
  have hW' := hW
  obtain ⟨p, q, hA0, hV, rfl, hfz, hnd⟩ := hW
  have hA : DataW.TrodAll enc Try.prog W 0 (fun _ => true) true Try.f5.params.toList args.toList ds p := hA0
  rw [Try.params5] at hA hval
  obtain ⟨v0, vs0, d0, ds0, p0, q0, hargs, rfl, rfl, h0, r0⟩ := trodAll_cons hA
  obtain ⟨v1, vs1, d1, ds1, p1, q1, rfl, rfl, rfl, h1, r1⟩ := trodAll_cons r0
  obtain ⟨v2, vs2, d2, ds2, p2, q2, rfl, rfl, rfl, h2, r2⟩ := trodAll_cons r1
  obtain ⟨rfl, rfl, rfl⟩ := trodAll_nil r2
  obtain rfl : args = #[v0, v1, v2] := by cases args; simp_all
  obtain ⟨rfl, rfl⟩ := trodVars_none hV
  obtain ⟨a0, len0, cap0, rfl⟩ := okWide_slice Try.underlying22 (hval 0 22 v0 rfl rfl)
  have k0 := h0
  have lt0 : ∀ x ∈ p0, x.block < W.heap.size := by obtain ⟨m, hm⟩ := k0; exact DataW.trod_lt m _ _ _ hm
  have w0 : StrRows W [.inl .u64, .inl .u64] a0 len0 := str_rows Try.underlying22 Try.underlying25 (by kernel_rfl) (by kernel_rfl) (by kernel_rfl) (by decide) h0
  obtain ⟨a1, len1, cap1, rfl⟩ := okWide_slice Try.underlying39 (hval 1 39 v1 rfl rfl)
  have k1 := h1
  have lt1 : ∀ x ∈ p1, x.block < W.heap.size := by obtain ⟨m, hm⟩ := k1; exact DataW.trod_lt m _ _ _ hm
  have w1 := bool_rows Try.underlying39 Try.underlying4 (by kernel_rfl) h1
  obtain ⟨a2, rfl, rfl, rfl, w2⟩ := open_int Try.underlying23 (hval 2 23 v2 rfl rfl) h2
  clear hA0 hval0
  refine (walk a0 len0 cap0 a1 len1 cap1 a2 W w0 w1 w2).mono fun e W' ⟨he, bel⟩ => ?_
  subst he
  exact ⟨_, rfl, _, _, _, [], _, [], hW', trodAll_mk1 (shut_bool Try.underlying4 _), (trodAll_cons_mk (Below.trod laidOut (by kernel_rfl) (of_decide_eq_true (by kernel_rfl)) k0 bel lt0) (trodAll_cons_mk (Below.trod laidOut (by kernel_rfl) (of_decide_eq_true (by kernel_rfl)) k1 bel lt1) (trodAll_cons_mk (shut_int Try.underlying23 w2) trodAll_mk0))), rfl, bel.frame _, fun h => by cases h⟩

theorem over : Rows.spanHoldsRow.holds Try.pinned (OpenSpec.ofChange Rows.spanHoldsSpec) :=
  OpenClaim.holds_of_wide 5 Try.f5 rfl rfl rfl rfl rfl rfl rfl ⟨rfl, rfl, rfl, rfl, rfl⟩ rfl rfl rfl rfl rfl (by kernel_rfl) Try.func5 (by kernel_rfl)
    (of_decide_eq_true (by kernel_rfl)) (by unfold Func.isWrapper; first | (rw [if_pos (by decide +kernel)]; kernel_rfl) | (rw [if_neg (by decide +kernel)]; exact ⟨rfl, rfl⟩))
    (fun os started H enc _ => lifted os started H enc)

/-- THE STATEMENT -/
theorem proved : Rows.SpanHoldsSaid := over
#print axioms proved
end Go.Proofs.Ytnnpahjopfkchaa.spanHolds
