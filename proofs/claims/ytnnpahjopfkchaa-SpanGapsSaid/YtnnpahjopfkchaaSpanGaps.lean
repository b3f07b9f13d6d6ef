/- The statement SpanGaps: the gaps of a list, told one behind the other, and its spans make all the numbers; any spans that are added, any number to begin with. -/
import Derived.Test.YtnnpahjopfkchaaSpLawQ
import Derived.Laws.Bits64
set_option linter.unusedVariables false
set_option linter.unusedSimpArgs false
namespace Go.Proofs.Ytnnpahjopfkchaa.spanGaps
open Go.ChangeShapes Go.WideShapes Go.ChangeAt Go.RowKit Go.BigFrame
open Go.ChangeMaps (open_string shut_string)

set_option maxRecDepth 100000 in
set_option maxHeartbeats 4000000 in
theorem walk_long (a : Option Addr) (n cap : Nat) (x : Int) (w : World) (hn : (n : Int) > 60) :
    Calls Try.prog 7 #[.slice a n cap, .int .u64 x] w fun e w' => e = .returned (.bool true) ∧ Below w.heap.size w w' := by
  have c1 := alive_any w
  go_enter Try.func7, Try.ntmps7
  go_wp2_with fail
  refine c1.mono ?_
  rintro e w1 ⟨rfl, hb⟩
  go_wp2
  go_ret
  exact ⟨rfl, hb⟩
/-- the first span behind a number, if there is one -/
structure StopB (l : List Sp) (g N : Nat) : Prop where
  le : N ≤ l.length
  low : ∀ j, j < N → (spn l j).1 ≤ g
  up : N < l.length → g < (spn l N).1
theorem stopB (l : List Sp) (g : Nat) : ∃ N, StopB l g N := by
  obtain ⟨N, hN⟩ := stopG (fun j => g < (spn l j).1) l.length
  exact ⟨N, hN.le, fun j hj => Nat.le_of_not_lt (hN.ahead j hj), hN.here⟩
set_option maxRecDepth 100000 in
set_option maxHeartbeats 8000000 in
theorem walk_short (a : Option Addr) (cap : Nat) (l : List Sp) (from_ : Nat) (w : World) (hn : l.length ≤ 60) (hu : U64 l) (hf : from_ < 18446744073709551616) (hI : SpAt w.heap.size w a l) :
    Calls Try.prog 7 #[.slice a l.length cap, .int .u64 (from_ : Int)] w fun e w' => e = .returned (.bool true) ∧ Below w.heap.size w w' := by
  have hlz : ¬ (l.length : Int) > 60 := by omega
  have HX := Lib.hid (And.intro hI hu)
  have HF := Lib.hid hf
  clear hI hu hf
  go_enter Try.func7, Try.ntmps7
  go_wp2
  go_loopw [5, 6] (fun s i wr => ∃ (S : List Sp) (k : Nat) (A' : Option Addr) (c' : Nat), s = .slice A' S.length c' ∧ i = .int .i64 k ∧ k ≤ l.length ∧ S.length ≤ k ∧ Hid (Norm S ∧ U64 S ∧ SpAt wr.heap.size wr A' S ∧ Below w.heap.size w wr)) (fun _ i _ => l.length - (intOf i).toNat)
  case atStart => exact ⟨[], 0, none, 0, rfl, rfl, Nat.zero_le _, Nat.le_refl _, Lib.hid ⟨trivial, (fun q hq => nomatch hq), .inl rfl, Below.refl _ _⟩⟩
  case round =>
    obtain ⟨S, k, A', c', rfl, rfl, hk, hS, HS⟩ := hrel
    by_cases h1 : k < l.length
    · have h1z : (k : Int) < (l.length : Int) := by omega
      have k0 : (0 : Int) ≤ (k : Int) := by omega
      obtain ⟨b, off, rfl, hlb, r1, r2⟩ := ((HX.out.1.below HS.out.2.2.2).mono HS.out.2.2.2.size).at_ h1
      rw [← spn_get l h1] at r1 r2
      have hq64 := HX.out.2.spn h1
      obtain ⟨q, eq⟩ : ∃ q, q = spn l k := ⟨_, rfl⟩
      rw [← eq] at r1 r2 hq64
      clear eq hlb
      by_cases hq : q.2 < q.1
      · have c1 := add_bad (cap := c') q HS.out.1 (by omega) hq HS.out.2.2.1
        clear hq hq64
        go_wp2_with fail
        with_reducible refine c1.mono ?_
        rintro e w2 ⟨A2, k2, rfl, hb2⟩
        have HB2 := Lib.hid hb2
        clear r1 r2 hb2 c1
        go_wp2
        go_roundw
        case rel => exact ⟨S, k + 1, A', c', rfl, by go_num, h1, by omega, Lib.hid ⟨HS.out.1, HS.out.2.1, (HS.out.2.2.1.below HB2.out).mono HB2.out.size, HS.out.2.2.2.trans (HB2.out.mono HS.out.2.2.2.size)⟩⟩
        case measure => simp [intOf]; omega
      · obtain ⟨T, hT⟩ : ∃ T, T = setS true S q := ⟨_, rfl⟩
        have c1 := add_ok (cap := c') q HS.out.1 (by omega) (by omega) HS.out.2.2.1 hT
        have hTl : T.length ≤ S.length + 1 := by rw [hT]; exact setS_len HS.out.1 (by omega)
        have HT := Lib.hid (And.intro (show Norm T by rw [hT]; exact setS_norm HS.out.1 (by omega)) (And.intro (show U64 T by rw [hT]; exact u64_set HS.out.1 (by omega) HS.out.2.1 hq64.2) hTl))
        clear hq hq64 hTl hT
        go_wp2_with fail
        with_reducible refine c1.mono ?_
        rintro e w2 ⟨A2, k2, rfl, ha2, hb2⟩
        have HB2 := Lib.hid (And.intro ha2 hb2)
        clear r1 r2 ha2 hb2 c1
        go_wp2
        go_roundw
        case rel => exact ⟨T, k + 1, A2, k2, rfl, by go_num, h1, by have := HT.out.2.2; omega, Lib.hid ⟨HT.out.1, HT.out.2.1, HB2.out.1, HS.out.2.2.2.trans (HB2.out.2.mono HS.out.2.2.2.size)⟩⟩
        case measure => simp [intOf]; omega
    · have h1z : ¬ (k : Int) < (l.length : Int) := by omega
      have hS60 : S.length ≤ 60 := by omega
      obtain ⟨W, hW⟩ : ∃ W, W = wr := ⟨_, rfl⟩
      rw [← hW] at HS ⊢
      clear hW h1 hk hS
      have hmy : mayB S = true := (mayB_iff S).2 ⟨HS.out.1, by omega⟩
      have HM := Lib.hid hmy
      have hcap : ∀ V, Below W.heap.size W V → SpAt V.heap.size V A' S := fun V hb => (HS.out.2.2.1.below hb).mono hb.size
      have hgap : ∀ (n : Nat) (V : World), Below W.heap.size W V → Calls Try.prog 20 #[.slice A' S.length c', .int .u64 (n : Int)] V fun e w' => e = .returned (.int .u64 (gapN S n : Int)) ∧ Below V.heap.size V w' := fun n V hb => gap_det (cap := c') n (by omega) (hcap V hb)
      have hhas : ∀ (n : Nat) (V : World), Below W.heap.size W V → Calls Try.prog 16 #[.slice A' S.length c', .int .u64 (n : Int)] V fun e w' => e = .returned (.bool (covB S n)) ∧ Below V.heap.size V w' := fun n V hb => by
        have := has_det (cap := c') n (by omega) (hcap V hb)
        rwa [hmy, Bool.true_and] at this
      have hcvs : ∀ q : Sp, ∀ V, Below W.heap.size W V → Calls Try.prog 18 #[.slice A' S.length c', .agg #[.int .u64 (q.1 : Int), .int .u64 (q.2 : Int)]] V fun e w' => e = .returned (.bool (cvB S q)) ∧ Below V.heap.size V w' := fun q V hb => covers_det (cap := c') q (by omega) (hcap V hb)
      have HG := Lib.hid hgap
      have HH := Lib.hid hhas
      have HV := Lib.hid hcvs
      have HP := Lib.hid hcap
      clear hmy hcap hgap hhas hcvs
      go_wp2
      go_loopw [9, 10] (fun v i wq => ∃ n k : Nat, v = .int .u64 (n : Int) ∧ i = .int .i64 k ∧ k ≤ S.length + 1 ∧ Hid (n < 18446744073709551616 ∧ Below W.heap.size W wq)) (fun _ i _ => S.length + 1 - (intOf i).toNat)
      case atStart => exact ⟨from_, 0, rfl, rfl, Nat.zero_le _, Lib.hid ⟨HF.out, Below.refl _ _⟩⟩
      case round =>
        obtain ⟨n, k, rfl, rfl, hk, HN⟩ := hrel
        by_cases h1 : k ≤ S.length
        · have h1z : (k : Int) ≤ (S.length : Int) := by omega
          have k0 : (0 : Int) ≤ (k : Int) := by omega
          have c1 := HG.out n wr HN.out.2
          obtain ⟨t1, t2, t3, t4⟩ := gapN_tells HM.out HS.out.2.1 HN.out.1
          obtain ⟨g, hg⟩ : ∃ g, g = gapN S n := ⟨_, rfl⟩
          rw [← hg] at t1 t2 t3 t4 c1
          have HT := Lib.hid (And.intro t2 (And.intro t3 t4))
          clear hg t2 t3 t4
          have hgz : ¬ (g : Int) < (n : Int) := by omega
          obtain ⟨N, hN⟩ := stopB S g
          have hN60 : N ≤ 60 := by have := hN.le; omega
          have HST := Lib.hid hN
          clear hN
          go_upto_region 14 with fail
          go_wp2_with fail
          with_reducible refine c1.mono ?_
          rintro e w2 ⟨rfl, hb⟩
          have HB2 := Lib.hid (HN.out.2.trans (hb.mono HN.out.2.size))
          have c2 := HH.out g w2 HB2.out
          rw [HT.out.2.1] at c2
          clear hb c1
          go_wp2_with fail
          with_reducible refine c2.mono ?_
          rintro e w3 ⟨rfl, hb⟩
          have HB3 := Lib.hid (HB2.out.trans (hb.mono HB2.out.size))
          clear hb c2
          by_cases h2 : n < g
          · have h2z : (g : Int) > (n : Int) := by omega
            have c3 := HV.out (n, g) w3 HB3.out
            rw [HT.out.2.2] at c3
            clear h2
            go_wp2_with fail
            with_reducible refine c3.mono ?_
            rintro e w4 ⟨rfl, hb⟩
            have HB4 := Lib.hid (HB3.out.trans (hb.mono HB3.out.size))
            clear hb c3
            as_aux_lemma =>
              go_wp2_with fail
              go_loopw [12, 13] (fun v j wq => ∃ k : Nat, v = .int .u64 (g : Int) ∧ j = .int .i64 k ∧ k ≤ N ∧ Hid (wq = w4)) (fun _ j _ => N - (intOf j).toNat)
              case atStart => exact ⟨0, rfl, rfl, Nat.zero_le _, Lib.hid rfl⟩
              case round =>
                obtain ⟨j, rfl, rfl, hj, hwr⟩ := hrel
                rw [hwr.out]
                clear hwr
                have j0 : (0 : Int) ≤ (j : Int) := by omega
                have hNl := HST.out.le
                by_cases h3 : j < S.length
                · have h3z : (j : Int) < (S.length : Int) := by omega
                  obtain ⟨b, off, rfl, hlb, r1, r2⟩ := (HP.out w4 HB4.out).at_ h3
                  rw [← spn_get S h3] at r1 r2
                  by_cases h4 : j < N
                  · have hlow := HST.out.low j h4
                    obtain ⟨q, eq⟩ : ∃ q, q = spn S j := ⟨_, rfl⟩
                    rw [← eq] at r1 r2 hlow
                    have h4z : ¬ (q.1 : Int) > (g : Int) := by omega
                    clear eq hlow hlb
                    go_wp2_with fail
                    go_roundw
                    case rel => exact ⟨j + 1, rfl, by go_num, h4, Lib.hid trivial⟩
                    case measure => simp [intOf]; omega
                  · obtain rfl : j = N := by omega
                    have hup := HST.out.up h3
                    have hb2 := begins HS.out.1 (q := spn S j) (by rw [spn_get S h3]; exact List.getElem_mem _)
                    have hq64 := (HS.out.2.1.spn h3).1
                    obtain ⟨q, eq⟩ : ∃ q, q = spn S j := ⟨_, rfl⟩
                    rw [← eq] at r1 r2 hup hb2 hq64
                    have h4z : (q.1 : Int) > (g : Int) := by omega
                    have h5z : ¬ (q.1 : Int) = (g : Int) := by omega
                    obtain ⟨p, hp⟩ : ∃ p : Nat, p = q.1 - 1 := ⟨_, rfl⟩
                    have ed : (q.1 : Int) - 1 = (p : Int) := by omega
                    have p0 : (0 : Int) ≤ (p : Int) := by omega
                    have p1 : (p : Int) ≤ 18446744073709551615 := by omega
                    have c4 := HH.out p w4 HB4.out
                    rw [hp, hb2.2 (by omega), ← hp] at c4
                    have hbt := hb2.1
                    have HQ := Lib.hid (And.intro hq64 hbt)
                    clear eq hup hb2 hq64 hp hlb h4 hbt
                    go_wp2_with fail
                    with_reducible refine c4.mono ?_
                    rintro e w5 ⟨rfl, hb⟩
                    have HB5 := Lib.hid (HB4.out.trans (hb.mono HB4.out.size))
                    have c5 := HH.out q.1 w5 HB5.out
                    rw [HQ.out.2] at c5
                    clear hb c4 r1 r2
                    go_wp2_with fail
                    with_reducible refine c5.mono ?_
                    rintro e w6 ⟨rfl, hb⟩
                    have HB6 := Lib.hid (HB5.out.trans (hb.mono HB5.out.size))
                    clear hb c5
                    go_wp2
                    go_roundw
                    case rel => exact ⟨q.1, k + 1, rfl, by go_num, by omega, Lib.hid ⟨HQ.out.1, HB6.out⟩⟩
                    case measure => simp [intOf]; omega
                · have h3z : ¬ (j : Int) < (S.length : Int) := by omega
                  have c4 : Calls Try.prog 20 #[.slice A' S.length c', .int .u64 18446744073709551615] w4 fun e w' => e = .returned (.int .u64 18446744073709551615) ∧ Below w4.heap.size w4 w' := by
                    have h := HG.out 18446744073709551615 w4 HB4.out
                    rw [gapN_out HM.out fun hc => by have := u64_cov HS.out.2.1 hc; omega] at h
                    exact h
                  clear h3 hj hNl
                  go_wp2_with fail
                  with_reducible refine c4.mono ?_
                  rintro e w5 ⟨rfl, hb⟩
                  have HB5 := Lib.hid (HB4.out.trans (hb.mono HB4.out.size))
                  have c5 := alive_any w5
                  clear hb c4
                  go_wp2_with fail
                  with_reducible refine c5.mono ?_
                  rintro e w6 ⟨rfl, hb⟩
                  have hB0 := HB5.out.trans (hb.mono HB5.out.size)
                  have hB := HS.out.2.2.2.trans (hB0.mono HS.out.2.2.2.size)
                  go_wp2
                  go_ret
                  exact ⟨rfl, hB⟩
          · have h2z : ¬ (g : Int) > (n : Int) := by omega
            obtain ⟨w4, hw4⟩ : ∃ w4, w4 = w3 := ⟨_, rfl⟩
            rw [← hw4] at HB3 ⊢
            have HB4 := HB3
            clear hw4 HB3 h2
            as_aux_lemma =>
              go_wp2_with fail
              go_loopw [12, 13] (fun v j wq => ∃ k : Nat, v = .int .u64 (g : Int) ∧ j = .int .i64 k ∧ k ≤ N ∧ Hid (wq = w4)) (fun _ j _ => N - (intOf j).toNat)
              case atStart => exact ⟨0, rfl, rfl, Nat.zero_le _, Lib.hid rfl⟩
              case round =>
                obtain ⟨j, rfl, rfl, hj, hwr⟩ := hrel
                rw [hwr.out]
                clear hwr
                have j0 : (0 : Int) ≤ (j : Int) := by omega
                have hNl := HST.out.le
                by_cases h3 : j < S.length
                · have h3z : (j : Int) < (S.length : Int) := by omega
                  obtain ⟨b, off, rfl, hlb, r1, r2⟩ := (HP.out w4 HB4.out).at_ h3
                  rw [← spn_get S h3] at r1 r2
                  by_cases h4 : j < N
                  · have hlow := HST.out.low j h4
                    obtain ⟨q, eq⟩ : ∃ q, q = spn S j := ⟨_, rfl⟩
                    rw [← eq] at r1 r2 hlow
                    have h4z : ¬ (q.1 : Int) > (g : Int) := by omega
                    clear eq hlow hlb
                    go_wp2_with fail
                    go_roundw
                    case rel => exact ⟨j + 1, rfl, by go_num, h4, Lib.hid trivial⟩
                    case measure => simp [intOf]; omega
                  · obtain rfl : j = N := by omega
                    have hup := HST.out.up h3
                    have hb2 := begins HS.out.1 (q := spn S j) (by rw [spn_get S h3]; exact List.getElem_mem _)
                    have hq64 := (HS.out.2.1.spn h3).1
                    obtain ⟨q, eq⟩ : ∃ q, q = spn S j := ⟨_, rfl⟩
                    rw [← eq] at r1 r2 hup hb2 hq64
                    have h4z : (q.1 : Int) > (g : Int) := by omega
                    have h5z : ¬ (q.1 : Int) = (g : Int) := by omega
                    obtain ⟨p, hp⟩ : ∃ p : Nat, p = q.1 - 1 := ⟨_, rfl⟩
                    have ed : (q.1 : Int) - 1 = (p : Int) := by omega
                    have p0 : (0 : Int) ≤ (p : Int) := by omega
                    have p1 : (p : Int) ≤ 18446744073709551615 := by omega
                    have c4 := HH.out p w4 HB4.out
                    rw [hp, hb2.2 (by omega), ← hp] at c4
                    have hbt := hb2.1
                    have HQ := Lib.hid (And.intro hq64 hbt)
                    clear eq hup hb2 hq64 hp hlb h4 hbt
                    go_wp2_with fail
                    with_reducible refine c4.mono ?_
                    rintro e w5 ⟨rfl, hb⟩
                    have HB5 := Lib.hid (HB4.out.trans (hb.mono HB4.out.size))
                    have c5 := HH.out q.1 w5 HB5.out
                    rw [HQ.out.2] at c5
                    clear hb c4 r1 r2
                    go_wp2_with fail
                    with_reducible refine c5.mono ?_
                    rintro e w6 ⟨rfl, hb⟩
                    have HB6 := Lib.hid (HB5.out.trans (hb.mono HB5.out.size))
                    clear hb c5
                    go_wp2
                    go_roundw
                    case rel => exact ⟨q.1, k + 1, rfl, by go_num, by omega, Lib.hid ⟨HQ.out.1, HB6.out⟩⟩
                    case measure => simp [intOf]; omega
                · have h3z : ¬ (j : Int) < (S.length : Int) := by omega
                  have c4 : Calls Try.prog 20 #[.slice A' S.length c', .int .u64 18446744073709551615] w4 fun e w' => e = .returned (.int .u64 18446744073709551615) ∧ Below w4.heap.size w4 w' := by
                    have h := HG.out 18446744073709551615 w4 HB4.out
                    rw [gapN_out HM.out fun hc => by have := u64_cov HS.out.2.1 hc; omega] at h
                    exact h
                  clear h3 hj hNl
                  go_wp2_with fail
                  with_reducible refine c4.mono ?_
                  rintro e w5 ⟨rfl, hb⟩
                  have HB5 := Lib.hid (HB4.out.trans (hb.mono HB4.out.size))
                  have c5 := alive_any w5
                  clear hb c4
                  go_wp2_with fail
                  with_reducible refine c5.mono ?_
                  rintro e w6 ⟨rfl, hb⟩
                  have hB0 := HB5.out.trans (hb.mono HB5.out.size)
                  have hB := HS.out.2.2.2.trans (hB0.mono HS.out.2.2.2.size)
                  go_wp2
                  go_ret
                  exact ⟨rfl, hB⟩
        · have h1z : ¬ (k : Int) ≤ (S.length : Int) := by omega
          have c1 := alive_any wr
          go_wp2_with fail
          refine c1.mono ?_
          rintro e w1 ⟨rfl, hb⟩
          have hB0 := HN.out.2.trans (hb.mono HN.out.2.size)
          have hB := HS.out.2.2.2.trans (hB0.mono HS.out.2.2.2.size)
          go_wp2
          go_ret
          exact ⟨rfl, hB⟩
theorem walk (a : Option Addr) (n cap : Nat) (x : Int) (w : World) (h0 : StrRows w [.inl .u64, .inl .u64] a n) (hx : (Lit.int .u64 x).wf = true) :
    Calls Try.prog 7 #[.slice a n cap, .int .u64 x] w fun e w' => e = .returned (.bool true) ∧ Below w.heap.size w w' := by
  by_cases hn : (n : Int) > 60
  · exact walk_long a n cap x w hn
  · obtain ⟨l, rfl, hu, hI⟩ := sp_rows h0
    obtain ⟨x, rfl, h1⟩ := u64_nat hx
    exact walk_short a cap l x w (by omega) hu h1 hI
theorem own : ownKnob Try.prog.godebug = none := by kernel_rfl
theorem laidOut : laidOutB Try.prog = true := by kernel_rfl
set_option maxRecDepth 100000 in
theorem lifted (os : Os) (started : os.Started) (H : Type) (enc : TypeId × Value → H) :
    ReturnsInHanded {} Try.checked os 7 .any (Rows.spanGapsSpec.pre6 enc Try.prog Try.f7 Rows.spanGapsRow.domain false) (Rows.spanGapsSpec.post enc Try.prog Try.f7 false true false false) := by
  refine returnsInHanded_of_change (C := Try.checked) own started (by kernel_rfl) Try.func7
    (ChangeSpec.witness6 (enc := enc) (C := Try.checked) false ⟨#[], #[.slice none 0 0, .int .u64 0], []⟩ 8 (by kernel_rfl) (by kernel_rfl) (by kernel_rfl) (by kernel_rfl)) ?_
  intro W base args ds gs before hval0 hW hcnd _
  have hval : ∀ (j : Nat) t v, Try.f7.params[j]? = some t → args[j]? = some v → Value.okWide Try.prog W .any base t v := hval0
  have hW' := hW
  obtain ⟨p, q, hA0, hV, rfl, hfz, hnd⟩ := hW
  have hA : DataW.TrodAll enc Try.prog W 0 (fun _ => true) true Try.f7.params.toList args.toList ds p := hA0
  rw [Try.params7] at hA hval
  obtain ⟨v0, vs0, d0, ds0, p0, q0, hargs, rfl, rfl, h0, r0⟩ := trodAll_cons hA
  obtain ⟨v1, vs1, d1, ds1, p1, q1, rfl, rfl, rfl, h1, r1⟩ := trodAll_cons r0
  obtain ⟨rfl, rfl, rfl⟩ := trodAll_nil r1
  obtain rfl : args = #[v0, v1] := by cases args; simp_all
  obtain ⟨rfl, rfl⟩ := trodVars_none hV
  obtain ⟨a0, len0, cap0, rfl⟩ := okWide_slice Try.underlying22 (hval 0 22 v0 rfl rfl)
  have k0 := h0
  have lt0 : ∀ x ∈ p0, x.block < W.heap.size := by obtain ⟨m, hm⟩ := k0; exact DataW.trod_lt m _ _ _ hm
  have w0 : StrRows W [.inl .u64, .inl .u64] a0 len0 := str_rows Try.underlying22 Try.underlying25 (by kernel_rfl) (by kernel_rfl) (by kernel_rfl) (by decide) h0
  obtain ⟨a1, rfl, rfl, rfl, w1⟩ := open_int Try.underlying23 (hval 1 23 v1 rfl rfl) h1
  clear hA0 hval0
  refine (walk a0 len0 cap0 a1 W w0 w1).mono fun e W' ⟨he, bel⟩ => ?_
  subst he
  exact ⟨_, rfl, _, _, _, [], _, [], hW', trodAll_mk1 (shut_bool Try.underlying4 _), (trodAll_cons_mk (Below.trod laidOut (by kernel_rfl) (of_decide_eq_true (by kernel_rfl)) k0 bel lt0) (trodAll_cons_mk (shut_int Try.underlying23 w1) trodAll_mk0)), rfl, bel.frame _, fun h => by cases h⟩

theorem over : Rows.spanGapsRow.holds Try.pinned (OpenSpec.ofChange Rows.spanGapsSpec) :=
  OpenClaim.holds_of_wide 7 Try.f7 rfl rfl rfl rfl rfl rfl rfl ⟨rfl, rfl, rfl, rfl, rfl⟩ rfl rfl rfl rfl rfl (by kernel_rfl) Try.func7 (by kernel_rfl)
    (of_decide_eq_true (by kernel_rfl)) (by unfold Func.isWrapper; first | (rw [if_pos (by decide +kernel)]; kernel_rfl) | (rw [if_neg (by decide +kernel)]; exact ⟨rfl, rfl⟩))
    (fun os started H enc _ => lifted os started H enc)

/-- THE STATEMENT -/
theorem proved : Rows.SpanGapsSaid := over
#print axioms proved
end Go.Proofs.Ytnnpahjopfkchaa.spanGaps
