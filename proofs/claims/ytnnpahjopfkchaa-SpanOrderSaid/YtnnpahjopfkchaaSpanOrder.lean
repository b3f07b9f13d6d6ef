/- The statement SpanOrder: the order in which spans are added makes no difference; what is added is covered, and is not there any more when it is cut; what was there stays; any spans, any two more. -/
import Derived.Test.YtnnpahjopfkchaaSpLawQ
import Derived.Laws.Bits64
set_option linter.unusedVariables false
set_option linter.unusedSimpArgs false
namespace Go.Proofs.Ytnnpahjopfkchaa.spanOrder
open Go.ChangeShapes Go.WideShapes Go.ChangeAt Go.RowKit Go.BigFrame
open Go.ChangeMaps (open_string shut_string)

set_option maxRecDepth 100000 in
set_option maxHeartbeats 4000000 in
theorem walk_long (a : Option Addr) (n cap : Nat) (x y z t : Int) (w : World) (hn : (n : Int) > 60) :
    Calls Try.prog 6 #[.slice a n cap, .agg #[.int .u64 x, .int .u64 y], .agg #[.int .u64 z, .int .u64 t]] w fun e w' => e = .returned (.bool true) ∧ Below w.heap.size w w' := by
  have hB1 : Below w.heap.size w ((w.alloc (.cells #[.int .u64 x, .int .u64 y] 25)).alloc (.cells #[.int .u64 z, .int .u64 t] 25)) := ((Below.refl _ w).alloc (Nat.le_refl _) _).alloc (by simp) _
  have HB := Lib.hid hB1
  have c1 := alive_any ((w.alloc (.cells #[.int .u64 x, .int .u64 y] 25)).alloc (.cells #[.int .u64 z, .int .u64 t] 25))
  clear hB1
  go_enter Try.func6, Try.ntmps6
  go_wp2_with fail
  refine c1.mono ?_
  rintro e w1 ⟨rfl, hb⟩
  have hB := HB.out.trans (hb.mono HB.out.size)
  clear hb
  go_wp2
  go_ret
  exact ⟨rfl, hB⟩
set_option maxRecDepth 100000 in
set_option maxHeartbeats 8000000 in
theorem walk_short (a : Option Addr) (cap : Nat) (l : List Sp) (x y : Sp) (w : World) (hn : l.length ≤ 60) (hu : U64 l) (hx2 : x.2 < 18446744073709551616) (hy2 : y.2 < 18446744073709551616) (hI : SpAt w.heap.size w a l) :
    Calls Try.prog 6 #[.slice a l.length cap, .agg #[.int .u64 (x.1 : Int), .int .u64 (x.2 : Int)], .agg #[.int .u64 (y.1 : Int), .int .u64 (y.2 : Int)]] w fun e w' => e = .returned (.bool true) ∧ Below w.heap.size w w' := by
  have hlz : ¬ (l.length : Int) > 60 := by omega
  obtain ⟨w1, hw1⟩ : ∃ w1, w1 = (w.alloc (.cells #[.int .u64 (x.1 : Int), .int .u64 (x.2 : Int)] 25)).alloc (.cells #[.int .u64 (y.1 : Int), .int .u64 (y.2 : Int)] 25) := ⟨_, rfl⟩
  have hB1 : Below w.heap.size w w1 := by rw [hw1]; exact ((Below.refl _ w).alloc (Nat.le_refl _) _).alloc (by simp) _
  have hx : Blk w1 w.heap.size 25 #[.int .u64 (x.1 : Int), .int .u64 (x.2 : Int)] := by rw [hw1]; exact Blk.alloc (Blk.new _ _ _) _
  have hy : Blk w1 (w.heap.size + 1) 25 #[.int .u64 (y.1 : Int), .int .u64 (y.2 : Int)] := by rw [hw1]; exact Blk.newB _ _ _ _
  have hI1 := (hI.below hB1).mono hB1.size
  obtain ⟨g, hg⟩ : ∃ g, g = w.heap.size := ⟨_, rfl⟩
  obtain ⟨g', hg'⟩ : ∃ g', g' = w.heap.size + 1 := ⟨_, rfl⟩
  rw [← hg] at hx
  rw [← hg'] at hy
  have hXY : ∀ W, Below w1.heap.size w1 W → Two W g g' x y := fun W hb => Two.of (hx.below hb hx.lt) (hy.below hb hy.lt)
  have HW := Lib.hid (And.intro hw1 hB1)
  have HGG := Lib.hid (And.intro hg hg')
  have HX := Lib.hid (And.intro hXY (And.intro hI1 hu))
  clear hw1 hB1 hx hy hI1 hI hu hg hg' hXY
  go_enter Try.func6, Try.ntmps6
  go_upto_region 1 with fail
  rw [← HGG.out.2, ← HGG.out.1, ← HW.out.1]
  go_wp2
  go_loopw [7, 8] (fun s i wr => ∃ (S : List Sp) (k : Nat) (A' : Option Addr) (c' : Nat), s = .slice A' S.length c' ∧ i = .int .i64 k ∧ k ≤ l.length ∧ S.length ≤ k ∧ Hid (Norm S ∧ U64 S ∧ SpAt wr.heap.size wr A' S ∧ Below w1.heap.size w1 wr)) (fun _ i _ => l.length - (intOf i).toNat)
  case atStart => exact ⟨[], 0, none, 0, rfl, rfl, Nat.zero_le _, Nat.le_refl _, Lib.hid ⟨trivial, (fun q hq => nomatch hq), .inl rfl, Below.refl _ _⟩⟩
  case round =>
    obtain ⟨S, k, A', c', rfl, rfl, hk, hS, HS⟩ := hrel
    by_cases h1 : k < l.length
    · have h1z : (k : Int) < (l.length : Int) := by omega
      have k0 : (0 : Int) ≤ (k : Int) := by omega
      obtain ⟨b, off, rfl, hlb, r1, r2⟩ := ((HX.out.2.1.below HS.out.2.2.2).mono HS.out.2.2.2.size).at_ h1
      rw [← spn_get l h1] at r1 r2
      have hq64 := HX.out.2.2.spn h1
      obtain ⟨q, eq⟩ : ∃ q, q = spn l k := ⟨_, rfl⟩
      rw [← eq] at r1 r2 hq64
      clear eq hlb
      by_cases hq : q.2 < q.1
      · have c1 := add_bad (cap := c') q HS.out.1 (by omega) hq HS.out.2.2.1
        clear hq hq64
        go_wp2_with fail
        with_reducible refine c1.mono ?_
        rintro e w2 ⟨A2, k2, rfl, hb2⟩
        have HB2 := Lib.hid hb2
        clear r1 r2 hb2 c1
        go_wp2
        go_roundw
        case rel => exact ⟨S, k + 1, A', c', rfl, by go_num, h1, by omega, Lib.hid ⟨HS.out.1, HS.out.2.1, (HS.out.2.2.1.below HB2.out).mono HB2.out.size, HS.out.2.2.2.trans (HB2.out.mono HS.out.2.2.2.size)⟩⟩
        case measure => simp [intOf]; omega
      · obtain ⟨T, hT⟩ : ∃ T, T = setS true S q := ⟨_, rfl⟩
        have c1 := add_ok (cap := c') q HS.out.1 (by omega) (by omega) HS.out.2.2.1 hT
        have hTl : T.length ≤ S.length + 1 := by rw [hT]; exact setS_len HS.out.1 (by omega)
        have HT := Lib.hid (And.intro (show Norm T by rw [hT]; exact setS_norm HS.out.1 (by omega)) (And.intro (show U64 T by rw [hT]; exact u64_set HS.out.1 (by omega) HS.out.2.1 hq64.2) hTl))
        clear hq hq64 hTl hT
        go_wp2_with fail
        with_reducible refine c1.mono ?_
        rintro e w2 ⟨A2, k2, rfl, ha2, hb2⟩
        have HB2 := Lib.hid (And.intro ha2 hb2)
        clear r1 r2 ha2 hb2 c1
        go_wp2
        go_roundw
        case rel => exact ⟨T, k + 1, A2, k2, rfl, by go_num, h1, by have := HT.out.2.2; omega, Lib.hid ⟨HT.out.1, HT.out.2.1, HB2.out.1, HS.out.2.2.2.trans (HB2.out.2.mono HS.out.2.2.2.size)⟩⟩
        case measure => simp [intOf]; omega
    · have h1z : ¬ (k : Int) < (l.length : Int) := by omega
      have hS60 : S.length ≤ 60 := by omega
      obtain ⟨W, hW⟩ : ∃ W, W = wr := ⟨_, rfl⟩
      rw [← hW] at HS ⊢
      clear hW h1 hk hS
      have HB := Lib.hid HS.out.2.2.2
      obtain ⟨x0, x1, y0, y1⟩ := HX.out.1 W HB.out
      by_cases hx : x.2 < x.1
      · have hxz : (x.1 : Int) > (x.2 : Int) := by omega
        clear hx
        -- W: the world that stands; HB : Hid (Below w1 W)
        have c1 := alive_any W
        go_wp2_with fail
        with_reducible refine c1.mono ?_
        rintro e w9 ⟨rfl, hb⟩
        have hB := HW.out.2.trans ((HB.out.trans (hb.mono HB.out.size)).mono HW.out.2.size)
        clear hb
        go_wp2
        go_ret
        exact ⟨rfl, hB⟩
      · have hxz : ¬ (x.1 : Int) > (x.2 : Int) := by omega
        by_cases hy : y.2 < y.1
        · have hyz : (y.1 : Int) > (y.2 : Int) := by omega
          clear hx hy
          -- W: the world that stands; HB : Hid (Below w1 W)
          have c1 := alive_any W
          go_wp2_with fail
          with_reducible refine c1.mono ?_
          rintro e w9 ⟨rfl, hb⟩
          have hB := HW.out.2.trans ((HB.out.trans (hb.mono HB.out.size)).mono HW.out.2.size)
          clear hb
          go_wp2
          go_ret
          exact ⟨rfl, hB⟩
        · have hyz : ¬ (y.1 : Int) > (y.2 : Int) := by omega
          obtain ⟨T, hT⟩ : ∃ T, T = setS true S x := ⟨_, rfl⟩
          obtain ⟨B, hBe⟩ : ∃ B, B = setS true T y := ⟨_, rfl⟩
          obtain ⟨C, hC⟩ : ∃ C, C = setS true S y := ⟨_, rfl⟩
          obtain ⟨K, hK⟩ : ∃ K, K = setS false B x := ⟨_, rfl⟩
          have hxl : x.1 ≤ x.2 := by omega
          have hyl : y.1 ≤ y.2 := by omega
          have hTn : Norm T := by rw [hT]; exact setS_norm HS.out.1 hxl
          have hTl : T.length ≤ S.length + 1 := by rw [hT]; exact setS_len HS.out.1 hxl
          have hCn : Norm C := by rw [hC]; exact setS_norm HS.out.1 hyl
          have hCl : C.length ≤ S.length + 1 := by rw [hC]; exact setS_len HS.out.1 hyl
          have hBn : Norm B := by rw [hBe]; exact setS_norm hTn hyl
          have hBl : B.length ≤ T.length + 1 := by rw [hBe]; exact setS_len hTn hyl
          have hBu : U64 B := by rw [hBe]; exact u64_set hTn hyl (by rw [hT]; exact u64_set HS.out.1 hxl HS.out.2.1 hx2) hy2
          have hKn : Norm K := by rw [hK]; exact setS_norm hBn hxl
          have hKl : K.length ≤ B.length + 1 := by rw [hK]; exact setS_len hBn hxl
          have hKu : U64 K := by rw [hK]; exact u64_set hBn hxl hBu hx2
          have hBC : B = setS true C x := by rw [hBe, hT, hC]; exact set_comm HS.out.1 hxl hyl
          have hcov : ∀ n, cov B n ↔ (cov S n ∨ (x.1 ≤ n ∧ n < x.2)) ∨ (y.1 ≤ n ∧ n < y.2) := fun n => by
            rw [hBe, setS_cov hTn hyl, hT, setS_cov HS.out.1 hxl]; simp
          have hBx : ∀ n, x.1 ≤ n → n < x.2 → cov B n := fun n h1 h2 => (hcov n).2 (.inl (.inr ⟨h1, h2⟩))
          have hBy : ∀ n, y.1 ≤ n → n < y.2 → cov B n := fun n h1 h2 => (hcov n).2 (.inr ⟨h1, h2⟩)
          have hBS : ∀ q ∈ S, ∀ n, q.1 ≤ n → n < q.2 → cov B n := fun q hq n h1 h2 => (hcov n).2 (.inl (.inl ⟨q, hq, h1, h2⟩))
          have hBK : B = setS true K x := by rw [hK]; exact (set_back hBn hxl hBx).symm
          have hLK : lenN K + (x.2 - x.1) = lenN B := by rw [hK]; exact len_cut hBn (by omega) hxl hBx
          have hKx : x.1 < x.2 → covB K x.1 = false := fun h => by rw [hK, covB_set hBn hxl, if_pos ⟨Nat.le_refl _, h⟩]
          have HN := Lib.hid (And.intro hTn (And.intro hCn (And.intro hBn hKn)))
          have HE := Lib.hid (And.intro hT (And.intro hBe (And.intro hC (And.intro hBC (And.intro hK hBK)))))
          have HC := Lib.hid (And.intro hBx (And.intro hBy hBS))
          have HU := Lib.hid (And.intro hBu (And.intro hKu (And.intro hLK hKx)))
          have HL := Lib.hid (And.intro (show T.length ≤ 61 by omega) (And.intro (show C.length ≤ 61 by omega) (And.intro (show B.length ≤ 62 by omega) (show K.length ≤ 63 by omega))))
          have HY := Lib.hid (And.intro hxl hyl)
          clear hTn hTl hCn hCl hBn hBl hBu hKn hKl hKu hBC hcov hBx hBy hBS hBK hLK hKx hT hBe hC hK hxl hyl hx hy
          have HS1 := Lib.hid HS.out.2.2.1
          have c1 := add_ok (cap := c') x HS.out.1 (by omega) HY.out.1 HS1.out HE.out.1
          go_upto_region 12 with fail
          go_wp2_with fail
          with_reducible refine c1.mono ?_
          clear x0 x1 y0 y1 c1
          rintro e w2 ⟨A2, k2, rfl, ha, hb⟩
          have HB2 := Lib.hid (And.intro ha hb)
          have HS2 := Lib.hid ((HS1.out.below hb).mono hb.size)
          obtain ⟨x0, x1, y0, y1⟩ := HX.out.1 w2 (HB.out.trans (hb.mono HB.out.size))
          have c1 := add_ok (cap := k2) y HN.out.1 (by have := HL.out.1; omega) HY.out.2 ha HE.out.2.1
          clear ha hb
          go_wp2_with fail
          with_reducible refine c1.mono ?_
          clear x0 x1 y0 y1 c1
          rintro e w3 ⟨A3, k3, rfl, ha, hb⟩
          have HB3 := Lib.hid (And.intro ha (HB2.out.2.trans (hb.mono HB2.out.2.size)))
          have HS3 := Lib.hid ((HS2.out.below hb).mono hb.size)
          obtain ⟨x0, x1, y0, y1⟩ := HX.out.1 w3 (HB.out.trans (HB3.out.2.mono HB.out.size))
          have c1 := add_ok (cap := c') y HS.out.1 (by omega) HY.out.2 HS3.out HE.out.2.2.1
          clear ha hb
          go_wp2_with fail
          with_reducible refine c1.mono ?_
          clear x0 x1 y0 y1 c1
          rintro e w4 ⟨A4, k4, rfl, ha, hb⟩
          have HB4 := Lib.hid (And.intro ha (HB3.out.2.trans (hb.mono HB3.out.2.size)))
          have HS4 := Lib.hid (And.intro ((HS3.out.below hb).mono hb.size) ((HB3.out.1.below hb).mono hb.size))
          obtain ⟨x0, x1, y0, y1⟩ := HX.out.1 w4 (HB.out.trans (HB4.out.2.mono HB.out.size))
          have c1 := add_ok (cap := k4) x HN.out.2.1 (by have := HL.out.2.1; omega) HY.out.1 ha HE.out.2.2.2.1
          clear ha hb
          go_wp2_with fail
          with_reducible refine c1.mono ?_
          clear x0 x1 y0 y1 c1
          rintro e w5 ⟨A5, k5, rfl, ha, hb⟩
          have HB5 := Lib.hid (HB4.out.2.trans (hb.mono HB4.out.2.size))
          have HS5 := Lib.hid (And.intro ((HS4.out.1.below hb).mono hb.size) (And.intro ((HS4.out.2.below hb).mono hb.size) ha))
          obtain ⟨x0, x1, y0, y1⟩ := HX.out.1 w5 (HB.out.trans (HB5.out.mono HB.out.size))
          have c1 := same_yes (cap := k3) (cap' := k5) (by have := HL.out.2.2.1; omega) HS5.out.2.1 ha
          clear ha hb
          go_wp2_with fail
          with_reducible refine c1.mono ?_
          clear x0 x1 y0 y1 c1
          rintro e w6 ⟨rfl, hb⟩
          have HB6 := Lib.hid (HB5.out.trans (hb.mono HB5.out.size))
          have HS6 := Lib.hid (And.intro ((HS5.out.1.below hb).mono hb.size) ((HS5.out.2.1.below hb).mono hb.size))
          obtain ⟨x0, x1, y0, y1⟩ := HX.out.1 w6 (HB.out.trans (HB6.out.mono HB.out.size))
          have c1 := cov_yes (cap := k3) x HN.out.2.2.1 (by have := HL.out.2.2.1; omega) HY.out.1 HC.out.1 HS6.out.2
          clear hb
          go_wp2_with fail
          with_reducible refine c1.mono ?_
          clear x0 x1 y0 y1 c1
          rintro e w7 ⟨rfl, hb⟩
          have HB7 := Lib.hid (HB6.out.trans (hb.mono HB6.out.size))
          have HS7 := Lib.hid (And.intro ((HS6.out.1.below hb).mono hb.size) ((HS6.out.2.below hb).mono hb.size))
          obtain ⟨x0, x1, y0, y1⟩ := HX.out.1 w7 (HB.out.trans (HB7.out.mono HB.out.size))
          have c1 := cov_yes (cap := k3) y HN.out.2.2.1 (by have := HL.out.2.2.1; omega) HY.out.2 HC.out.2.1 HS7.out.2
          clear hb
          go_wp2_with fail
          with_reducible refine c1.mono ?_
          clear x0 x1 y0 y1 c1
          rintro e w8 ⟨rfl, hb⟩
          have HB8 := Lib.hid (HB7.out.trans (hb.mono HB7.out.size))
          have HS8 := Lib.hid (And.intro ((HS7.out.1.below hb).mono hb.size) ((HS7.out.2.below hb).mono hb.size))
          clear hb
          go_wp2
          go_loopw [19] (fun i wq => ∃ k : Nat, i = .int .i64 k ∧ k ≤ S.length ∧ Hid (Below w8.heap.size w8 wq)) (fun i _ => S.length - (intOf i).toNat)
          case atStart => exact ⟨0, rfl, Nat.zero_le _, Lib.hid (Below.refl _ _)⟩
          case round =>
            obtain ⟨k, rfl, hk, HQ⟩ := hrel
            by_cases h1 : k < S.length
            · have h1z : (k : Int) < (S.length : Int) := by omega
              have k0 : (0 : Int) ≤ (k : Int) := by omega
              have hS := (HS8.out.1.below HQ.out).mono HQ.out.size
              obtain ⟨b, off, rfl, hlb, r1, r2⟩ := hS.at_ h1
              have hq := HC.out.2.2 S[k] (List.getElem_mem _)
              have hql := HS.out.1.lt S[k] (List.getElem_mem _)
              obtain ⟨q, eq⟩ : ∃ q, q = S[k] := ⟨_, rfl⟩
              rw [← eq] at r1 r2 hq hql
              have c1 := cov_yes (cap := k3) q HN.out.2.2.1 (by have := HL.out.2.2.1; omega) (Nat.le_of_lt hql) hq ((HS8.out.2.below HQ.out).mono HQ.out.size)
              clear eq hlb hq hql hS
              go_wp2_with fail
              with_reducible refine c1.mono ?_
              rintro e w9 ⟨rfl, hb⟩
              have HB9 := Lib.hid (HQ.out.trans (hb.mono HQ.out.size))
              clear hb c1 r1 r2
              go_wp2
              go_roundw
              case rel => exact ⟨k + 1, by go_num, h1, HB9⟩
              case measure => simp [intOf]; omega
            · have h1z : ¬ (k : Int) < (S.length : Int) := by omega
              obtain ⟨w9, hw9⟩ : ∃ w9, w9 = wr := ⟨_, rfl⟩
              rw [← hw9] at HQ ⊢
              have HB9 := Lib.hid (HB8.out.trans (HQ.out.mono HB8.out.size))
              have HS9 := Lib.hid ((HS8.out.2.below HQ.out).mono HQ.out.size)
              clear hw9 h1 hk
              obtain ⟨x0, x1, y0, y1⟩ := HX.out.1 w9 (HB.out.trans (HB9.out.mono HB.out.size))
              have c1 := cut_ok (cap := k3) x HN.out.2.2.1 (by have := HL.out.2.2.1; omega) HY.out.1 HS9.out HE.out.2.2.2.2.1
              go_upto_region 23 with fail
              go_wp2_with fail
              with_reducible refine c1.mono ?_
              clear x0 x1 y0 y1 c1
              rintro e w10 ⟨A6, k6, rfl, ha, hb⟩
              have HB10 := Lib.hid (HB9.out.trans (hb.mono HB9.out.size))
              have HS10 := Lib.hid (And.intro ((HS9.out.below hb).mono hb.size) ha)
              obtain ⟨x0, x1, y0, y1⟩ := HX.out.1 w10 (HB.out.trans (HB10.out.mono HB.out.size))
              have c1 := add_ok (cap := k6) x HN.out.2.2.2 (by have := HL.out.2.2.2; omega) HY.out.1 ha HE.out.2.2.2.2.2
              clear ha hb
              go_wp2_with fail
              with_reducible refine c1.mono ?_
              clear x0 x1 y0 y1 c1
              rintro e w11 ⟨A7, k7, rfl, ha, hb⟩
              have HB11 := Lib.hid (HB10.out.trans (hb.mono HB10.out.size))
              have HS11 := Lib.hid (And.intro ((HS10.out.1.below hb).mono hb.size) (And.intro ((HS10.out.2.below hb).mono hb.size) ha))
              clear ha hb
              go_upto_region 25 with fail
              obtain ⟨LK, hLK⟩ : ∃ LK, LK = lenN K := ⟨_, rfl⟩
              obtain ⟨LB, hLB⟩ : ∃ LB, LB = lenN B := ⟨_, rfl⟩
              have hsum := HU.out.2.2.1
              rw [← hLK, ← hLB] at hsum
              have hLB64 : LB < 18446744073709551616 := by rw [hLB]; exact lenN_lt HU.out.1
              obtain ⟨dx, hdx⟩ : ∃ dx : Nat, dx = x.2 - x.1 := ⟨_, rfl⟩
              have hxl := HY.out.1
              have e1 : IntKind.u64.wrap ((x.2 : Int) - (x.1 : Int)) = (dx : Int) := by rw [IntKind.wrap_u64]; omega
              have e2 : IntKind.u64.wrap ((LK : Int) + (dx : Int)) = (LB : Int) := by rw [IntKind.wrap_u64]; omega
              have hF : ∀ y : Cls (Fresh w11), Below w1.heap.size w1 y.w := fun y => HB.out.trans (Below.mono (HB11.out.trans (Below.mono y.h HB11.out.size)) HB.out.size)
              have x0 : ∀ y : Cls (Fresh w11), y.w.cell? ⟨g, 0, none⟩ = some (.int .u64 (x.1 : Int)) := fun y => (HX.out.1 y.w (hF y)).1
              have x1 : ∀ y : Cls (Fresh w11), y.w.cell? ⟨g, 1, none⟩ = some (.int .u64 (x.2 : Int)) := fun y => (HX.out.1 y.w (hF y)).2.1
              have hSp : ∀ W, Below w11.heap.size w11 W → SpAt W.heap.size W A3 B ∧ SpAt W.heap.size W A6 K ∧ SpAt W.heap.size W A7 B := fun W hb => ⟨(HS11.out.1.below hb).mono hb.size, (HS11.out.2.1.below hb).mono hb.size, (HS11.out.2.2.below hb).mono hb.size⟩
              have k2 := fresh_calls (v := .bool true) fun W hb => same_yes (cap := k7) (cap' := k3) (by have := HL.out.2.2.1; omega) (hSp W hb).2.2 (hSp W hb).1
              have k3' := fresh_calls (v := .int .u64 (LK : Int)) fun W hb => by rw [hLK]; exact len_any (cap := k6) (by have := HL.out.2.2.2; omega) (hSp W hb).2.1 HU.out.2.1
              have k4' := fresh_calls (v := .int .u64 (LB : Int)) fun W hb => by rw [hLB]; exact len_any (cap := k3) (by have := HL.out.2.2.1; omega) (hSp W hb).1 HU.out.1
              have k5' := fresh_calls (W0 := w11) fun W hb => alive_any W
              have k1' : x.1 < x.2 → ∀ y : Cls (Fresh w11), Calls Try.prog 16 #[.slice A6 K.length k6, .int .u64 (x.1 : Int)] y.w fun e w' => e = .returned (.bool false) ∧ Fresh w11 w' ∧ Below y.w.heap.size y.w w' := fun hlt => fresh_calls fun W hb => by
                have := has_det (cap := k6) x.1 (by have := HL.out.2.2.2; omega) (hSp W hb).2.1
                rwa [HU.out.2.2.2 hlt, Bool.and_false] at this
              have hS0 : Fresh w11 w11.drew := Fresh.below (Below.refl _ _) (Below.drew (Below.refl _ _))
              have ne : Nonempty (Cls (Fresh w11)) := ⟨⟨w11, Below.refl _ _⟩⟩
              have f1 : ∀ (vals : Array Value) (w : World), (callFunc 16 vals).run Try.prog w = .ok (.enter 16 vals) w := fun _ _ => by kernel_rfl
              have f2 : ∀ (vals : Array Value) (w : World), (callFunc 15 vals).run Try.prog w = .ok (.enter 15 vals) w := fun _ _ => by kernel_rfl
              have f3 : ∀ (vals : Array Value) (w : World), (callFunc 22 vals).run Try.prog w = .ok (.enter 22 vals) w := fun _ _ => by kernel_rfl
              have f5 : ∀ (vals : Array Value) (w : World), (callFunc 9 vals).run Try.prog w = .ok (.enter 9 vals) w := fun _ _ => by kernel_rfl
              clear hsum hLB64 hdx hF hSp hLK hLB hxl
              have K2 := Lib.hid k2
              clear k2
              have K3' := Lib.hid k3'
              clear k3'
              have K4' := Lib.hid k4'
              clear k4'
              have K5' := Lib.hid k5'
              clear k5'
              have F1 := Lib.hid f1
              clear f1
              have F2 := Lib.hid f2
              clear f2
              have F3 := Lib.hid f3
              clear f3
              have F5 := Lib.hid f5
              clear f5
              have HS0 := Lib.hid hS0
              clear hS0
              by_cases hlt : x.1 < x.2
              · have hltz : (x.1 : Int) < (x.2 : Int) := by omega
                have k1 := k1' hlt
                clear k1' hlt
                have K1 := Lib.hid k1
                clear k1
                as_aux_lemma =>
                  refine wp_region_flow 42 (Fresh w11) (fun w w' => Below w.heap.size w w') (by kernel_rfl) (by kernel_rfl) (by kernel_rfl) (fun w => Below.refl _ _) HS0.out ?_
                  simp only [List.take_succ_cons, List.take_zero, List.drop_succ_cons, List.drop_zero]
                  repeat (first
                    | (refine flow_skip rfl rfl w11 ?_; intro K hK; go_big_quiet_op; go_big_quiet_on)
                    | (refine flow_quiet (fun w => Below.refl _ _) rfl rfl rfl rfl ?_; intro K hK; go_big_quiet_op; go_big_quiet_on)
                    | (refine flow_call F1.out _ ?_ rfl rfl rfl _ K1.out w11 ?_; (focus (simp only [List.map_toArray, List.map_cons, List.map_nil]; rfl)); intro K hK; go_big_quiet_op; go_big_quiet_on)
                    | (refine flow_call F2.out _ ?_ rfl rfl rfl _ K2.out w11 ?_; (focus (simp only [List.map_toArray, List.map_cons, List.map_nil]; rfl)); intro K hK; go_big_quiet_op; go_big_quiet_on)
                    | (refine flow_call F3.out _ ?_ rfl rfl rfl _ K3'.out w11 ?_; (focus (simp only [List.map_toArray, List.map_cons, List.map_nil]; rfl)); intro K hK; go_big_quiet_op; go_big_quiet_on)
                    | (refine flow_call F3.out _ ?_ rfl rfl rfl _ K4'.out w11 ?_; (focus (simp only [List.map_toArray, List.map_cons, List.map_nil]; rfl)); intro K hK; go_big_quiet_op; go_big_quiet_on)
                    | (refine flow_call F5.out #[] (by simp only [List.map_toArray, List.map_nil]) rfl rfl rfl _ K5'.out w11 ?_; intro K hK; go_big_quiet_op; go_big_quiet_on))
                  refine flow_nil ?_
                  intro W5 f hW5 hF5
                  clear hF5
                  simp only [fillW]
                  have hB5 : Below w.heap.size w W5 := HW.out.2.trans ((HB.out.trans ((HB11.out.trans (Below.mono hW5 HB11.out.size)).mono HB.out.size)).mono HW.out.2.size)
                  clear hW5 ne x0 x1
                  have HB5 := Lib.hid hB5
                  clear hB5
                  go_wp2
                  go_ret
                  exact ⟨rfl, HB5.out⟩
              · have hltz : ¬ (x.1 : Int) < (x.2 : Int) := by omega
                clear k1' hlt
                have k1 := trivial
                have K1 := Lib.hid k1
                clear k1
                as_aux_lemma =>
                  refine wp_region_flow 42 (Fresh w11) (fun w w' => Below w.heap.size w w') (by kernel_rfl) (by kernel_rfl) (by kernel_rfl) (fun w => Below.refl _ _) HS0.out ?_
                  simp only [List.take_succ_cons, List.take_zero, List.drop_succ_cons, List.drop_zero]
                  repeat (first
                    | (refine flow_skip rfl rfl w11 ?_; intro K hK; go_big_quiet_op; go_big_quiet_on)
                    | (refine flow_quiet (fun w => Below.refl _ _) rfl rfl rfl rfl ?_; intro K hK; go_big_quiet_op; go_big_quiet_on)
                    | (refine flow_call F1.out _ ?_ rfl rfl rfl _ K1.out w11 ?_; (focus (simp only [List.map_toArray, List.map_cons, List.map_nil]; rfl)); intro K hK; go_big_quiet_op; go_big_quiet_on)
                    | (refine flow_call F2.out _ ?_ rfl rfl rfl _ K2.out w11 ?_; (focus (simp only [List.map_toArray, List.map_cons, List.map_nil]; rfl)); intro K hK; go_big_quiet_op; go_big_quiet_on)
                    | (refine flow_call F3.out _ ?_ rfl rfl rfl _ K3'.out w11 ?_; (focus (simp only [List.map_toArray, List.map_cons, List.map_nil]; rfl)); intro K hK; go_big_quiet_op; go_big_quiet_on)
                    | (refine flow_call F3.out _ ?_ rfl rfl rfl _ K4'.out w11 ?_; (focus (simp only [List.map_toArray, List.map_cons, List.map_nil]; rfl)); intro K hK; go_big_quiet_op; go_big_quiet_on)
                    | (refine flow_call F5.out #[] (by simp only [List.map_toArray, List.map_nil]) rfl rfl rfl _ K5'.out w11 ?_; intro K hK; go_big_quiet_op; go_big_quiet_on))
                  refine flow_nil ?_
                  intro W5 f hW5 hF5
                  clear hF5
                  simp only [fillW]
                  have hB5 : Below w.heap.size w W5 := HW.out.2.trans ((HB.out.trans ((HB11.out.trans (Below.mono hW5 HB11.out.size)).mono HB.out.size)).mono HW.out.2.size)
                  clear hW5 ne x0 x1
                  have HB5 := Lib.hid hB5
                  clear hB5
                  go_wp2
                  go_ret
                  exact ⟨rfl, HB5.out⟩
theorem walk (a : Option Addr) (n cap : Nat) (x y z t : Int) (w : World) (h0 : StrRows w [.inl .u64, .inl .u64] a n) (hx : (Lit.int .u64 x).wf = true) (hy : (Lit.int .u64 y).wf = true) (hz : (Lit.int .u64 z).wf = true) (ht : (Lit.int .u64 t).wf = true) :
    Calls Try.prog 6 #[.slice a n cap, .agg #[.int .u64 x, .int .u64 y], .agg #[.int .u64 z, .int .u64 t]] w fun e w' => e = .returned (.bool true) ∧ Below w.heap.size w w' := by
  by_cases hn : (n : Int) > 60
  · exact walk_long a n cap x y z t w hn
  · obtain ⟨l, rfl, hu, hI⟩ := sp_rows h0
    obtain ⟨x, rfl, h1⟩ := u64_nat hx
    obtain ⟨y, rfl, h2⟩ := u64_nat hy
    obtain ⟨z, rfl, h3⟩ := u64_nat hz
    obtain ⟨t, rfl, h4⟩ := u64_nat ht
    exact walk_short a cap l (x, y) (z, t) w (by omega) hu h2 h4 hI
theorem own : ownKnob Try.prog.godebug = none := by kernel_rfl
theorem laidOut : laidOutB Try.prog = true := by kernel_rfl
set_option maxRecDepth 100000 in
theorem lifted (os : Os) (started : os.Started) (H : Type) (enc : TypeId × Value → H) :
    ReturnsInHanded {} Try.checked os 6 .any (Rows.spanOrderSpec.pre6 enc Try.prog Try.f6 Rows.spanOrderRow.domain false) (Rows.spanOrderSpec.post enc Try.prog Try.f6 false true false false) := by
  refine returnsInHanded_of_change (C := Try.checked) own started (by kernel_rfl) Try.func6
    (ChangeSpec.witness6 (enc := enc) (C := Try.checked) false ⟨#[], #[.slice none 0 0, .agg #[.int .u64 0, .int .u64 0], .agg #[.int .u64 0, .int .u64 0]], []⟩ 8 (by kernel_rfl) (by kernel_rfl) (by kernel_rfl) (by kernel_rfl)) ?_
  intro W base args ds gs before hval0 hW hcnd _
  have hval : ∀ (j : Nat) t v, Try.f6.params[j]? = some t → args[j]? = some v → Value.okWide Try.prog W .any base t v := hval0
  have hW' := hW
  obtain ⟨p, q, hA0, hV, rfl, hfz, hnd⟩ := hW
  have hA : DataW.TrodAll enc Try.prog W 0 (fun _ => true) true Try.f6.params.toList args.toList ds p := hA0
  rw [Try.params6] at hA hval
  obtain ⟨v0, vs0, d0, ds0, p0, q0, hargs, rfl, rfl, h0, r0⟩ := trodAll_cons hA
  obtain ⟨v1, vs1, d1, ds1, p1, q1, rfl, rfl, rfl, h1, r1⟩ := trodAll_cons r0
  obtain ⟨v2, vs2, d2, ds2, p2, q2, rfl, rfl, rfl, h2, r2⟩ := trodAll_cons r1
  obtain ⟨rfl, rfl, rfl⟩ := trodAll_nil r2
  obtain rfl : args = #[v0, v1, v2] := by cases args; simp_all
  obtain ⟨rfl, rfl⟩ := trodVars_none hV
  obtain ⟨a0, len0, cap0, rfl⟩ := okWide_slice Try.underlying22 (hval 0 22 v0 rfl rfl)
  have k0 := h0
  have lt0 : ∀ x ∈ p0, x.block < W.heap.size := by obtain ⟨m, hm⟩ := k0; exact DataW.trod_lt m _ _ _ hm
  have w0 : StrRows W [.inl .u64, .inl .u64] a0 len0 := str_rows Try.underlying22 Try.underlying25 (by kernel_rfl) (by kernel_rfl) (by kernel_rfl) (by decide) h0
  have k1 := h1
  have lt1 : ∀ x ∈ p1, x.block < W.heap.size := by obtain ⟨m, hm⟩ := k1; exact DataW.trod_lt m _ _ _ hm
  obtain ⟨c1_0, c1_1, y1_0, y1_1, m1, rfl, rfl, rfl, hy1_0, hy1_1⟩ := Go.Joins.open_agg2 Try.underlying25 (by kernel_rfl) (by kernel_rfl) (hval 1 25 v1 rfl rfl) h1
  obtain ⟨a1_0, e1_0, rfl, w1_0⟩ := DataW.trod_int Try.underlying23 hy1_0
  simp at e1_0
  subst e1_0
  obtain ⟨a1_1, e1_1, rfl, w1_1⟩ := DataW.trod_int Try.underlying23 hy1_1
  simp at e1_1
  subst e1_1
  have k2 := h2
  have lt2 : ∀ x ∈ p2, x.block < W.heap.size := by obtain ⟨m, hm⟩ := k2; exact DataW.trod_lt m _ _ _ hm
  obtain ⟨c2_0, c2_1, y2_0, y2_1, m2, rfl, rfl, rfl, hy2_0, hy2_1⟩ := Go.Joins.open_agg2 Try.underlying25 (by kernel_rfl) (by kernel_rfl) (hval 2 25 v2 rfl rfl) h2
  obtain ⟨a2_0, e2_0, rfl, w2_0⟩ := DataW.trod_int Try.underlying23 hy2_0
  simp at e2_0
  subst e2_0
  obtain ⟨a2_1, e2_1, rfl, w2_1⟩ := DataW.trod_int Try.underlying23 hy2_1
  simp at e2_1
  subst e2_1
  clear hA0 hval0
  refine (walk a0 len0 cap0 a1_0 a1_1 a2_0 a2_1 W w0 w1_0 w1_1 w2_0 w2_1).mono fun e W' ⟨he, bel⟩ => ?_
  subst he
  exact ⟨_, rfl, _, _, _, [], _, [], hW', trodAll_mk1 (shut_bool Try.underlying4 _), (trodAll_cons_mk (Below.trod laidOut (by kernel_rfl) (of_decide_eq_true (by kernel_rfl)) k0 bel lt0) (trodAll_cons_mk (Below.trod laidOut (by kernel_rfl) (of_decide_eq_true (by kernel_rfl)) k1 bel lt1) (trodAll_cons_mk (Below.trod laidOut (by kernel_rfl) (of_decide_eq_true (by kernel_rfl)) k2 bel lt2) trodAll_mk0))), rfl, bel.frame _, fun h => by cases h⟩

theorem over : Rows.spanOrderRow.holds Try.pinned (OpenSpec.ofChange Rows.spanOrderSpec) :=
  OpenClaim.holds_of_wide 6 Try.f6 rfl rfl rfl rfl rfl rfl rfl ⟨rfl, rfl, rfl, rfl, rfl⟩ rfl rfl rfl rfl rfl (by kernel_rfl) Try.func6 (by kernel_rfl)
    (of_decide_eq_true (by kernel_rfl)) (by unfold Func.isWrapper; first | (rw [if_pos (by decide +kernel)]; kernel_rfl) | (rw [if_neg (by decide +kernel)]; exact ⟨rfl, rfl⟩))
    (fun os started H enc _ => lifted os started H enc)

/-- THE STATEMENT -/
theorem proved : Rows.SpanOrderSaid := over
#print axioms proved
end Go.Proofs.Ytnnpahjopfkchaa.spanOrder
