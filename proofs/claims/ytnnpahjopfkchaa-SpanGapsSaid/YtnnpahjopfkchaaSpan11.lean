/- span.Cut. -/
import Derived.Test.YtnnpahjopfkchaaSpanW
import Derived.Test.YtnnpahjopfkchaaSpan4
import Derived.StillTailTactics
import Derived.Lib.MinMax
set_option linter.unusedVariables false
set_option linter.unusedSimpArgs false
namespace Go.Proofs.Ytnnpahjopfkchaa
open Go.RowKit Go.BigFrame

theorem cutS_take {l : List Sp} {x : Sp} {k : Nat} (h : k < l.length) : cutS (l.take (k + 1)) x = cutS (l.take k) x ++ cutP x l[k] := by
  unfold cutS
  rw [← List.take_append_getElem h, List.flatMap_append, List.flatMap_cons, List.flatMap_nil, List.append_nil]
theorem cutS_two (l : List Sp) (x : Sp) : (cutS l x).length ≤ 2 * l.length := by
  induction l with
  | nil => simp [cutS]
  | cons q l ih =>
    have e : (cutS (q :: l) x).length = (cutP x q).length + (cutS l x).length := by rw [cutS, List.flatMap_cons, List.length_append]; rfl
    have := cutP_len x q
    rw [e, List.length_cons]
    omega
def pcsN (x y : Sp) : Nat → List Sp
  | 0 => []
  | 1 => if y.1 < min y.2 x.1 then [(y.1, min y.2 x.1)] else []
  | _ => cutP x y
def pcZ (x y : Sp) (j : Nat) : Sp := if j = 0 then (y.1, min y.2 x.1) else (max y.1 x.2, y.2)
theorem pcsN_step (x y : Sp) {j : Nat} (h : j < 2) : pcsN x y (j + 1) = pcsN x y j ++ (if (pcZ x y j).1 < (pcZ x y j).2 then [pcZ x y j] else []) := by
  rcases j with _ | j
  · simp [pcsN, pcZ]
  · obtain rfl : j = 0 := by omega
    simp [pcsN, pcZ, cutP]
theorem pcsN_len (x y : Sp) (j : Nat) : (pcsN x y j).length ≤ 2 := by
  unfold pcsN
  split
  · simp
  · split <;> simp
  · exact cutP_len x y
theorem pcZ_cells {W : World} {gP : Nat} (x y : Sp) (h : Blk W gP 25 #[.int .u64 (y.1 : Int), .int .u64 ((min y.2 x.1 : Nat) : Int), .int .u64 ((max y.1 x.2 : Nat) : Int), .int .u64 (y.2 : Int)]) {j : Nat} (hj : j < 2) : W.cell? ⟨gP, j * 2, none⟩ = some (.int .u64 ((pcZ x y j).1 : Int)) ∧ W.cell? ⟨gP, j * 2 + 1, none⟩ = some (.int .u64 ((pcZ x y j).2 : Int)) := by
  rcases j with _ | j
  · exact ⟨h.cell 0, h.cell 1⟩
  · obtain rfl : j = 0 := by omega
    exact ⟨h.cell 2, h.cell 3⟩
theorem OwnL.blt {base : Nat} {W : World} {v : Value} {o : List Sp} (h : OwnL base W v o) : ∀ k, v.ownBlock = some k → k < W.heap.size := by
  rcases h.2 with ⟨rfl, _⟩ | ⟨g, cap, cur, rfl, _, h1, _⟩
  · intro k hk; cases hk
  · intro k hk
    have : g = k := Option.some.inj hk
    subst this
    exact (Array.getElem?_eq_some_iff.1 h1).1
section
variable {w : World} {A : Option Addr} {l : List Sp} {cap : Nat}
set_option maxRecDepth 100000 in
set_option maxHeartbeats 4000000 in
theorem cut_any (x : Sp) (hm : l.length ≤ 900000) (hI : SpAt w.heap.size w A l) : Calls Try.prog 12 #[.slice A l.length cap, spV x] w (SetPost w (setR false l x)) := by
  obtain ⟨w1, hw1⟩ : ∃ w1, w1 = w.alloc (.cells #[.int .u64 (x.1 : Int), .int .u64 (x.2 : Int)] 25) := ⟨_, rfl⟩
  have hB1 : Below w.heap.size w w1 := by rw [hw1]; exact (Below.refl _ w).alloc (Nat.le_refl _) _
  have hx : Blk w1 w.heap.size 25 #[.int .u64 (x.1 : Int), .int .u64 (x.2 : Int)] := by rw [hw1]; exact Blk.new _ _ _
  have hI1 := (hI.below hB1).mono hB1.size
  have c0 := check_any (cap := cap) x (by omega) hI1
  have lm : (l.length : Int) ≤ 900000 := by omega
  have x0 := hx.cell 0
  have x1 := hx.cell 1
  simp only [List.getElem?_toArray, List.getElem?_cons_zero, List.getElem?_cons_succ] at x0 x1
  have HW := Lib.hid hw1
  have HX := Lib.hid (And.intro hB1 (And.intro hx hI1))
  clear hw1 hB1 hx hI1 hI
  by_cases hc : checkE l x = 0
  · have hmx : mayB l = true ∧ x.1 ≤ x.2 := by
      unfold checkE at hc
      by_cases h1 : mayB l = false
      · rw [if_pos h1] at hc; omega
      · rw [if_neg h1] at hc
        refine ⟨by simpa using h1, ?_⟩
        by_cases h2 : x.2 < x.1
        · rw [if_pos h2] at hc; omega
        · omega
    have hR : setR false l x = if 256 < (setS false l x).length then ([], 6) else (setS false l x, 0) := by
      unfold setR
      rw [if_neg (by rw [hmx.1]; decide), if_neg (by omega)]
    obtain ⟨hn, hn256⟩ := (mayB_iff l).1 hmx.1
    rw [hc] at c0
    by_cases he : x.1 = x.2
    · have hS : setS false l x = l := by unfold setS; rw [if_pos he]
      rw [hR, hS, if_neg (by omega)]
      have hez : (x.1 : Int) = (x.2 : Int) := by omega
      have heb : ((x.1 : Int) == (x.2 : Int)) = true := by simp [hez]
      unfold spV at c0 ⊢
      unfold SetPost
      clear hmx hR hS hn hc hez he
      go_enter Try.func12, Try.ntmps12
      go_upto_region 1 with fail
      rw [← HW.out]
      go_wp2_with fail
      refine c0.mono ?_
      rintro e w2 ⟨rfl, hb⟩
      have hx2 := HX.out.2.1.below hb HX.out.2.1.lt
      have c1 := clone_any (cap := cap) (by omega) ((HX.out.2.2.below hb).mono hb.size)
      have HB := Lib.hid (HX.out.1.trans (hb.mono HX.out.1.size))
      clear x0 x1
      have y0 := hx2.cell 0
      have y1 := hx2.cell 1
      simp only [List.getElem?_toArray, List.getElem?_cons_zero, List.getElem?_cons_succ] at y0 y1
      clear hx2 hb
      go_wp2_with fail
      refine c1.mono ?_
      rintro e w3 ⟨v, rfl, ho, hb3⟩
      obtain ⟨A3, c3, rfl, ha⟩ := ho.spAt
      have c4 := told_ok (w := w3) (A := A3) (cap := c3) l.length hn256
      have HA := Lib.hid (And.intro ha (HB.out.trans (hb3.mono HB.out.size)))
      clear y0 y1 ho ha hb3 c1
      go_wp2_with fail
      refine c4.mono ?_
      rintro e w4 ⟨rfl, rfl⟩
      go_wp2
      go_ret2
      exact ⟨A3, c3, rfl, HA.out.1, HA.out.2⟩
    · have hS : setS false l x = cutS l x := by unfold setS; rw [if_neg he, if_neg (by decide)]
      rw [hS] at hR
      have hlt : x.1 < x.2 := by omega
      have hez : ¬ (x.1 : Int) = (x.2 : Int) := by omega
      have heb : ((x.1 : Int) == (x.2 : Int)) = false := by simp [hez]
      unfold spV at c0 ⊢
      have HR := Lib.hid (And.intro hR (And.intro hn hlt))
      clear hmx hR hS hn hc hez he hlt
      go_enter Try.func12, Try.ntmps12
      go_upto_region 1 with fail
      rw [← HW.out]
      go_wp2_with fail
      refine c0.mono ?_
      rintro e w2 ⟨rfl, hb⟩
      have hx2 := HX.out.2.1.below hb HX.out.2.1.lt
      have hI2 := (HX.out.2.2.below hb).mono hb.size
      have HB := Lib.hid (HX.out.1.trans (hb.mono HX.out.1.size))
      clear x0 x1 c0
      have y0 := hx2.cell 0
      have y1 := hx2.cell 1
      simp only [List.getElem?_toArray, List.getElem?_cons_zero, List.getElem?_cons_succ] at y0 y1
      have HI := Lib.hid (And.intro hI2 hx2)
      clear hx2 hb hI2
      go_wp2
      clear y0 y1
      go_loopw [4, 29] (fun out i wr => ∃ (k n : Nat) (A' : Option Addr) (c' : Nat) (o : List Sp), out = .slice A' n c' ∧ i = .int .i64 k ∧ k ≤ l.length ∧ Hid (n = o.length ∧ o = cutS (l.take k) x ∧ OwnL w2.heap.size wr (.slice A' n c') o ∧ Below w2.heap.size w2 wr)) (fun _ i _ => l.length - (intOf i).toNat)
      case atStart => exact ⟨0, 0, none, 0, [], rfl, rfl, Nat.zero_le _, Lib.hid ⟨rfl, rfl, OwnL.nil _ _, Below.refl _ _⟩⟩
      case round =>
        obtain ⟨k, n, A', c', o, rfl, rfl, hk, HO⟩ := hrel
        by_cases h1 : k < l.length
        · have h1z : (k : Int) < (l.length : Int) := by omega
          have k0 : (0 : Int) ≤ (k : Int) := by omega
          obtain ⟨b, off, rfl, -, r1, r2⟩ := (HI.out.1.below HO.out.2.2.2).at_ h1
          have htk := cutS_take (x := x) h1
          have hol : o.length ≤ 600 := by
            rw [HO.out.2.1]
            have := cutS_two (l.take k) x
            rw [List.length_take] at this
            omega
          obtain ⟨y, ey⟩ : ∃ y, y = l[k] := ⟨_, rfl⟩
          rw [← ey] at r1 r2 htk
          obtain ⟨W4, hW4⟩ : ∃ W4, W4 = wr.alloc (.cells #[.int .u64 (y.1 : Int), .int .u64 (y.2 : Int)] 25) := ⟨_, rfl⟩
          have hyb : Blk W4 wr.heap.size 25 #[.int .u64 (y.1 : Int), .int .u64 (y.2 : Int)] := by rw [hW4]; exact Blk.new _ _ _
          have hb4 : Below wr.heap.size wr W4 := by rw [hW4]; exact (Below.refl _ _).alloc (Nat.le_refl _) _
          have ho4 := HO.out.2.2.1.below hb4
          have hB4 := HO.out.2.2.2.trans (hb4.mono HO.out.2.2.2.size)
          have hx4 := HI.out.2.below hB4 HI.out.2.lt
          have y0 := hx4.cell 0
          have y1 := hx4.cell 1
          have z0 := hyb.cell 0
          have z1 := hyb.cell 1
          simp only [List.getElem?_toArray, List.getElem?_cons_zero, List.getElem?_cons_succ] at z0 z1 y0 y1
          obtain ⟨a, ea⟩ : ∃ a, a = min y.2 x.1 := ⟨_, rfl⟩
          obtain ⟨d, ed⟩ : ∃ d, d = max y.1 x.2 := ⟨_, rfl⟩
          have eaz : min (y.2 : Int) (x.1 : Int) = (a : Int) := by omega
          have edz : max (y.1 : Int) (x.2 : Int) = (d : Int) := by omega
          obtain ⟨W5, hW5⟩ : ∃ W5, W5 = W4.alloc (.cells #[.int .u64 (y.1 : Int), .int .u64 (a : Int), .int .u64 (d : Int), .int .u64 (y.2 : Int)] 25) := ⟨_, rfl⟩
          have hpb : Blk W5 W4.heap.size 25 #[.int .u64 (y.1 : Int), .int .u64 (a : Int), .int .u64 (d : Int), .int .u64 (y.2 : Int)] := by rw [hW5]; exact Blk.new _ _ _
          have hb5 : Below W4.heap.size W4 W5 := by rw [hW5]; exact (Below.refl _ _).alloc (Nat.le_refl _) _
          have hne : (Value.slice A' n c').ownBlock ≠ some W4.heap.size := by
            intro e
            have := ho4.blt _ e
            omega
          have H5 := Lib.hid (And.intro hpb (And.intro hne (And.intro (ho4.below hb5) (hB4.trans (hb5.mono hB4.size)))))
          have HY := Lib.hid (And.intro htk (And.intro ea (And.intro ed hol)))
          have HW4 := Lib.hid hW4
          have HW5 := Lib.hid hW5
          obtain ⟨gP, egP⟩ : ∃ gP, gP = W4.heap.size := ⟨_, rfl⟩
          rw [← egP] at H5
          clear htk hyb hB4 ey hW4 hb4 ea ed hol hpb hb5 hne ho4 hx4 hW5
          go_upto_region 9 with fail
          rw [← HW4.out]
          go_wp2
          rw [← HW5.out]
          have HG := Lib.hid egP
          try rw [← egP]
          clear egP y0 y1 z0 z1 eaz edz r1 r2
          go_loopw [4, 51] (fun out i wq => ∃ (j m : Nat) (A2 : Option Addr) (c2 : Nat) (o2 : List Sp), out = .slice A2 m c2 ∧ i = .int .i64 j ∧ j ≤ 2 ∧ Hid (m = o2.length ∧ o2 = o ++ pcsN x y j ∧ OwnL w2.heap.size wq (.slice A2 m c2) o2 ∧ Below w2.heap.size w2 wq ∧ Blk wq gP 25 #[.int .u64 (y.1 : Int), .int .u64 (a : Int), .int .u64 (d : Int), .int .u64 (y.2 : Int)] ∧ (Value.slice A2 m c2).ownBlock ≠ some gP)) (fun _ i _ => 2 - (intOf i).toNat)
          case atStart => exact ⟨0, n, A', c', o, rfl, rfl, by omega, Lib.hid ⟨HO.out.1, by simp [pcsN], H5.out.2.2.1, H5.out.2.2.2, H5.out.1, H5.out.2.1⟩⟩
          case round =>
            clear H5
            obtain ⟨j, m, A2, c2, o2, rfl, rfl, hj, HP⟩ := hrel
            by_cases h2 : j < 2
            · have h2z : (j : Int) < 2 := by omega
              have j0 : (0 : Int) ≤ (j : Int) := by omega
              have hP := HP.out.2.2.2.2.1
              rw [HY.out.2.1, HY.out.2.2.1] at hP
              obtain ⟨s1, s2⟩ := pcZ_cells x y hP h2
              have hst := pcsN_step x y h2
              have hol : o2.length ≤ 1000000 := by
                rw [HP.out.2.1, List.length_append]
                have := HY.out.2.2.2
                have := pcsN_len x y j
                omega
              obtain ⟨z, ez⟩ : ∃ z, z = pcZ x y j := ⟨_, rfl⟩
              rw [← ez] at s1 s2 hst
              obtain ⟨W6, hW6⟩ : ∃ W6, W6 = wr.alloc (.cells #[.int .u64 (z.1 : Int), .int .u64 (z.2 : Int)] 25) := ⟨_, rfl⟩
              have hzb : Blk W6 wr.heap.size 25 #[.int .u64 (z.1 : Int), .int .u64 (z.2 : Int)] := by rw [hW6]; exact Blk.new _ _ _
              have hb6 : Below wr.heap.size wr W6 := by rw [hW6]; exact (Below.refl _ _).alloc (Nat.le_refl _) _
              have v0 := hzb.cell 0
              have v1 := hzb.cell 1
              simp only [List.getElem?_toArray, List.getElem?_cons_zero, List.getElem?_cons_succ] at v0 v1
              have H6 := Lib.hid (And.intro (HP.out.2.2.1.below hb6) (And.intro (HP.out.2.2.2.1.trans (hb6.mono HP.out.2.2.2.1.size)) (HP.out.2.2.2.2.1.below hb6 HP.out.2.2.2.2.1.lt)))
              have HW6 := Lib.hid hW6
              have HZ := Lib.hid (And.intro hst hol)
              clear hP hst hol ez hW6 hzb hb6
              by_cases hz : z.1 < z.2
              · have hzz : (z.1 : Int) < (z.2 : Int) := by omega
                have hst := HZ.out.1
                rw [if_pos hz] at hst
                have HS := Lib.hid hst
                clear hst hz
                go_upto_region 12 with fail
                rw [← HW6.out]
                go_wp2_with (at_builtin; refine wpList_app2 (W0 := w2) rfl _ _ rfl _ o2 z rfl (OwnL.below H6.out.1 ((Below.refl _ _).alloc (Nat.le_refl _) _)) (H6.out.2.1.alloc H6.out.2.1.size _) (by have := H6.out.2.1.size; simp; omega) _ rfl (Blk.new _ _ _) HZ.out.2 gP _ _ (H6.out.2.2.alloc _) HP.out.2.2.2.2.2 ?_; intro A7 c7 w7 ho7 hb7 hp7 hn7; have H7 := Lib.hid (And.intro ho7 (And.intro hb7 (And.intro hp7 hn7))); clear ho7 hb7 hp7 hn7)
                go_roundw
                case rel => exact ⟨j + 1, _, A7, c7, o2 ++ [z], rfl, by go_num, h2, Lib.hid ⟨H7.out.1.at_.2, by rw [HS.out, ← List.append_assoc, ← HP.out.2.1], H7.out.1, H7.out.2.1, H7.out.2.2.1, H7.out.2.2.2⟩⟩
                case measure => simp [intOf]; omega
              · have hzz : ¬ (z.1 : Int) < (z.2 : Int) := by omega
                have hst := HZ.out.1
                rw [if_neg hz, List.append_nil] at hst
                have HS := Lib.hid hst
                clear hst hz
                go_upto_region 12 with fail
                rw [← HW6.out]
                go_wp2
                go_roundw
                case rel => exact ⟨j + 1, m, A2, c2, o2, rfl, by go_num, h2, Lib.hid ⟨HP.out.1, by rw [HS.out, ← HP.out.2.1], H6.out.1, H6.out.2.1, H6.out.2.2, HP.out.2.2.2.2.2⟩⟩
                case measure => simp [intOf]; omega
            · obtain rfl : j = 2 := by omega
              go_wp2
              go_roundw
              case rel => exact ⟨k + 1, m, A2, c2, o2, rfl, by go_num, h1, Lib.hid ⟨HP.out.1, by rw [HY.out.1, HP.out.2.1, HO.out.2.1]; rfl, HP.out.2.2.1, HP.out.2.2.2.1⟩⟩
              case measure => simp [intOf]; omega
        · obtain rfl : k = l.length := by omega
          have h1z : ¬ (l.length : Int) < (l.length : Int) := by omega
          have hd := HO.out.2.1
          rw [List.take_length] at hd
          have hR := HR.out.1
          rw [← hd] at hR
          have hn1 := HO.out.1
          have ha := HO.out.2.2.1.at_.1
          have hB := HB.out.trans (HO.out.2.2.2.mono HB.out.size)
          by_cases h256 : n ≤ 256
          · rw [if_neg (by omega)] at hR
            have c4 := told_ok (w := wr) (A := A') (cap := c') n h256
            have HA := Lib.hid (And.intro ha (And.intro hB (And.intro hR hn1)))
            clear ha hB hR hn1 hd h256
            go_wp2_with fail
            refine c4.mono ?_
            rintro e w4 ⟨rfl, rfl⟩
            clear c4
            go_wp2
            go_ret2
            show SetPost _ _ _ _
            rw [HA.out.2.2.1]
            exact ⟨A', c', by rw [HA.out.2.2.2]; rfl, HA.out.1, HA.out.2.1⟩
          · rw [if_pos (by omega)] at hR
            have c4 := told_full (w := wr) (A := A') (cap := c') n (by omega)
            have HA := Lib.hid (And.intro hB hR)
            clear ha hB hR hn1 hd h256
            go_wp2_with fail
            refine c4.mono ?_
            rintro e w4 ⟨rfl, rfl⟩
            clear c4
            go_wp2
            go_ret2
            show SetPost _ _ _ _
            rw [HA.out.2]
            exact ⟨none, 0, rfl, .inl rfl, HA.out.1⟩
  · have hR : setR false l x = ([], checkE l x) := by
      unfold setR
      unfold checkE at hc ⊢
      by_cases h1 : mayB l = false
      · rw [if_pos h1, if_pos h1]
      · rw [if_neg h1] at hc ⊢
        rw [if_neg h1]
        by_cases h2 : x.2 < x.1
        · rw [if_pos h2, if_pos h2]
        · rw [if_neg h2] at hc; exact absurd rfl hc
    rw [hR]
    obtain ⟨ec, hec⟩ : ∃ ec, ec = checkE l x := ⟨_, rfl⟩
    rw [← hec] at c0 hc ⊢
    have hcz : ¬ (ec : Int) = 0 := by omega
    have hcb : ((ec : Int) != 0) = true := by simp only [bne_iff_ne, ne_eq]; exact hcz
    unfold spV at c0 ⊢
    unfold SetPost
    clear hec hc hR
    go_enter Try.func12, Try.ntmps12
    go_upto_region 1 with fail
    rw [← HW.out]
    go_wp2_with fail
    refine c0.mono ?_
    rintro e w2 ⟨rfl, hb⟩
    have hB := HX.out.1.trans (hb.mono HX.out.1.size)
    clear x0 x1
    go_wp2
    go_ret2
    exact ⟨none, 0, rfl, .inl rfl, hB⟩
end
end Go.Proofs.Ytnnpahjopfkchaa
