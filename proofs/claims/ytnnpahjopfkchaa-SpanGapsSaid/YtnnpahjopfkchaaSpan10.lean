/- span.Add. -/
import Derived.Test.YtnnpahjopfkchaaSpanW
import Derived.Test.YtnnpahjopfkchaaSpan4
import Derived.Deep.RegionLaw
import Derived.StillTailTactics
import Derived.Lib.MinMax
set_option linter.unusedVariables false
set_option linter.unusedSimpArgs false
namespace Go.Proofs.Ytnnpahjopfkchaa
open Go.RowKit Go.BigFrame

section
variable {w : World} {A : Option Addr} {l : List Sp} {cap : Nat}
set_option maxRecDepth 100000 in
set_option maxHeartbeats 4000000 in
theorem add_any (x : Sp) (hm : l.length ≤ 900000) (hI : SpAt w.heap.size w A l) : Calls Try.prog 10 #[.slice A l.length cap, spV x] w (SetPost w (setR true l x)) := by
  obtain ⟨w1, hw1⟩ : ∃ w1, w1 = w.alloc (.cells #[.int .u64 (x.1 : Int), .int .u64 (x.2 : Int)] 25) := ⟨_, rfl⟩
  have hB1 : Below w.heap.size w w1 := by rw [hw1]; exact (Below.refl _ w).alloc (Nat.le_refl _) _
  have hx : Blk w1 w.heap.size 25 #[.int .u64 (x.1 : Int), .int .u64 (x.2 : Int)] := by rw [hw1]; exact Blk.new _ _ _
  have hI1 := (hI.below hB1).mono hB1.size
  have c0 := check_any (cap := cap) x (by omega) hI1
  have lm : (l.length : Int) ≤ 900000 := by omega
  have x0 := hx.cell 0
  have x1 := hx.cell 1
  simp only [List.getElem?_toArray, List.getElem?_cons_zero, List.getElem?_cons_succ] at x0 x1
  have HW := Lib.hid hw1
  have HX := Lib.hid (And.intro hB1 (And.intro hx hI1))
  clear hw1 hB1 hx hI1 hI
  by_cases hc : checkE l x = 0
  · have hmx : mayB l = true ∧ x.1 ≤ x.2 := by
      unfold checkE at hc
      by_cases h1 : mayB l = false
      · rw [if_pos h1] at hc; omega
      · rw [if_neg h1] at hc
        refine ⟨by simpa using h1, ?_⟩
        by_cases h2 : x.2 < x.1
        · rw [if_pos h2] at hc; omega
        · omega
    have hR : setR true l x = if 256 < (setS true l x).length then ([], 6) else (setS true l x, 0) := by
      unfold setR
      rw [if_neg (by rw [hmx.1]; decide), if_neg (by omega)]
    obtain ⟨hn, hn256⟩ := (mayB_iff l).1 hmx.1
    rw [hc] at c0
    by_cases he : x.1 = x.2
    · have hS : setS true l x = l := by unfold setS; rw [if_pos he]
      rw [hR, hS, if_neg (by omega)]
      have hez : (x.1 : Int) = (x.2 : Int) := by omega
      have heb : ((x.1 : Int) == (x.2 : Int)) = true := by simp [hez]
      unfold spV at c0 ⊢
      unfold SetPost
      clear hmx hR hS hn hc hez he
      go_enter Try.func10, Try.ntmps10
      go_upto_region 1 with fail
      rw [← HW.out]
      go_wp2_with fail
      refine c0.mono ?_
      rintro e w2 ⟨rfl, hb⟩
      have hx2 := HX.out.2.1.below hb HX.out.2.1.lt
      have c1 := clone_any (cap := cap) (by omega) ((HX.out.2.2.below hb).mono hb.size)
      have HB := Lib.hid (HX.out.1.trans (hb.mono HX.out.1.size))
      clear x0 x1
      have y0 := hx2.cell 0
      have y1 := hx2.cell 1
      simp only [List.getElem?_toArray, List.getElem?_cons_zero, List.getElem?_cons_succ] at y0 y1
      clear hx2 hb
      go_wp2_with fail
      refine c1.mono ?_
      rintro e w3 ⟨v, rfl, ho, hb3⟩
      obtain ⟨A3, c3, rfl, ha⟩ := ho.spAt
      have c4 := told_ok (w := w3) (A := A3) (cap := c3) l.length hn256
      have HA := Lib.hid (And.intro ha (HB.out.trans (hb3.mono HB.out.size)))
      clear y0 y1 ho ha hb3 c1
      go_wp2_with fail
      refine c4.mono ?_
      rintro e w4 ⟨rfl, rfl⟩
      go_wp2
      go_ret2
      exact ⟨A3, c3, rfl, HA.out.1, HA.out.2⟩
    · have hS : setS true l x = joinS l x := by unfold setS; rw [if_neg he, if_pos rfl]
      rw [hS] at hR
      have hlt : x.1 < x.2 := by omega
      have hez : ¬ (x.1 : Int) = (x.2 : Int) := by omega
      have heb : ((x.1 : Int) == (x.2 : Int)) = false := by simp [hez]
      obtain ⟨i0, hi, h0, h1, h2⟩ := infoSp_parts
      unfold spV at c0 ⊢
      have HR := Lib.hid (And.intro hR (And.intro hn hlt))
      clear hmx hR hS hn hc hez he hlt
      have Hi := Lib.hid hi
      clear hi
      have H0 := Lib.hid h0
      clear h0
      have H1 := Lib.hid h1
      clear h1
      have H2 := Lib.hid h2
      clear h2
      go_enter Try.func10, Try.ntmps10
      go_upto_region 1 with fail
      rw [← HW.out]
      go_wp2_with fail
      refine c0.mono ?_
      rintro e w2 ⟨rfl, hb⟩
      have hx2 := HX.out.2.1.below hb HX.out.2.1.lt
      have hI2 := (HX.out.2.2.below hb).mono hb.size
      have HB := Lib.hid (HX.out.1.trans (hb.mono HX.out.1.size))
      clear x0 x1 c0
      have y0 := hx2.cell 0
      have y1 := hx2.cell 1
      simp only [List.getElem?_toArray, List.getElem?_cons_zero, List.getElem?_cons_succ] at y0 y1
      have hclone : ∀ W, Below w2.heap.size w2 W → Calls Try.prog 26 #[.slice A l.length cap] W fun e w' => ∃ v, e = .returned v ∧ OwnL w2.heap.size w' v l ∧ Below w2.heap.size w2 w' ∧ Below W.heap.size W w' ∧ w'.cell? ⟨w.heap.size, 0, none⟩ = some (.int .u64 (x.1 : Int)) ∧ w'.cell? ⟨w.heap.size, 1, none⟩ = some (.int .u64 (x.2 : Int)) := fun W hbw => (clone_any (cap := cap) (by omega) ((hI2.below hbw).mono hbw.size)).mono fun e w' ⟨v, h1, h2, h3⟩ => ⟨v, h1, h2.more hbw.size, hbw.trans (h3.mono hbw.size), h3, (Below.cell (p := ⟨w.heap.size, 0, none⟩) (hbw.trans (h3.mono hbw.size)) hx2.lt).trans y0, (Below.cell (p := ⟨w.heap.size, 1, none⟩) (hbw.trans (h3.mono hbw.size)) hx2.lt).trans y1⟩
      have HC := Lib.hid hclone
      have HL := Lib.hid hx2.lt
      have CF1 := Lib.hid (show ∀ (vals : Array Value) (w : World), (callFunc 26 vals).run Try.prog w = .ok (.enter 26 vals) w from fun _ _ => by kernel_rfl)
      have CF2 := Lib.hid (show ∀ (vals : Array Value) (w : World), (callFunc 27 vals).run Try.prog w = .ok (.enter 27 vals) w from fun _ _ => by kernel_rfl)
      clear hx2 hb hI2 hclone
      go_upto_region 6 with fail
      go_cut [31, 32, 33] from 26 to 33 (fun L n i wx => ∃ g c Ls, L = .slice (some ⟨g, 0, none⟩) Ls.length c ∧ n = .int .i64 (Ls.length : Int) ∧ i = .int .i64 0 ∧ Hid (Ls.length = l.length + 1 ∧ (∀ q, q ∈ Ls ↔ q ∈ l ++ [x]) ∧ Ls.Pairwise (fun a b => a.1 ≤ b.1) ∧ SpAt wx.heap.size wx (some ⟨g, 0, none⟩) Ls ∧ Below w2.heap.size w2 wx))
      case first =>
        go_region_law (first
          | (refine step_call rfl 26 _ _ rfl CF1.out _ ?hv (HC.out _ ?hbx) ?_
             case hv => (simp only [List.map_toArray, List.map_cons, List.map_nil]; rfl)
             case hbx => first | exact Below.refl _ _ | exact Below.drew (Below.refl _ _) | exact Below.alloc (Below.drew (Below.refl _ _)) (Nat.le_refl _) _
             rintro e wc ⟨v, rfl, hov, hbc, hbd, z0, z1⟩
             refine ⟨v, rfl, ?_⟩)
          | (refine step_app1 rfl (.tmp 27) (.tmp 29) rfl _ l x rfl (hov.below ((Below.refl _ _).alloc (Nat.le_refl _) _)) (hbc.alloc hbc.size _) (Nat.le_trans hbc.size (by simp)) _ rfl (Blk.new _ _ _) (by omega) ?_
             intro A3 c3 wp hop hbp
             clear hov hbc hbd z0 z1)
          | (obtain ⟨A4, c4, e4, hs4⟩ := hop.spAt
             injection e4 with e41 e42 e43
             subst e41 e43
             clear e42
             have cs := sorted_any A3 c3 (l ++ [x]) _ (by simp only [List.length_append, List.length_cons, List.length_nil]; omega) (by simp) hs4
             rw [List.length_append, List.length_cons, List.length_nil, Nat.zero_add] at cs
             refine step_call rfl 27 _ _ rfl CF2.out _ ?hv cs ?_
             case hv => (simp only [List.map_toArray, List.map_cons, List.map_nil]; rfl)
             clear cs
             rintro e wq ⟨g, c, Ls, rfl, r1, r2, r3, r4, r5, r6⟩
             have HQ := Lib.hid (And.intro r1 (And.intro r2 (And.intro r3 (And.intro r5 (hbp.trans (r6.mono hbp.size))))))
             clear r1 r2 r3 r4 r5 r6 hs4 hop hbp
             refine ⟨_, rfl, ?_⟩)
          | (refine step_app1 rfl (.tmp 27) (.tmp 29) rfl _ l x rfl hov hbc hbc.size _ rfl ((blk_new_drew _ _ _).below hbd (by simp)) (by omega) ?_
             intro A3 c3 wp hop hbp
             clear hov hbc hbd z0 z1))
        all_goals
          go_wp2_with fail
          go_meet
          exact ⟨_, _, _, rfl, rfl, rfl, Lib.hid ⟨by simpa using HQ.out.1, HQ.out.2⟩⟩
      case rest =>
        clear y0 y1 CF1 CF2 HC
        obtain ⟨g, c, Ls, rfl, rfl, rfl, HQ⟩ := hcut
        have hLs : Ls.length ≤ 900001 := by have := HQ.out.1; omega
        have hLz : (Ls.length : Int) ≤ 900001 := by omega
        have hlt : ∀ q ∈ Ls, q.1 < q.2 := fun q hq => by
          rcases List.mem_append.1 ((HQ.out.2.1 q).1 hq) with h | h
          · exact HR.out.2.1.lt q h
          · rw [List.mem_singleton.1 h]; exact HR.out.2.2
        have HT := Lib.hid hlt
        clear hlt
        go_wp2
        go_loopw [4, 33] (fun out i wr => ∃ (k n : Nat) (A' : Option Addr) (c' : Nat) (o : List Sp), out = .slice A' n c' ∧ i = .int .i64 k ∧ k ≤ Ls.length ∧ Hid (n = o.length ∧ InvA (Ls.take k) o ∧ OwnL wc.heap.size wr (.slice A' n c') o ∧ Below wc.heap.size wc wr)) (fun _ i _ => Ls.length - (intOf i).toNat)
        case atStart => exact ⟨0, 0, none, 0, [], rfl, rfl, Nat.zero_le _, Lib.hid ⟨rfl, invA_nil, OwnL.nil _ _, Below.refl _ _⟩⟩
        case round =>
          obtain ⟨k, n, A', c', o, rfl, rfl, hk, HO⟩ := hrel
          by_cases h1 : k < Ls.length
          · have h1z : (k : Int) < (Ls.length : Int) := by omega
            have k0 : (0 : Int) ≤ (k : Int) := by omega
            obtain ⟨b, off, eA, -, r1, r2⟩ := (HQ.out.2.2.2.1.below HO.out.2.2.2).at_ h1
            injection eA with eA
            injection eA with e1 e2
            subst e1 e2
            rw [Nat.zero_add] at r1 r2
            have htk : Ls.take k ++ [Ls[k]] = Ls.take (k + 1) := List.take_append_getElem h1
            have hy := HT.out _ (List.getElem_mem h1)
            have hpr : ∀ r ∈ Ls.take k, r.1 ≤ Ls[k].1 := fun r hr => by
              obtain ⟨i, hi, rfl⟩ := List.mem_iff_getElem.1 hr
              rw [List.length_take] at hi
              rw [List.getElem_take]
              exact List.pairwise_iff_getElem.1 HQ.out.2.2.1 i k (by omega) h1 (by omega)
            have hlen := HO.out.2.1.len
            rw [List.length_take] at hlen
            obtain ⟨y, ey⟩ : ∃ y, y = Ls[k] := ⟨_, rfl⟩
            rw [← ey] at r1 r2 htk hy hpr
            obtain ⟨W4, hW4⟩ : ∃ W4, W4 = wr.alloc (.cells #[.int .u64 (y.1 : Int), .int .u64 (y.2 : Int)] 25) := ⟨_, rfl⟩
            have hyb : Blk W4 wr.heap.size 25 #[.int .u64 (y.1 : Int), .int .u64 (y.2 : Int)] := by rw [hW4]; exact Blk.new _ _ _
            have hb4 : Below wr.heap.size wr W4 := by rw [hW4]; exact (Below.refl _ _).alloc (Nat.le_refl _) _
            have ho4 := HO.out.2.2.1.below hb4
            have hB4 := HO.out.2.2.2.trans (hb4.mono HO.out.2.2.2.size)
            have z0 := hyb.cell 0
            have z1 := hyb.cell 1
            simp only [List.getElem?_toArray, List.getElem?_cons_zero, List.getElem?_cons_succ] at z0 z1
            have HY := Lib.hid (And.intro htk (And.intro hy (And.intro hpr (And.intro hyb hB4))))
            have HW4 := Lib.hid hW4
            clear htk hy hpr hyb hB4 ey hW4 hb4
            rcases snoc_or o with rfl | ⟨o', q, rfl⟩
            · obtain rfl : n = 0 := HO.out.1
              have HO4 := Lib.hid ho4
              clear ho4
              go_upto_region 9 with fail
              rw [← HW4.out]
              go_upto_region 10 with fail
              go_quiet (fail)
              go_wp2_with (at_builtin; refine wpList_app1 (W0 := wc) rfl _ _ rfl _ [] y rfl (OwnL.below (show OwnL _ (World.drewN _ _) _ _ from HO4.out) ((Below.refl _ _).alloc (Nat.le_refl _) _)) ((below_drewN HY.out.2.2.2.2 _).alloc HY.out.2.2.2.2.size _) (by have := HY.out.2.2.2.2.size; simp; omega) _ rfl (Blk.new _ _ _) (by simp) ?_; intro A5 c5 w5 ho5 hb5; have H5 := Lib.hid (And.intro ho5 hb5); clear ho5 hb5)
              go_roundw
              case rel => exact ⟨k + 1, 1, A5, c5, [y], rfl, by go_num, h1, Lib.hid ⟨rfl, by have := HO.out.2.1.empty HY.out.2.1 (fun q hq => by cases hq); rwa [HY.out.1] at this, H5.out.1, H5.out.2⟩⟩
              case measure => simp [intOf]; omega
            · have hno : n = o'.length + 1 := by have := HO.out.1; simpa using this
              obtain ⟨g', rfl⟩ := ho4.some_ (by simp)
              obtain ⟨j, ej⟩ : ∃ j, j = o'.length := ⟨_, rfl⟩
              have en : (n : Int) - 1 = (j : Int) := by omega
              have j0 : (0 : Int) ≤ (j : Int) := by omega
              have j1 : (j : Int) < (n : Int) := by omega
              have jm : (j : Int) ≤ 900001 := by
                have h := HO.out.2.1.len
                rw [List.length_take, List.length_append] at h
                omega
              have z2 := ho4.to_
              have hlast := ho4.last hno
              rw [← ej] at z2 hlast
              by_cases hq : y.1 ≤ q.2
              · have hqz : (y.1 : Int) ≤ (q.2 : Int) := by omega
                obtain ⟨m, em⟩ : ∃ m, m = max q.2 y.2 := ⟨_, rfl⟩
                have emz : max (q.2 : Int) (y.2 : Int) = (m : Int) := by omega
                have fz := (hlast m).2.1
                have HL4 := Lib.hid (And.intro (hlast m) (And.intro hno (And.intro ej (And.intro hq em))))
                clear ho4 hlast hno ej hq em
                go_upto_region 9 with fail
                rw [← HW4.out]
                go_upto_region 10 with fail
                go_quiet (fail)
                go_upto_region 11 with fail
                obtain ⟨W5, hW5⟩ : ∃ W5, W5 = W4.drewN nq := ⟨_, rfl⟩
                rw [← hW5]
                have z15 : W5.cell? ⟨wr.heap.size, 1, none⟩ = some (.int .u64 (y.2 : Int)) := by rw [hW5]; exact z1
                have z25 : W5.cell? ⟨g', j * 2 + 1, none⟩ = some (.int .u64 (q.2 : Int)) := by rw [hW5]; exact z2
                have fz5 : W5.frozen? ⟨g', j * 2 + 1, none⟩ = false := by rw [hW5]; exact fz
                have HW5 := Lib.hid hW5
                clear hW5 z0 z1 z2 fz
                go_still_tail 12, (by kernel_rfl)
                go_wp2
                go_roundw
                case rel => exact ⟨k + 1, n, some ⟨g', 0, none⟩, c', o' ++ [(q.1, m)], rfl, by go_num, h1, Lib.hid ⟨by rw [HL4.out.2.1]; simp, by have := HO.out.2.1.join HY.out.2.1 HY.out.2.2.1 HL4.out.2.2.2.1; rw [HY.out.1, ← HL4.out.2.2.2.2] at this; exact this, by rw [HW5.out]; exact HL4.out.1.1, by rw [HW5.out]; exact Below.setCell (Below.drew (below_drewN HY.out.2.2.2.2 _)) (p := ⟨g', j * 2 + 1, none⟩) HL4.out.1.2.2.1 _⟩⟩
                case measure => simp [intOf]; omega
              · have hqz : ¬ (y.1 : Int) ≤ (q.2 : Int) := by omega
                have HO4 := Lib.hid (And.intro ho4 (And.intro hno (And.intro ej hq)))
                clear ho4 hlast hno ej hq
                go_upto_region 9 with fail
                rw [← HW4.out]
                go_upto_region 10 with fail
                go_quiet (fail)
                have hol : (o' ++ [q]).length ≤ 1000000 := by have := HO.out.2.1.len; rw [List.length_take] at this; omega
                have HOL := Lib.hid hol
                clear hol hlen
                go_wp2_with (at_builtin; refine wpList_app1 (W0 := wc) rfl _ _ rfl _ (o' ++ [q]) y rfl (OwnL.below (show OwnL _ (World.drewN _ _) _ _ from HO4.out.1) ((Below.refl _ _).alloc (Nat.le_refl _) _)) ((below_drewN HY.out.2.2.2.2 _).alloc HY.out.2.2.2.2.size _) (by have := HY.out.2.2.2.2.size; simp; omega) _ rfl (Blk.new _ _ _) HOL.out ?_; intro A5 c5 w5 ho5 hb5; have H5 := Lib.hid (And.intro ho5 hb5); clear ho5 hb5)
                go_roundw
                case rel =>
                  have H6 : OwnL wc.heap.size w5 (.slice A5 (o'.length + 1 + 1) c5) (o' ++ [q] ++ [y]) := by have := H5.out.1; rwa [List.length_append, List.length_cons, List.length_nil, Nat.zero_add] at this
                  exact ⟨k + 1, _, A5, c5, (o' ++ [q]) ++ [y], rfl, by go_num, h1, Lib.hid ⟨H6.at_.2, by have := HO.out.2.1.empty HY.out.2.1 (fun r hr => by have hn := ((norm_snoc _ _).1 HO.out.2.1.norm); rcases List.mem_append.1 hr with hr | hr; (· have h1 := hn.2.2 r hr; have h2 := hn.2.1; have h3 := HO4.out.2.2.2; omega); (· rw [List.mem_singleton.1 hr]; have h3 := HO4.out.2.2.2; omega)); rwa [HY.out.1] at this, H6, H5.out.2⟩⟩
                case measure => simp [intOf]; omega
          · obtain rfl : k = Ls.length := by omega
            have h1z : ¬ (Ls.length : Int) < (Ls.length : Int) := by omega
            have hd := HO.out.2.1
            rw [List.take_length] at hd
            have hd := hd.done HR.out.2.1 HR.out.2.2 HQ.out.2.1
            have hR := HR.out.1
            rw [← hd] at hR
            have hn1 := HO.out.1
            have ha := HO.out.2.2.1.at_.1
            have hB := HB.out.trans (HQ.out.2.2.2.2.mono HB.out.size)
            have hB := hB.trans (HO.out.2.2.2.mono hB.size)
            by_cases h256 : n ≤ 256
            · rw [if_neg (by omega)] at hR
              have c4 := told_ok (w := wr) (A := A') (cap := c') n h256
              have HA := Lib.hid (And.intro ha (And.intro hB (And.intro hR hn1)))
              clear ha hB hR hn1 hd h256
              go_wp2_with fail
              refine c4.mono ?_
              rintro e w4 ⟨rfl, rfl⟩
              clear c4
              go_wp2
              go_ret2
              show SetPost _ _ _ _
              rw [HA.out.2.2.1]
              exact ⟨A', c', by rw [HA.out.2.2.2]; rfl, HA.out.1, HA.out.2.1⟩
            · rw [if_pos (by omega)] at hR
              have c4 := told_full (w := wr) (A := A') (cap := c') n (by omega)
              have HA := Lib.hid (And.intro hB hR)
              clear ha hB hR hn1 hd h256
              go_wp2_with fail
              refine c4.mono ?_
              rintro e w4 ⟨rfl, rfl⟩
              clear c4
              go_wp2
              go_ret2
              show SetPost _ _ _ _
              rw [HA.out.2]
              exact ⟨none, 0, rfl, .inl rfl, HA.out.1⟩
  · have hR : setR true l x = ([], checkE l x) := by
      unfold setR
      unfold checkE at hc ⊢
      by_cases h1 : mayB l = false
      · rw [if_pos h1, if_pos h1]
      · rw [if_neg h1] at hc ⊢
        rw [if_neg h1]
        by_cases h2 : x.2 < x.1
        · rw [if_pos h2, if_pos h2]
        · rw [if_neg h2] at hc; exact absurd rfl hc
    rw [hR]
    obtain ⟨ec, hec⟩ : ∃ ec, ec = checkE l x := ⟨_, rfl⟩
    rw [← hec] at c0 hc ⊢
    have hcz : ¬ (ec : Int) = 0 := by omega
    have hcb : ((ec : Int) != 0) = true := by simp only [bne_iff_ne, ne_eq]; exact hcz
    unfold spV at c0 ⊢
    unfold SetPost
    clear hec hc hR
    go_enter Try.func10, Try.ntmps10
    go_upto_region 1 with fail
    rw [← HW.out]
    go_wp2_with fail
    refine c0.mono ?_
    rintro e w2 ⟨rfl, hb⟩
    have hB := HX.out.1.trans (hb.mono HX.out.1.size)
    clear x0 x1
    go_wp2
    go_ret2
    exact ⟨none, 0, rfl, .inl rfl, hB⟩
end
end Go.Proofs.Ytnnpahjopfkchaa
