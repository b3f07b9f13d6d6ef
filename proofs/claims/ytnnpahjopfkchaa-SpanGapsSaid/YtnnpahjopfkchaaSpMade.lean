/- transomref02.made. -/
import Derived.Test.YtnnpahjopfkchaaSpMadeP
import Derived.Deep.RegionLaw
import Derived.StillTailTactics
import Derived.IntWalk
set_option linter.unusedVariables false
set_option linter.unusedSimpArgs false
namespace Go.Proofs.Ytnnpahjopfkchaa
open Go.RowKit Go.BigFrame

def MadePost (w : World) (L : List Sp) (e : Ending) (w' : World) : Prop :=
  ∃ A' c', e = .returned (.slice A' L.length c') ∧ SpAt w'.heap.size w' A' L ∧ Below w.heap.size w w'
section
variable {w : World} {A : Option Addr} {l : List Sp} {cap : Nat}
set_option maxRecDepth 100000 in
set_option maxHeartbeats 8000000 in
theorem made_any (add : Bool) (x : Sp) (hn : Norm l) (hxx : x.1 ≤ x.2) (hm : l.length ≤ 1000) (hI : SpAt w.heap.size w A l) : Calls Try.prog 29 #[.slice A l.length cap, spV x, .bool add] w (MadePost w (setS add l x)) := by
  obtain ⟨w1, hw1⟩ : ∃ w1, w1 = w.alloc (.cells #[.int .u64 (x.1 : Int), .int .u64 (x.2 : Int)] 25) := ⟨_, rfl⟩
  have hB1 : Below w.heap.size w w1 := by rw [hw1]; exact (Below.refl _ w).alloc (Nat.le_refl _) _
  have hx : Blk w1 w.heap.size 25 #[.int .u64 (x.1 : Int), .int .u64 (x.2 : Int)] := by rw [hw1]; exact Blk.new _ _ _
  have hI1 := (hI.below hB1).mono hB1.size
  have c0 := ends_any (cap := cap) x hm hI1
  have lm : (l.length : Int) ≤ 1000 := by omega
  have x0 := hx.cell 0
  have x1 := hx.cell 1
  simp only [List.getElem?_toArray, List.getElem?_cons_zero, List.getElem?_cons_succ] at x0 x1
  have HW := Lib.hid hw1
  have HX := Lib.hid (And.intro hB1 (And.intro hx (And.intro hI1 (And.intro hn hxx))))
  clear hw1 hB1 hx hI1 hI hn hxx
  unfold spV at c0 ⊢
  go_enter Try.func29, Try.ntmps29
  go_upto_region 1 with fail
  rw [← HW.out]
  go_wp2_with fail
  refine c0.mono ?_
  rintro e w2 ⟨p, Ap, cp, hE, rfl, hp, hb⟩
  have hpl : p.length ≤ 2002 := by have := hE.len; simp at this; omega
  have hp0 : 0 < p.length := List.length_pos_of_mem (hE.from_ (q := x) (by simp)).1
  have hplz : (p.length : Int) ≤ 2002 := by omega
  have HX2 := Lib.hid (And.intro (HX.out.2.1.below hb HX.out.2.1.lt) (And.intro ((HX.out.2.2.1.below hb).mono hb.size) (And.intro hp (And.intro hE (HX.out.1.trans (hb.mono HX.out.1.size))))))
  have hxl : w.heap.size < w2.heap.size := Nat.lt_of_lt_of_le HX.out.2.1.lt hb.size
  have HXL := Lib.hid hxl
  clear x0 x1 c0 hE hp hb hxl
  go_wp2
  go_loopw [8, 9] (fun out i wr => ∃ (k m : Nat) (A' : Option Addr) (c' : Nat) (o : List Sp), out = .slice A' m c' ∧ i = .int .i64 k ∧ k + 1 ≤ p.length ∧ Hid (m = o.length ∧ InvM add l x p k o ∧ OwnL w2.heap.size wr (.slice A' m c') o ∧ Below w2.heap.size w2 wr)) (fun _ i _ => p.length - (intOf i).toNat)
  case atStart => exact ⟨0, 0, none, 0, [], rfl, rfl, hp0, Lib.hid ⟨rfl, invM_nil, OwnL.nil _ _, Below.refl _ _⟩⟩
  case round =>
    obtain ⟨k, m, A', c', o, rfl, rfl, hk, HO⟩ := hrel
    by_cases h1 : k + 1 < p.length
    · have h1z : (k : Int) + 1 < (p.length : Int) := by omega
      have k0 : (0 : Int) ≤ (k : Int) := by omega
      have k1 : (0 : Int) ≤ (k : Int) + 1 := by omega
      have k2 : (k : Int) < (p.length : Int) := by omega
      obtain ⟨b, off, rfl, hb, r1⟩ := (HX2.out.2.2.1.below HO.out.2.2.2).at_ (j := k) (by omega)
      obtain ⟨b', off', eb, -, r2⟩ := (HX2.out.2.2.1.below HO.out.2.2.2).at_ (j := k + 1) h1
      injection eb with eb
      injection eb with e1 e2
      subst e1 e2
      rw [← pn_get p (by omega)] at r1 r2
      have hx2 := HX2.out.1.below HO.out.2.2.2 HXL.out
      have x0 := hx2.cell 0
      have x1 := hx2.cell 1
      simp only [List.getElem?_toArray, List.getElem?_cons_zero, List.getElem?_cons_succ] at x0 x1
      have hsk := HO.out.2.1.skip HX2.out.2.2.2.1.sorted h1
      have hnw := HO.out.2.1.new HX2.out.2.2.2.1.sorted h1
      have hjo := fun (o' : List Sp) (q : Sp) (e : o = o' ++ [q]) => InvM.join (o := o') (q := q) (by have := HO.out.2.1; rwa [e] at this) HX2.out.2.2.2.1.sorted h1
      obtain ⟨v, ev⟩ : ∃ v, v = pn p k := ⟨_, rfl⟩
      obtain ⟨v', ev'⟩ : ∃ v', v' = pn p (k + 1) := ⟨_, rfl⟩
      rw [← ev] at r1 hsk hnw hjo
      rw [← ev'] at r2 hnw hjo
      obtain ⟨hc, hcv, ch⟩ := rhas_any (cap := cap) v (by omega : l.length ≤ 1000000) ((HX2.out.2.1.below HO.out.2.2.2).mono HO.out.2.2.2.size)
      have HH := Lib.hid (And.intro hsk (And.intro hnw (And.intro hjo hcv)))
      have HC := Lib.hid ch
      have EV := Lib.hid ev
      clear hsk hnw hjo hcv ch ev ev' hx2
      have hol : o.length ≤ 2002 := by have := HO.out.2.1.len; omega
      have HOL := Lib.hid hol
      clear hol
      obtain ⟨F, hF⟩ : ∃ F, F = decide (x.1 ≤ v ∧ v < x.2) := ⟨_, rfl⟩
      have HF := Lib.hid hF
      clear hF
      go_upto_region 6 with fail
      go_cut [10] from 21 to 36 (fun f wx => f = .bool F ∧ ∃ q, wr.drewN q = wx)
      case first =>
        by_cases h2 : x.1 ≤ v
        · have h2z : (x.1 : Int) ≤ (v : Int) := by omega
          by_cases h3 : v < x.2
          · have h3z : (v : Int) < (x.2 : Int) := by omega
            have hFv : F = true := by rw [HF.out]; exact decide_eq_true (And.intro h2 h3)
            have HFv := Lib.hid hFv
            clear hFv
            clear h2 h3
            go_quiet (fail)
            go_wp2_with fail
            go_meet
            exact ⟨congrArg Value.bool HFv.out.symm, _, rfl⟩
          · have h3z : ¬ (v : Int) < (x.2 : Int) := by omega
            have hFv : F = false := by rw [HF.out]; exact decide_eq_false (fun h => h3 h.2)
            have HFv := Lib.hid hFv
            clear hFv
            clear h2 h3
            go_quiet (fail)
            go_wp2_with fail
            go_meet
            exact ⟨congrArg Value.bool HFv.out.symm, _, rfl⟩
        · have h2z : ¬ (x.1 : Int) ≤ (v : Int) := by omega
          have hFv : F = false := by rw [HF.out]; exact decide_eq_false (fun h => h2 h.1)
          have HFv := Lib.hid hFv
          clear hFv
          clear h2
          go_quiet (fail)
          go_wp2_with fail
          go_meet
          exact ⟨congrArg Value.bool HFv.out.symm, _, rfl⟩
      case rest =>
        obtain ⟨rfl, nq, hw⟩ := hcut
        obtain ⟨W5, hW5⟩ : ∃ W5, W5 = wr.drewN nq := ⟨_, rfl⟩
        rw [← hw, ← hW5]
        have s1 : W5.cell? ⟨b, off + k, none⟩ = some (.int .u64 (v : Int)) := by rw [hW5]; exact r1
        have s2 : W5.cell? ⟨b, off + (k + 1), none⟩ = some (.int .u64 (v' : Int)) := by rw [hW5]; exact r2
        have ch : Calls Try.prog 17 #[.slice A l.length cap, .int .u64 (v : Int)] W5 fun e w' => e = .returned (.bool hc) ∧ W5 = w' := by
          obtain ⟨hc2, h5, h6⟩ := rhas_any (w := W5) (cap := cap) v (by omega : l.length ≤ 1000000) (by rw [hW5]; exact (HX2.out.2.1.below HO.out.2.2.2).mono HO.out.2.2.2.size)
          have : hc2 = hc := by
            have a := h5.trans HH.out.2.2.2.symm
            cases hc <;> cases hc2 <;> simp_all
          rw [this] at h6
          exact h6
        have ho5 : OwnL w2.heap.size W5 (.slice A' m c') o := by rw [hW5]; exact HO.out.2.2.1
        have hb5 : Below w2.heap.size w2 W5 := by rw [hW5]; exact below_drewN HO.out.2.2.2 _
        have H5 := Lib.hid (And.intro ho5 hb5)
        clear hw hW5 r1 r2 x0 x1 ho5 hb5 HC
        obtain ⟨G, hG⟩ : ∃ G, G = (!((hc && (add || !F)) || (add && F))) := ⟨_, rfl⟩
        have hGw : G = false ↔ want add l x v := by
          rw [hG, Bool.not_eq_false', Bool.or_eq_true, Bool.and_eq_true, Bool.and_eq_true, Bool.or_eq_true, Bool.not_eq_true', HF.out, decide_eq_true_iff, decide_eq_false_iff_not, HH.out.2.2.2]
          rfl
        have HG := Lib.hid (And.intro hG hGw)
        clear hG hGw
        go_upto_region 7 with fail
        go_cut [56] from 37 to 56 (fun f wx => f = .bool G ∧ W5 = wx)
        case first =>
          cases hc <;> cases add <;> cases F
          all_goals
            go_wp2_with fail
            refine ch.mono ?_
            rintro e w9 ⟨rfl, rfl⟩
            go_wp2_with fail
            go_meet
            exact ⟨congrArg Value.bool HG.out.1.symm, rfl⟩
        case rest =>
          obtain ⟨rfl, rfl⟩ := hcut
          clear ch
          cases G with
          | true =>
            go_wp2
            go_roundw
            case rel => exact ⟨k + 1, m, A', c', o, rfl, by go_num, h1, Lib.hid ⟨HO.out.1, HH.out.1 (fun hw => by have := HG.out.2.2 hw; cases this), H5.out.1, H5.out.2⟩⟩
            case measure => simp [intOf]; omega
          | false =>
            have hw := HG.out.2.1 rfl
            have k3 : IntKind.i64.wrap ((k : Int) + 1) = (k : Int) + 1 := IntWalk.i64_in _ (by omega)
            have kt : ((k : Int) + 1).toNat = k + 1 := by omega
            have Hw := Lib.hid hw
            clear hw
            obtain ⟨ot, hot⟩ : ∃ ot, ot = o := ⟨_, rfl⟩
            have hcase : (m = 0 ∧ o = []) ∨ (∃ g' j o' q, A' = some ⟨g', 0, none⟩ ∧ m = j + 1 ∧ j = o'.length ∧ o = o' ++ [q] ∧ W5.cell? ⟨g', j * 2 + 1, none⟩ = some (.int .u64 (q.2 : Int))) := by
              rcases snoc_or o with e | ⟨o', q, e⟩
              · exact .inl ⟨by rw [HO.out.1, e]; rfl, e⟩
              · have h := H5.out.1
                rw [e] at h
                obtain ⟨g', eA⟩ := h.some_ (by simp)
                rw [eA] at h
                exact .inr ⟨g', o'.length, o', q, eA, by rw [HO.out.1, e]; simp, rfl, e, h.to_⟩
            clear hot ot
            rcases hcase with ⟨hm0, ho0⟩ | ⟨g', j, o', q, eA, em, ej, eo, z2⟩
            · subst hm0
              have HE := Lib.hid ho0
              clear ho0
              go_upto_region 8 with fail
              go_quiet (fail)
              go_upto_region 10 with fail
              obtain ⟨W6, hW6⟩ : ∃ W6, W6 = W5.drewN nq := ⟨_, rfl⟩
              rw [← hW6]
              have t1 : W6.cell? ⟨b, off + k, none⟩ = some (.int .u64 (v : Int)) := by rw [hW6]; exact s1
              have t2 : W6.cell? ⟨b, off + (k + 1), none⟩ = some (.int .u64 (v' : Int)) := by rw [hW6]; exact s2
              have ho6 := (show OwnL _ (World.drewN W5 nq) _ _ from H5.out.1)
              rw [← hW6] at ho6
              have hb6 : Below w2.heap.size w2 W6 := by rw [hW6]; exact below_drewN H5.out.2 _
              have H6 := Lib.hid (And.intro ho6 hb6)
              clear hW6 s1 s2 ho6 hb6
              go_region_law (refine step_app1 rfl (.tmp 85) (.tmp 96) rfl _ o (v, v') rfl (OwnL.below H6.out.1 (Below.drew ((Below.refl _ _).alloc (Nat.le_refl _) _))) (Below.drew (H6.out.2.alloc H6.out.2.size _)) (Nat.le_trans H6.out.2.size (by simp)) _ rfl (blk_new_drew _ _ _) (by have := HOL.out; omega) ?_; intro A7 c7 w7 ho7 hb7; have H7 := Lib.hid (And.intro ho7 hb7); clear ho7 hb7)
              all_goals
                go_wp2_with fail
                go_roundw
                case rel => exact ⟨k + 1, _, A7, c7, o ++ [(v, v')], rfl, by go_num, h1, Lib.hid ⟨H7.out.1.at_.2, HH.out.2.1 Hw.out (fun q hq => by rw [HE.out] at hq; cases hq), H7.out.1, H7.out.2⟩⟩
                case measure => simp [intOf]; omega
            · have hjm : j ≤ 2002 := by have := HOL.out; rw [eo, List.length_append] at this; omega
              have j0 : (0 : Int) ≤ (j : Int) := by omega
              have em1 : (m : Int) - 1 = (j : Int) := by omega
              have em2 : (m : Int) > 0 := by omega
              have em4 : 0 < m := by omega
              have j1 : (j : Int) < (m : Int) := by omega
              have jm : (j : Int) ≤ 2002 := by omega
              have em3 : IntKind.i64.wrap ((m : Int) - 1) = (j : Int) := (IntWalk.i64_in _ (by omega)).trans em1
              subst eA
              have HE := Lib.hid (And.intro em (And.intro ej eo))
              clear em ej eo hjm
              by_cases hq : q.2 = v
              · have hqz : (q.2 : Int) = (v : Int) := by omega
                have hqb : ((q.2 : Int) == (v : Int)) = true := by simp [hqz]
                have HQ := Lib.hid hq
                clear hq hqz
                have hl := H5.out.1
                rw [HE.out.2.2] at hl
                have hl := hl.last (by rw [← HE.out.2.1]; exact HE.out.1) v'
                rw [← HE.out.2.1] at hl
                have fz := hl.2.1
                have HL := Lib.hid hl
                clear hl
                go_upto_region 8 with fail
                go_quiet (fail)
                go_wp2
                go_roundw
                case rel => exact ⟨k + 1, m, some ⟨g', 0, none⟩, c', o' ++ [(q.1, v')], rfl, by go_num, h1, Lib.hid ⟨by rw [HE.out.1, HE.out.2.1]; simp, HH.out.2.2.1 o' q HE.out.2.2 Hw.out HQ.out, HL.out.1, (below_drewN H5.out.2 _).setCell (p := ⟨g', j * 2 + 1, none⟩) HL.out.2.2.1 _⟩⟩
                case measure => simp [intOf]; omega
              · have hqz : ¬ (q.2 : Int) = (v : Int) := by omega
                have hqb : ((q.2 : Int) == (v : Int)) = false := by simp [hqz]
                have hne : ∀ r ∈ o, r.2 ≠ v := fun r hr => by
                  have hn := HO.out.2.1.norm
                  have htop := HO.out.2.1.top
                  rw [HE.out.2.2] at hr hn
                  rcases List.mem_append.1 hr with hr | hr
                  · have h1 := ((norm_snoc _ _).1 hn).2.2 r hr
                    have h2 := ((norm_snoc _ _).1 hn).2.1
                    have h3 := htop q (by rw [HE.out.2.2]; simp)
                    have h4 := EV.out
                    omega
                  · rw [List.mem_singleton.1 hr]; exact hq
                have NE1 := Lib.hid hne
                have HQ := Lib.hid hq
                clear hq hqz hne
                go_upto_region 8 with fail
                go_quiet (fail)
                go_upto_region 10 with fail
                obtain ⟨W6, hW6⟩ : ∃ W6, W6 = W5.drewN nq := ⟨_, rfl⟩
                rw [← hW6]
                have t1 : W6.cell? ⟨b, off + k, none⟩ = some (.int .u64 (v : Int)) := by rw [hW6]; exact s1
                have t2 : W6.cell? ⟨b, off + (k + 1), none⟩ = some (.int .u64 (v' : Int)) := by rw [hW6]; exact s2
                have ho6 := (show OwnL _ (World.drewN W5 nq) _ _ from H5.out.1)
                rw [← hW6] at ho6
                have hb6 : Below w2.heap.size w2 W6 := by rw [hW6]; exact below_drewN H5.out.2 _
                have H6 := Lib.hid (And.intro ho6 hb6)
                clear hW6 s1 s2 ho6 hb6
                go_region_law (refine step_app1 rfl (.tmp 85) (.tmp 96) rfl _ o (v, v') rfl (OwnL.below H6.out.1 (Below.drew ((Below.refl _ _).alloc (Nat.le_refl _) _))) (Below.drew (H6.out.2.alloc H6.out.2.size _)) (Nat.le_trans H6.out.2.size (by simp)) _ rfl (blk_new_drew _ _ _) (by have := HOL.out; omega) ?_; intro A7 c7 w7 ho7 hb7; have H7 := Lib.hid (And.intro ho7 hb7); clear ho7 hb7)
                all_goals
                  go_wp2_with fail
                  go_roundw
                  case rel => exact ⟨k + 1, _, A7, c7, o ++ [(v, v')], rfl, by go_num, h1, Lib.hid ⟨H7.out.1.at_.2, HH.out.2.1 Hw.out (fun q hq => NE1.out q hq), H7.out.1, H7.out.2⟩⟩
                  case measure => simp [intOf]; omega
    · have hke : k + 1 = p.length := by omega
      have h1z : ¬ (k : Int) + 1 < (p.length : Int) := by omega
      have hd := HO.out.2.1.done HX2.out.2.2.2.1 hke HX.out.2.2.2.1 HX.out.2.2.2.2
      have HD := Lib.hid hd
      have k0 : (0 : Int) ≤ (k : Int) := by omega
      clear hd hke
      go_wp2
      go_ret
      have ha := HO.out.2.2.1.at_
      have hB := HX2.out.2.2.2.2.trans (HO.out.2.2.2.mono HX2.out.2.2.2.2.size)
      show MadePost _ _ _ _
      rw [← HD.out]
      exact ⟨A', c', congrArg (fun q => Ending.returned (Value.slice A' q c')) HO.out.1, ha.1, hB⟩
end
end Go.Proofs.Ytnnpahjopfkchaa
