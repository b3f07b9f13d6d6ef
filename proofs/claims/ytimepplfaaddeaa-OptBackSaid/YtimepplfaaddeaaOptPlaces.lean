/- Layer 7 (opt): the reference's None, known, Places. -/
import Derived.Test.YtimepplfaaddeaaOptEnc
import Derived.Deep.DeepCutAuto
set_option linter.unusedVariables false
set_option linter.unusedSimpArgs false
namespace Go.Proofs.Ytimepplfaaddeaa
open Go.RowKit Go.BigFrame

theorem known_any (k : Nat) (w : World) (hk : 2 ≤ k) : Calls Try.prog 39 #[.int .i64 (k : Int)] w fun e w' => e = .returned (.bool (metB k)) ∧ w = w' := by
  have j2 : (2 : Int) ≤ (k : Int) := by omega
  by_cases h5 : k ≤ 5
  · have hv : metB k = true := by unfold metB; simp [h5]
    have j5 : (k : Int) ≤ 5 := by omega
    have Hv := Lib.hid hv
    clear hv
    go_enter Try.func39, Try.ntmps39
    go_wp2
    go_ret
    exact ⟨ret_bool Hv.out.symm, rfl⟩
  · have hv : metB k = ((k : Int) == 8) := by
      unfold metB
      rw [Bool.eq_iff_iff]
      simp
      omega
    have j5 : ¬ (k : Int) ≤ 5 := by omega
    have Hv := Lib.hid hv
    clear hv
    clear h5
    go_enter Try.func39, Try.ntmps39
    go_wp2
    go_ret
    exact ⟨ret_bool Hv.out.symm, rfl⟩
/-- what Places asks of all options -/
def goodR (L : List UInt8) : List (Nat × Nat) → List Nat → Bool
  | [], _ => true
  | p :: l, met => !(p.2 == 0) && (!(decide (byteN L p.1 ∈ met) && metB (byteN L p.1)) && goodR L l (byteN L p.1 :: met))
def MetAt (W : World) (g : Nat) (met : List Nat) : Prop := ∃ cs, Blk W g 4 cs ∧ cs.size = 256 ∧ ∀ j, j < 256 → cs[j]? = some (.bool (decide (j ∈ met)))
theorem MetAt.start (w : World) : MetAt (w.alloc (.cells (Array.replicate 256 (.bool false)) 4)) w.heap.size [] :=
  ⟨_, Blk.new _ _ _, by simp, fun j hj => by simp [hj]⟩
theorem MetAt.cell {W : World} {g : Nat} {met : List Nat} (h : MetAt W g met) {j : Nat} (hj : j < 256) : W.cell? ⟨g, j, none⟩ = some (.bool (decide (j ∈ met))) := by
  obtain ⟨cs, h1, _, h2⟩ := h
  rw [h1.cell j, h2 j hj]
theorem MetAt.frozen {W : World} {g : Nat} {met : List Nat} (h : MetAt W g met) (j : Nat) : W.frozen? ⟨g, j, none⟩ = false := by
  obtain ⟨cs, h1, _, h2⟩ := h
  exact h1.frozen j
theorem MetAt.grown {W W' : World} {row : Option Nat} {g : Nat} {met : List Nat} (h : MetAt W g met) (hg : W.grownBy W' row) (hne : row ≠ some g) : MetAt W' g met := by
  obtain ⟨cs, h1, h3, h2⟩ := h
  exact ⟨cs, h1.grown hg (fun e => hne e.symm), h3, h2⟩
theorem MetAt.lt {W : World} {g : Nat} {met : List Nat} (h : MetAt W g met) : g < W.heap.size := by
  obtain ⟨cs, h1, _⟩ := h
  exact h1.lt
theorem MetAt.row_ne {W : World} {g : Nat} {met : List Nat} (h : MetAt W g met) {base n size : Nat} {v : Value} {xs : List Value} (hv : W.ownsRow base 3 size v n xs) : v.ownBlock ≠ some g := by
  obtain ⟨cs, h1, _⟩ := h
  exact own_blk_ne hv h1 (by decide)
theorem MetAt.set {W : World} {g : Nat} {met : List Nat} (h : MetAt W g met) {b : Nat} (hb : b < 256) : MetAt (W.setCell ⟨g, b, none⟩ (.bool true)) g (b :: met) := by
  obtain ⟨cs, h1, h3, h2⟩ := h
  refine ⟨_, h1.set_ b (.bool true), by simpa using h3, fun j hj => ?_⟩
  rw [Array.getElem?_setIfInBounds]
  by_cases e : b = j
  · subst e
    simp [h3, hb]
  · rw [if_neg e, h2 j hj]
    have : j ≠ b := fun h => e h.symm
    simp [this]
def PlacesPost (w : World) (L : List UInt8) (e : Ending) (w' : World) : Prop :=
  if goodR L (placesAt L 0) [] = true then ∃ A c, e = .returned (.tuple #[.slice A (placesAt L 0).length c, .bool true]) ∧ Below w.heap.size w w' ∧ w'.ownsRow w.heap.size 3 1 (.slice A (placesAt L 0).length c) (placesAt L 0).length ((placesAt L 0).map fun p => .int .i64 (p.1 : Int))
  else e = .returned (.tuple #[.slice none 0 0, .bool false]) ∧ Below w.heap.size w w'
theorem infoInt : (Try.prog.info? 3).map (fun i => (i.zero, i.size, i.bytes)) = some (some (.int .i64 0), 1, 8) := by kernel_rfl
set_option maxRecDepth 100000 in
set_option maxHeartbeats 8000000 in
theorem places_any (x : ByteArray) (L : List UInt8) (hx : x.data.toList = L) (hm : L.length ≤ 1000) (w : World) :
    Calls Try.prog 27 #[.string x] w (PlacesPost w L) := by
  have hsz : x.size = L.length := by rw [← hx]; simp
  have hmk : (Instr.makeSlice 73 (.int .i64 256) (.int .i64 256)).run Try.prog w = .ok (.slice (some ⟨w.heap.size, 0, none⟩) 256 256) (w.alloc (.cells (Array.replicate 256 (.bool false)) 4)) := by kernel_rfl
  obtain ⟨gm, hgm⟩ : ∃ g, g = w.heap.size := ⟨_, rfl⟩
  have hM0 := MetAt.start w
  have hB0 : Below w.heap.size w (w.alloc (.cells (Array.replicate 256 (.bool false)) 4)) := (Below.refl _ _).alloc (Nat.le_refl _) _
  rw [← hgm] at hM0 hmk
  generalize hPP : PlacesPost w L = PP
  have hown0 : (w.alloc (.cells (Array.replicate 256 (.bool false)) 4)).ownsRow w.heap.size 3 1 (.slice none 0 0) 0 [] := World.ownsRow_nil _ _ _ _
  have HPP := Lib.hid hPP
  clear hPP
  have Hgm := Lib.hid hgm
  clear hgm
  have HM0 := Lib.hid hM0
  clear hM0
  have HB0 := Lib.hid hB0
  clear hB0
  have Hx := Lib.hid hx
  clear hx
  have Hown0 := Lib.hid hown0
  clear hown0
  go_enter Try.func27, Try.ntmps27
  go_wp2_with fail
  go_loopw [4, 6, 7] (fun v i kd wr => ∃ (k : Nat) (pl : List (Nat × Nat)) (met : List Nat), i = .int .i64 (k : Int) ∧ k ≤ L.length ∧ pl ++ placesAt L k = placesAt L 0 ∧ goodR L (placesAt L k) met = goodR L (placesAt L 0) [] ∧ wr.ownsRow w.heap.size 3 1 v pl.length (pl.map fun p => .int .i64 (p.1 : Int)) ∧ MetAt wr gm met ∧ Below w.heap.size w wr ∧ pl.length ≤ k)
    (fun _ i _ _ => L.length - (intOf i).toNat)
  case atStart => exact ⟨0, [], [], rfl, Nat.zero_le _, rfl, rfl, Hown0.out, HM0.out, HB0.out, Nat.le_refl _⟩
  case round =>
    obtain ⟨k, pl, met, rfl, hk, hp, hg, hv, hM, hB, hpk⟩ := hrel
    obtain ⟨A0, c0, hv0, _⟩ := own_slice hv
    subst hv0
    have hend : placesAt L k = [] → PP (.returned (.tuple #[.slice A0 pl.length c0, .bool true])) wr := by
      intro h
      rw [← HPP.out]
      rw [h] at hg hp
      rw [List.append_nil] at hp
      unfold PlacesPost
      rw [← hg, if_pos (show goodR L [] met = true from rfl), ← hp]
      exact ⟨A0, c0, rfl, hB, hv⟩
    have hbad : goodR L (placesAt L k) met = false → PP (.returned (.tuple #[.slice none 0 0, .bool false])) wr := by
      intro h
      rw [← HPP.out]
      unfold PlacesPost
      rw [← hg, h, if_neg (by simp)]
      exact ⟨rfl, hB⟩
    by_cases h1 : k < L.length
    · have j1 : (k : Int) < (L.length : Int) := by omega
      obtain ⟨b, hbe⟩ : ∃ b, b = byteN L k := ⟨_, rfl⟩
      have hb256 : b < 256 := by rw [hbe]; exact byteN_lt _ _
      have hix := index_at x k (by rw [Hx.out]; exact h1) wr
      rw [Hx.out, ← hbe] at hix
      by_cases hb0 : b = 0
      · have t0 : ((b : Int) == 0) = true := by rw [hb0]; rfl
        have he := hend (places_end (by rw [← hbe, hb0]; simp))
        have He := Lib.hid he
        clear he
        have Hp := Lib.hid hp
        clear hp
        have Hg := Lib.hid hg
        clear hg
        have Hv := Lib.hid hv
        clear hv
        have HM := Lib.hid hM
        clear hM
        have HB := Lib.hid hB
        clear hB
        have Hbad := Lib.hid hbad
        clear hbad
        have Hend := Lib.hid hend
        clear hend
        have Hbe := Lib.hid hbe
        clear hbe
        have Hb0 := Lib.hid hb0
        clear hb0
        go_wp2
        exact He.out
      have t0 : ((b : Int) == 0) = false := by simp; omega
      by_cases hb1 : b = 1
      · have t1 : ((b : Int) == 1) = true := by rw [hb1]; rfl
        have hpl : placesAt L k = placesAt L (k + 1) := places_one h1 (by rw [← hbe, hb1])
        rw [hpl] at hp hg
        have Hp := Lib.hid hp
        clear hp
        have Hg := Lib.hid hg
        clear hg
        have Hv := Lib.hid hv
        clear hv
        have HM := Lib.hid hM
        clear hM
        have HB := Lib.hid hB
        clear hB
        have Hbad := Lib.hid hbad
        clear hbad
        have Hend := Lib.hid hend
        clear hend
        have Hbe := Lib.hid hbe
        clear hbe
        have Hb0 := Lib.hid hb0
        clear hb0
        have Hb1 := Lib.hid hb1
        clear hb1
        have Hpl := Lib.hid hpl
        clear hpl
        go_wp2
        go_roundw
        case rel => exact ⟨k + 1, pl, met, by go_num, by omega, Hp.out, Hg.out, Hv.out, HM.out, HB.out, by omega⟩
        case measure => simp [intOf]; omega
      have t1 : ((b : Int) == 1) = false := by simp; omega
      have hkb0 : byteN L k ≠ 0 := by rw [← hbe]; exact hb0
      have hkb1 : byteN L k ≠ 1 := by rw [← hbe]; exact hb1
      obtain ⟨c, hce⟩ : ∃ c, c = byteN L (k + 1) := ⟨_, rfl⟩
      have hc256 : c < 256 := by rw [hce]; exact byteN_lt _ _
      have hr := right_any b c wr
      have hkn := known_any b wr (by omega)
      have hcm := hM.cell hb256
      by_cases h2 : k + 1 < L.length
      · have j2 : ¬ (L.length : Int) ≤ (k : Int) + 1 := by omega
        have hix2 := fun W => index_at x (k + 1) (by rw [Hx.out]; exact h2) W
        rw [Hx.out, ← hce, show ((k + 1 : Nat) : Int) = (k : Int) + 1 by omega] at hix2
        cases h3 : longB b c with
        | false =>
          have he := hbad (by rw [places_bad h1 hkb0 hkb1 (by unfold stepN; rw [← hbe, ← hce, h3]; simp)]; rfl)
          rw [h3] at hr
          have He := Lib.hid he
          clear he
          have Hp := Lib.hid hp
          clear hp
          have Hg := Lib.hid hg
          clear hg
          have Hv := Lib.hid hv
          clear hv
          have HM := Lib.hid hM
          clear hM
          have HB := Lib.hid hB
          clear hB
          have Hbad := Lib.hid hbad
          clear hbad
          have Hend := Lib.hid hend
          clear hend
          have Hbe := Lib.hid hbe
          clear hbe
          have Hb0 := Lib.hid hb0
          clear hb0
          have Hb1 := Lib.hid hb1
          clear hb1
          have Hkb0 := Lib.hid hkb0
          clear hkb0
          have Hkb1 := Lib.hid hkb1
          clear hkb1
          have Hce := Lib.hid hce
          clear hce
          have Hr := Lib.hid hr
          clear hr
          have Hkn := Lib.hid hkn
          clear hkn
          have H3 := Lib.hid h3
          clear h3
          clear hcm
          go_wp2_with fail
          with_reducible refine Hr.out.mono ?_
          rintro e w2 ⟨rfl, rfl⟩
          go_wp2
          exact He.out
        | true =>
          rw [h3] at hr
          by_cases h4 : k + c ≤ L.length
          · have hst : stepN L k = c := by unfold stepN; rw [← hbe, ← hce, if_pos ⟨h2, h3, h4⟩]
            have hc2 := longB_two h3
            have hpl := places_cons h1 hkb0 hkb1 (by rw [hst]; omega)
            rw [hst] at hpl
            have j4 : ¬ (L.length : Int) < (k : Int) + (c : Int) := by omega
            by_cases hme : b ∈ met
            · rw [decide_eq_true hme] at hcm
              cases hmb : metB b with
              | true =>
                have he := hbad (by rw [hpl]; unfold goodR; rw [← hbe, decide_eq_true hme, hmb]; simp)
                rw [hmb] at hkn
                have He := Lib.hid he
                clear he
                have Hp := Lib.hid hp
                clear hp
                have Hg := Lib.hid hg
                clear hg
                have Hv := Lib.hid hv
                clear hv
                have HM := Lib.hid hM
                clear hM
                have HB := Lib.hid hB
                clear hB
                have Hbad := Lib.hid hbad
                clear hbad
                have Hend := Lib.hid hend
                clear hend
                have Hbe := Lib.hid hbe
                clear hbe
                have Hb0 := Lib.hid hb0
                clear hb0
                have Hb1 := Lib.hid hb1
                clear hb1
                have Hkb0 := Lib.hid hkb0
                clear hkb0
                have Hkb1 := Lib.hid hkb1
                clear hkb1
                have Hce := Lib.hid hce
                clear hce
                have Hr := Lib.hid hr
                clear hr
                have Hkn := Lib.hid hkn
                clear hkn
                have H3 := Lib.hid h3
                clear h3
                have Hst := Lib.hid hst
                clear hst
                have Hpl := Lib.hid hpl
                clear hpl
                have Hme := Lib.hid hme
                clear hme
                have Hmb := Lib.hid hmb
                clear hmb
                go_wp2_with fail
                with_reducible refine Hr.out.mono ?_
                rintro e w2 ⟨rfl, rfl⟩
                go_wp2_with fail
                with_reducible refine Hkn.out.mono ?_
                rintro e w2 ⟨rfl, rfl⟩
                go_wp2
                exact He.out
              | false =>
                have hgn : goodR L (placesAt L (k + c)) (b :: met) = goodR L (placesAt L 0) [] := by
                  rw [← hg, hpl, goodR, ← hbe, hmb]
                  have : (c == 0) = false := by simp; omega
                  simp [this]
                rw [hmb] at hkn
                have Hkn := Lib.hid hkn
                clear hkn
                have Hmb := Lib.hid hmb
                clear hmb
                have Hme := Lib.hid hme
                clear hme
                have fr := hM.frozen b
                have hml := hM.lt
                have hbs : w.heap.size ≤ wr.heap.size := hB.size
                have hgl : w.heap.size ≤ gm := by rw [Hgm.out]; exact Nat.le_refl _
                have hrn := hM.row_ne hv
                have hown2 := (hv.kept (only_set (World.grownBy.refl wr (some gm)) b (.bool true)) (.inr hrn)).alloc (.cells #[.int .i64 (k : Int)] 3)
                have hM2 := (hM.set hb256).grown (World.grownBy_alloc _ (.cells #[.int .i64 (k : Int)] 3) none) (by simp)
                have hB2 := ((hB.setCell (p := ⟨gm, b, none⟩) hgl (.bool true)).alloc (by simpa [World.setCell] using hbs) (.cells #[.int .i64 (k : Int)] 3))
                have hrd : Reads ((wr.setCell ⟨gm, b, none⟩ (.bool true)).alloc (.cells #[.int .i64 (k : Int)] 3)) (wr.heap.size + 1) 1 (some ⟨wr.heap.size, 0, none⟩) 1 [.int .i64 (k : Int)] := by
                  have hbk := Blk.new (wr.setCell ⟨gm, b, none⟩ (.bool true)) 3 #[.int .i64 (k : Int)]
                  rw [show (wr.setCell ⟨gm, b, none⟩ (.bool true)).heap.size = wr.heap.size by simp [World.setCell]] at hbk
                  exact Reads.of_blk hbk (Nat.lt_succ_self _) _ rfl 1 rfl
                obtain ⟨i0, hi0, h0, h1', h22⟩ := info_parts_o infoInt
                have hpp : (pl ++ [(k, c)]) ++ placesAt L (k + c) = placesAt L 0 := by rw [← hp, hpl]; simp
                have hpl60 : pl.length ≤ 1000 := by omega
                have hpost : ∀ v' w', w'.ownsRow w.heap.size 3 1 v' (pl.length + 1) ((pl.map fun p => Value.int .i64 (p.1 : Int)) ++ [.int .i64 (k : Int)]) → ((wr.setCell ⟨gm, b, none⟩ (.bool true)).alloc (.cells #[.int .i64 (k : Int)] 3)).grownBy w' (Value.slice A0 pl.length c0).ownBlock →
                    w'.ownsRow w.heap.size 3 1 v' (pl ++ [(k, c)]).length ((pl ++ [(k, c)]).map fun p => .int .i64 (p.1 : Int)) ∧ MetAt w' gm (b :: met) ∧ Below w.heap.size w w' := by
                  intro v' w' ho hgr
                  refine ⟨?_, hM2.grown hgr hrn, hB2.grown hgr hB2.size (fun q hq => (hv.lt q hq).1)⟩
                  rw [List.length_append, List.map_append]
                  exact ho
                have hszz : w.heap.size ≤ wr.heap.size + 1 := by omega
                have hq4 : k + c ≤ L.length := h4
                have hq2 : 2 ≤ c := hc2
                have Hgn := Lib.hid hgn
                clear hgn
                have Hp := Lib.hid hp
                clear hp
                have Hg := Lib.hid hg
                clear hg
                have Hv := Lib.hid hv
                clear hv
                have HM := Lib.hid hM
                clear hM
                have HB := Lib.hid hB
                clear hB
                have Hbad := Lib.hid hbad
                clear hbad
                have Hend := Lib.hid hend
                clear hend
                have Hbe := Lib.hid hbe
                clear hbe
                have Hb0 := Lib.hid hb0
                clear hb0
                have Hb1 := Lib.hid hb1
                clear hb1
                have Hkb0 := Lib.hid hkb0
                clear hkb0
                have Hkb1 := Lib.hid hkb1
                clear hkb1
                have Hce := Lib.hid hce
                clear hce
                have Hr := Lib.hid hr
                clear hr
                have H3 := Lib.hid h3
                clear h3
                have Hst := Lib.hid hst
                clear hst
                have Hpl := Lib.hid hpl
                clear hpl
                have Hown2 := Lib.hid hown2
                clear hown2
                have HM2 := Lib.hid hM2
                clear hM2
                have HB2 := Lib.hid hB2
                clear hB2
                have Hrd := Lib.hid hrd
                clear hrd
                have Hi0 := Lib.hid hi0
                clear hi0
                have H0 := Lib.hid h0
                clear h0
                have H1' := Lib.hid h1'
                clear h1'
                have H22 := Lib.hid h22
                clear h22
                have Hpp := Lib.hid hpp
                clear hpp
                have Hpost := Lib.hid hpost
                clear hpost
                have Hszz := Lib.hid hszz
                clear hszz
                have Hrn := Lib.hid hrn
                clear hrn
                have Hbs := Lib.hid hbs
                clear hbs
                have Hgl := Lib.hid hgl
                clear hgl
                have Hq4 := Lib.hid hq4
                clear hq4
                have Hq2 := Lib.hid hq2
                clear hq2
                go_wp2_with fail
                with_reducible refine Hr.out.mono ?_
                rintro e w2 ⟨rfl, rfl⟩
                go_wp2_with fail
                with_reducible refine Hkn.out.mono ?_
                rintro e w2 ⟨rfl, rfl⟩
                go_wp2_with (at_builtin; refine wpList_append_any _ rfl _ _ _ rfl w.heap.size 3 i0 _ 1 8 Try.underlying57 Hi0.out H0.out H1'.out H22.out rfl (by decide) _ pl.length _ rfl Hown2.out _ _ 1 1 _ rfl Hrd.out (by intro u hu; simp at hu; subst hu; rfl) (by simp only [maxLen]; omega) (by omega) (by simp; exact Hszz.out) ?_; intro v1 w1 hown1 hg1 hat1; have hp1 := Hpost.out v1 w1 hown1 hg1; have Hp1 := Lib.hid hp1; clear hown1 hg1 hat1 hp1)
                go_roundw
                case rel => exact ⟨k + c, pl ++ [(k, c)], b :: met, by go_num, Hq4.out, Hpp.out, Hgn.out, Hp1.out.1, Hp1.out.2.1, Hp1.out.2.2, by have := Hq2.out; rw [List.length_append, List.length_singleton]; omega⟩
                case measure =>
                  have q4 := Hq4.out
                  have q2 := Hq2.out
                  simp [intOf]
                  omega
            · rw [decide_eq_false hme] at hcm
              have hgn : goodR L (placesAt L (k + c)) (b :: met) = goodR L (placesAt L 0) [] := by
                rw [← hg, hpl, goodR, ← hbe, decide_eq_false hme]
                have : (c == 0) = false := by simp; omega
                simp [this]
              clear hkn
              have Hme := Lib.hid hme
              clear hme
              have fr := hM.frozen b
              have hml := hM.lt
              have hbs : w.heap.size ≤ wr.heap.size := hB.size
              have hgl : w.heap.size ≤ gm := by rw [Hgm.out]; exact Nat.le_refl _
              have hrn := hM.row_ne hv
              have hown2 := (hv.kept (only_set (World.grownBy.refl wr (some gm)) b (.bool true)) (.inr hrn)).alloc (.cells #[.int .i64 (k : Int)] 3)
              have hM2 := (hM.set hb256).grown (World.grownBy_alloc _ (.cells #[.int .i64 (k : Int)] 3) none) (by simp)
              have hB2 := ((hB.setCell (p := ⟨gm, b, none⟩) hgl (.bool true)).alloc (by simpa [World.setCell] using hbs) (.cells #[.int .i64 (k : Int)] 3))
              have hrd : Reads ((wr.setCell ⟨gm, b, none⟩ (.bool true)).alloc (.cells #[.int .i64 (k : Int)] 3)) (wr.heap.size + 1) 1 (some ⟨wr.heap.size, 0, none⟩) 1 [.int .i64 (k : Int)] := by
                have hbk := Blk.new (wr.setCell ⟨gm, b, none⟩ (.bool true)) 3 #[.int .i64 (k : Int)]
                rw [show (wr.setCell ⟨gm, b, none⟩ (.bool true)).heap.size = wr.heap.size by simp [World.setCell]] at hbk
                exact Reads.of_blk hbk (Nat.lt_succ_self _) _ rfl 1 rfl
              obtain ⟨i0, hi0, h0, h1', h22⟩ := info_parts_o infoInt
              have hpp : (pl ++ [(k, c)]) ++ placesAt L (k + c) = placesAt L 0 := by rw [← hp, hpl]; simp
              have hpl60 : pl.length ≤ 1000 := by omega
              have hpost : ∀ v' w', w'.ownsRow w.heap.size 3 1 v' (pl.length + 1) ((pl.map fun p => Value.int .i64 (p.1 : Int)) ++ [.int .i64 (k : Int)]) → ((wr.setCell ⟨gm, b, none⟩ (.bool true)).alloc (.cells #[.int .i64 (k : Int)] 3)).grownBy w' (Value.slice A0 pl.length c0).ownBlock →
                  w'.ownsRow w.heap.size 3 1 v' (pl ++ [(k, c)]).length ((pl ++ [(k, c)]).map fun p => .int .i64 (p.1 : Int)) ∧ MetAt w' gm (b :: met) ∧ Below w.heap.size w w' := by
                intro v' w' ho hgr
                refine ⟨?_, hM2.grown hgr hrn, hB2.grown hgr hB2.size (fun q hq => (hv.lt q hq).1)⟩
                rw [List.length_append, List.map_append]
                exact ho
              have hszz : w.heap.size ≤ wr.heap.size + 1 := by omega
              have hq4 : k + c ≤ L.length := h4
              have hq2 : 2 ≤ c := hc2
              have Hgn := Lib.hid hgn
              clear hgn
              have Hp := Lib.hid hp
              clear hp
              have Hg := Lib.hid hg
              clear hg
              have Hv := Lib.hid hv
              clear hv
              have HM := Lib.hid hM
              clear hM
              have HB := Lib.hid hB
              clear hB
              have Hbad := Lib.hid hbad
              clear hbad
              have Hend := Lib.hid hend
              clear hend
              have Hbe := Lib.hid hbe
              clear hbe
              have Hb0 := Lib.hid hb0
              clear hb0
              have Hb1 := Lib.hid hb1
              clear hb1
              have Hkb0 := Lib.hid hkb0
              clear hkb0
              have Hkb1 := Lib.hid hkb1
              clear hkb1
              have Hce := Lib.hid hce
              clear hce
              have Hr := Lib.hid hr
              clear hr
              have H3 := Lib.hid h3
              clear h3
              have Hst := Lib.hid hst
              clear hst
              have Hpl := Lib.hid hpl
              clear hpl
              have Hown2 := Lib.hid hown2
              clear hown2
              have HM2 := Lib.hid hM2
              clear hM2
              have HB2 := Lib.hid hB2
              clear hB2
              have Hrd := Lib.hid hrd
              clear hrd
              have Hi0 := Lib.hid hi0
              clear hi0
              have H0 := Lib.hid h0
              clear h0
              have H1' := Lib.hid h1'
              clear h1'
              have H22 := Lib.hid h22
              clear h22
              have Hpp := Lib.hid hpp
              clear hpp
              have Hpost := Lib.hid hpost
              clear hpost
              have Hszz := Lib.hid hszz
              clear hszz
              have Hrn := Lib.hid hrn
              clear hrn
              have Hbs := Lib.hid hbs
              clear hbs
              have Hgl := Lib.hid hgl
              clear hgl
              have Hq4 := Lib.hid hq4
              clear hq4
              have Hq2 := Lib.hid hq2
              clear hq2
              go_wp2_with fail
              with_reducible refine Hr.out.mono ?_
              rintro e w2 ⟨rfl, rfl⟩
              go_wp2_with (at_builtin; refine wpList_append_any _ rfl _ _ _ rfl w.heap.size 3 i0 _ 1 8 Try.underlying57 Hi0.out H0.out H1'.out H22.out rfl (by decide) _ pl.length _ rfl Hown2.out _ _ 1 1 _ rfl Hrd.out (by intro u hu; simp at hu; subst hu; rfl) (by simp only [maxLen]; omega) (by omega) (by simp; exact Hszz.out) ?_; intro v1 w1 hown1 hg1 hat1; have hp1 := Hpost.out v1 w1 hown1 hg1; have Hp1 := Lib.hid hp1; clear hown1 hg1 hat1 hp1)
              go_roundw
              case rel => exact ⟨k + c, pl ++ [(k, c)], b :: met, by go_num, Hq4.out, Hpp.out, Hgn.out, Hp1.out.1, Hp1.out.2.1, Hp1.out.2.2, by have := Hq2.out; rw [List.length_append, List.length_singleton]; omega⟩
              case measure =>
                have q4 := Hq4.out
                have q2 := Hq2.out
                simp [intOf]
                omega
          · have he := hbad (by rw [places_bad h1 hkb0 hkb1 (by unfold stepN; rw [← hbe, ← hce, if_neg (fun h => h4 h.2.2)])]; rfl)
            have j4 : (L.length : Int) < (k : Int) + (c : Int) := by omega
            have He := Lib.hid he
            clear he
            have Hp := Lib.hid hp
            clear hp
            have Hg := Lib.hid hg
            clear hg
            have Hv := Lib.hid hv
            clear hv
            have HM := Lib.hid hM
            clear hM
            have HB := Lib.hid hB
            clear hB
            have Hbad := Lib.hid hbad
            clear hbad
            have Hend := Lib.hid hend
            clear hend
            have Hbe := Lib.hid hbe
            clear hbe
            have Hb0 := Lib.hid hb0
            clear hb0
            have Hb1 := Lib.hid hb1
            clear hb1
            have Hkb0 := Lib.hid hkb0
            clear hkb0
            have Hkb1 := Lib.hid hkb1
            clear hkb1
            have Hce := Lib.hid hce
            clear hce
            have Hr := Lib.hid hr
            clear hr
            have Hkn := Lib.hid hkn
            clear hkn
            have H3 := Lib.hid h3
            clear h3
            clear hcm
            go_wp2_with fail
            with_reducible refine Hr.out.mono ?_
            rintro e w2 ⟨rfl, rfl⟩
            go_wp2
            exact He.out
      · have he := hbad (by rw [places_bad h1 hkb0 hkb1 (by unfold stepN; rw [if_neg (fun h => h2 h.1)])]; rfl)
        have j2 : (L.length : Int) ≤ (k : Int) + 1 := by omega
        have He := Lib.hid he
        clear he
        have Hp := Lib.hid hp
        clear hp
        have Hg := Lib.hid hg
        clear hg
        have Hv := Lib.hid hv
        clear hv
        have HM := Lib.hid hM
        clear hM
        have HB := Lib.hid hB
        clear hB
        have Hbad := Lib.hid hbad
        clear hbad
        have Hend := Lib.hid hend
        clear hend
        have Hbe := Lib.hid hbe
        clear hbe
        have Hb0 := Lib.hid hb0
        clear hb0
        have Hb1 := Lib.hid hb1
        clear hb1
        have Hkb0 := Lib.hid hkb0
        clear hkb0
        have Hkb1 := Lib.hid hkb1
        clear hkb1
        have Hce := Lib.hid hce
        clear hce
        have Hr := Lib.hid hr
        clear hr
        have Hkn := Lib.hid hkn
        clear hkn
        clear hcm
        go_wp2
        exact He.out
    · have j1 : ¬ (k : Int) < (L.length : Int) := by omega
      have he := hend (places_end (by rintro ⟨h, _⟩; exact h1 h))
      have He := Lib.hid he
      clear he
      have Hp := Lib.hid hp
      clear hp
      have Hg := Lib.hid hg
      clear hg
      have Hv := Lib.hid hv
      clear hv
      have HM := Lib.hid hM
      clear hM
      have HB := Lib.hid hB
      clear hB
      have Hbad := Lib.hid hbad
      clear hbad
      have Hend := Lib.hid hend
      clear hend
      go_wp2
      exact He.out
end Go.Proofs.Ytimepplfaaddeaa
