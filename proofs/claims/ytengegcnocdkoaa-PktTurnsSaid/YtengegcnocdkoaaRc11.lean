/- Contracts and plain lemmas: OptDecA, OptPlaces, OptAdd, OptScan, PktPlain, PktDecP, OptTurnP, PktTurnS, OptTake. -/
import Derived.Deep.DeepCutAuto
import Derived.StillTailTactics
import Derived.Test.YtengegcnocdkoaaRc10
import Derived.Test.YtengegcnocdkoaaRc5
import Derived.Test.YtengegcnocdkoaaRc3
import Derived.Test.YtengegcnocdkoaaRc9
import Derived.Test.YtengegcnocdkoaaRc7
set_option linter.unusedVariables false
set_option linter.unusedSimpArgs false
set_option linter.unusedSectionVars false
section
set_option maxRecDepth 20000
namespace Go.Proofs.Ytengegcnocdkoaa
open Go.RowKit Go.BigFrame
set_option maxHeartbeats 2000000 in
theorem dec_long (x : ByteArray) (L : List UInt8) (hx : x.data.toList = L) (hm : 40 < L.length) (w : World) :
    Calls Try.prog 42 #[.string x] w (DecPost w L) := by
  have hsz : x.size = L.length := by rw [← hx]; simp
  have j1 : (40 : Int) < (L.length : Int) := by omega
  have hr : decR L = (zeroO, 4) := by unfold decR; rw [if_pos hm]
  have hb0 : Below w.heap.size w w := Below.refl _ _
  have HB := Lib.hid hb0
  clear hb0
  have Hr := Lib.hid hr
  clear hr
  go_enter Try.func42, Try.ntmps42
  go_upto_region 2 with fail
  have hs := Blk.alloc (Blk.alloc (Blk.new w 9 #[.string x]) (.cells #[.int .u16 0, .int .i64 0, .bool false, .slice none 0 0, .bool false, .int .u32 0, .int .u32 0] 28)) (.cells #[.int .i64 0] 33)
  have ho := Blk.alloc (Blk.new (w.alloc (.cells #[.string x] 9)) 28 #[.int .u16 0, .int .i64 0, .bool false, .slice none 0 0, .bool false, .int .u32 0, .int .u32 0]) (.cells #[.int .i64 0] 33)
  rw [show (w.alloc (.cells #[.string x] 9)).heap.size = w.heap.size + 1 by simp] at ho
  have he := Blk.new ((w.alloc (.cells #[.string x] 9)).alloc (.cells #[.int .u16 0, .int .i64 0, .bool false, .slice none 0 0, .bool false, .int .u32 0, .int .u32 0] 28)) 33 #[.int .i64 0]
  rw [show ((w.alloc (.cells #[.string x] 9)).alloc (.cells #[.int .u16 0, .int .i64 0, .bool false, .slice none 0 0, .bool false, .int .u32 0, .int .u32 0] 28)).heap.size = w.heap.size + 2 by simp] at he
  have hB := Below.alloc (Below.alloc (Below.alloc (HB.out) (Nat.le_trans HB.out.size (by simp <;> omega)) (.cells #[.string x] 9)) (Nat.le_trans HB.out.size (by simp <;> omega)) (.cells #[.int .u16 0, .int .i64 0, .bool false, .slice none 0 0, .bool false, .int .u32 0, .int .u32 0] 28)) (Nat.le_trans HB.out.size (by simp <;> omega)) (.cells #[.int .i64 0] 33)
  clear HB
  obtain ⟨ge, hgee⟩ : ∃ g, g = w.heap.size + 2 := ⟨_, rfl⟩
  rw [← hgee] at he ⊢
  obtain ⟨go, hgeo⟩ : ∃ g, g = w.heap.size + 1 := ⟨_, rfl⟩
  rw [← hgeo] at ho ⊢
  obtain ⟨gs, hges⟩ : ∃ g, g = w.heap.size := ⟨_, rfl⟩
  rw [← hges] at hs ⊢
  have hne_s_o : gs ≠ go := by omega
  have hne_s_e : gs ≠ ge := by omega
  have hne_o_e : go ≠ ge := by omega
  have hle_s : w.heap.size ≤ gs := by omega
  have hle_o : w.heap.size ≤ go := by omega
  have hle_e : w.heap.size ≤ ge := by omega
  clear hges hgeo hgee
  generalize ((w.alloc _).alloc _).alloc _ = wn1 at *
  have Hs := Lib.hid hs
  clear hs
  have Ho := Lib.hid ho
  clear ho
  have He := Lib.hid he
  clear he
  have HB := Lib.hid hB
  clear hB
  have d0 := Ho.out.cell 0
  have d1 := Ho.out.cell 1
  have d2 := Ho.out.cell 2
  have d3 := Ho.out.cell 3
  have d4 := Ho.out.cell 4
  have d5 := Ho.out.cell 5
  have d6 := Ho.out.cell 6
  simp at d0 d1 d2 d3 d4 d5 d6
  have fr := Ho.out.frozen
  have ce := He.out.cell 0
  try simp at ce
  have fe := He.out.frozen 0
  go_wp2
  generalize hWf : World.setCell _ _ _ = Wf
  have hoF : Blk Wf go 28 #[.int .u16 0, .int .i64 0, .bool false, .slice none 0 0, .bool false, .int .u32 0, .int .u32 0] := by
    rw [← hWf]
    have := (((((((Ho.out.set_ 0 (.int .u16 0)).set_ 1 (.int .i64 0)).set_ 2 (.bool false)).set_ 3 (.slice none 0 0)).set_ 4 (.bool false)).set_ 5 (.int .u32 0)).set_ 6 (.int .u32 0)).far (p := ⟨ge, 0, none⟩) hne_o_e (.int .i64 4)
    simpa using this
  have heF : Blk Wf ge 33 #[.int .i64 4] := by
    rw [← hWf]
    have := (((((((He.out.far (p := ⟨go, 0, none⟩) (Ne.symm hne_o_e) (.int .u16 0)).far (p := ⟨go, 1, none⟩) (Ne.symm hne_o_e) (.int .i64 0)).far (p := ⟨go, 2, none⟩) (Ne.symm hne_o_e) (.bool false)).far (p := ⟨go, 3, none⟩) (Ne.symm hne_o_e) (.slice none 0 0)).far (p := ⟨go, 4, none⟩) (Ne.symm hne_o_e) (.bool false)).far (p := ⟨go, 5, none⟩) (Ne.symm hne_o_e) (.int .u32 0)).far (p := ⟨go, 6, none⟩) (Ne.symm hne_o_e) (.int .u32 0)).set_ 0 (.int .i64 4)
    simpa using this
  have hBf : Below w.heap.size w Wf := by
    rw [← hWf]
    repeat (first | (refine Below.setCell ?_ hle_e _) | (refine Below.setCell ?_ hle_o _))
    exact HB.out
  clear hWf d0 d1 d2 d3 d4 d5 d6 fr ce fe
  have z0 := hoF.cell 0
  have z1 := hoF.cell 1
  have z2 := hoF.cell 2
  have z3 := hoF.cell 3
  have z4 := hoF.cell 4
  have z5 := hoF.cell 5
  have z6 := hoF.cell 6
  simp at z0 z1 z2 z3 z4 z5 z6
  have y0 := heF.cell 0
  try simp at y0
  exact bodyPost_ret (v := .tuple #[.agg #[.int .u16 0, .int .i64 0, .bool false, .slice none 0 0, .bool false, .int .u32 0, .int .u32 0], .int .i64 4]) (by simp [results, Try.results42, go_sem, z0, z1, z2, z3, z4, z5, z6, y0]) rfl ⟨zeroO, none, 0, 4, rfl, ⟨.inl rfl, fun _ e => by cases e⟩, hBf, Hr.out.symm⟩
theorem dec_any (x : ByteArray) (w : World) : Calls Try.prog 42 #[.string x] w (DecPost w x.data.toList) := by
  by_cases h : x.data.toList.length ≤ 40
  · exact callsIn_wide.1 (dec_in x _ rfl h w)
  · exact dec_long x _ rfl (by omega) w
end Go.Proofs.Ytengegcnocdkoaa
end
section
set_option maxRecDepth 20000
namespace Go.Proofs.Ytengegcnocdkoaa
open Go.RowKit Go.BigFrame
theorem known_any (k : Nat) (w : World) (hk : 2 ≤ k) : Calls Try.prog 97 #[.int .i64 (k : Int)] w fun e w' => e = .returned (.bool (metB k)) ∧ w = w' := by
  have j2 : (2 : Int) ≤ (k : Int) := by omega
  by_cases h5 : k ≤ 5
  · have hv : metB k = true := by unfold metB; simp [h5]
    have j5 : (k : Int) ≤ 5 := by omega
    have Hv := Lib.hid hv
    clear hv
    go_enter Try.func97, Try.ntmps97
    go_wp2
    go_ret
    exact ⟨ret_bool Hv.out.symm, rfl⟩
  · have hv : metB k = ((k : Int) == 8) := by
      unfold metB
      rw [Bool.eq_iff_iff]
      simp
      omega
    have j5 : ¬ (k : Int) ≤ 5 := by omega
    have Hv := Lib.hid hv
    clear hv
    clear h5
    go_enter Try.func97, Try.ntmps97
    go_wp2
    go_ret
    exact ⟨ret_bool Hv.out.symm, rfl⟩
/-- what Places asks of all options -/
def goodR (L : List UInt8) : List (Nat × Nat) → List Nat → Bool
  | [], _ => true
  | p :: l, met => !(p.2 == 0) && (!(decide (byteN L p.1 ∈ met) && metB (byteN L p.1)) && goodR L l (byteN L p.1 :: met))
def MetAt (W : World) (g : Nat) (met : List Nat) : Prop := ∃ cs, Blk W g 4 cs ∧ cs.size = 256 ∧ ∀ j, j < 256 → cs[j]? = some (.bool (decide (j ∈ met)))
theorem MetAt.start (w : World) : MetAt (w.alloc (.cells (Array.replicate 256 (.bool false)) 4)) w.heap.size [] :=
  ⟨_, Blk.new _ _ _, by simp, fun j hj => by simp [hj]⟩
theorem MetAt.cell {W : World} {g : Nat} {met : List Nat} (h : MetAt W g met) {j : Nat} (hj : j < 256) : W.cell? ⟨g, j, none⟩ = some (.bool (decide (j ∈ met))) := by
  obtain ⟨cs, h1, _, h2⟩ := h
  rw [h1.cell j, h2 j hj]
theorem MetAt.frozen {W : World} {g : Nat} {met : List Nat} (h : MetAt W g met) (j : Nat) : W.frozen? ⟨g, j, none⟩ = false := by
  obtain ⟨cs, h1, _, h2⟩ := h
  exact h1.frozen j
theorem MetAt.grown {W W' : World} {row : Option Nat} {g : Nat} {met : List Nat} (h : MetAt W g met) (hg : W.grownBy W' row) (hne : row ≠ some g) : MetAt W' g met := by
  obtain ⟨cs, h1, h3, h2⟩ := h
  exact ⟨cs, h1.grown hg (fun e => hne e.symm), h3, h2⟩
theorem MetAt.lt {W : World} {g : Nat} {met : List Nat} (h : MetAt W g met) : g < W.heap.size := by
  obtain ⟨cs, h1, _⟩ := h
  exact h1.lt
theorem MetAt.row_ne {W : World} {g : Nat} {met : List Nat} (h : MetAt W g met) {base n size : Nat} {v : Value} {xs : List Value} (hv : W.ownsRow base 3 size v n xs) : v.ownBlock ≠ some g := by
  obtain ⟨cs, h1, _⟩ := h
  exact own_blk_ne hv h1 (by decide)
theorem MetAt.set {W : World} {g : Nat} {met : List Nat} (h : MetAt W g met) {b : Nat} (hb : b < 256) : MetAt (W.setCell ⟨g, b, none⟩ (.bool true)) g (b :: met) := by
  obtain ⟨cs, h1, h3, h2⟩ := h
  refine ⟨_, h1.set_ b (.bool true), by simpa using h3, fun j hj => ?_⟩
  rw [Array.getElem?_setIfInBounds]
  by_cases e : b = j
  · subst e
    simp [h3, hb]
  · rw [if_neg e, h2 j hj]
    have : j ≠ b := fun h => e h.symm
    simp [this]
def PlacesPost (w : World) (L : List UInt8) (e : Ending) (w' : World) : Prop :=
  if goodR L (placesAt L 0) [] = true then ∃ A c, e = .returned (.tuple #[.slice A (placesAt L 0).length c, .bool true]) ∧ Below w.heap.size w w' ∧ w'.ownsRow w.heap.size 3 1 (.slice A (placesAt L 0).length c) (placesAt L 0).length ((placesAt L 0).map fun p => .int .i64 (p.1 : Int))
  else e = .returned (.tuple #[.slice none 0 0, .bool false]) ∧ Below w.heap.size w w'
theorem infoInt : (Try.prog.info? 3).map (fun i => (i.zero, i.size, i.bytes)) = some (some (.int .i64 0), 1, 8) := by kernel_rfl
set_option maxRecDepth 100000 in
set_option maxHeartbeats 8000000 in
theorem places_any (x : ByteArray) (L : List UInt8) (hx : x.data.toList = L) (hm : L.length ≤ 1000) (w : World) :
    Calls Try.prog 80 #[.string x] w (PlacesPost w L) := by
  have hsz : x.size = L.length := by rw [← hx]; simp
  have hmk : (Instr.makeSlice 137 (.int .i64 256) (.int .i64 256)).run Try.prog w = .ok (.slice (some ⟨w.heap.size, 0, none⟩) 256 256) (w.alloc (.cells (Array.replicate 256 (.bool false)) 4)) := by kernel_rfl
  obtain ⟨gm, hgm⟩ : ∃ g, g = w.heap.size := ⟨_, rfl⟩
  have hM0 := MetAt.start w
  have hB0 : Below w.heap.size w (w.alloc (.cells (Array.replicate 256 (.bool false)) 4)) := (Below.refl _ _).alloc (Nat.le_refl _) _
  rw [← hgm] at hM0 hmk
  generalize hPP : PlacesPost w L = PP
  have hown0 : (w.alloc (.cells (Array.replicate 256 (.bool false)) 4)).ownsRow w.heap.size 3 1 (.slice none 0 0) 0 [] := World.ownsRow_nil _ _ _ _
  have HPP := Lib.hid hPP
  clear hPP
  have Hgm := Lib.hid hgm
  clear hgm
  have HM0 := Lib.hid hM0
  clear hM0
  have HB0 := Lib.hid hB0
  clear hB0
  have Hx := Lib.hid hx
  clear hx
  have Hown0 := Lib.hid hown0
  clear hown0
  go_enter Try.func80, Try.ntmps80
  go_wp2_with fail
  go_loopw [4, 6, 7] (fun v i kd wr => ∃ (k : Nat) (pl : List (Nat × Nat)) (met : List Nat), i = .int .i64 (k : Int) ∧ k ≤ L.length ∧ pl ++ placesAt L k = placesAt L 0 ∧ goodR L (placesAt L k) met = goodR L (placesAt L 0) [] ∧ wr.ownsRow w.heap.size 3 1 v pl.length (pl.map fun p => .int .i64 (p.1 : Int)) ∧ MetAt wr gm met ∧ Below w.heap.size w wr ∧ pl.length ≤ k)
    (fun _ i _ _ => L.length - (intOf i).toNat)
  case atStart => exact ⟨0, [], [], rfl, Nat.zero_le _, rfl, rfl, Hown0.out, HM0.out, HB0.out, Nat.le_refl _⟩
  case round =>
    obtain ⟨k, pl, met, rfl, hk, hp, hg, hv, hM, hB, hpk⟩ := hrel
    obtain ⟨A0, c0, hv0, _⟩ := own_slice hv
    subst hv0
    have hend : placesAt L k = [] → PP (.returned (.tuple #[.slice A0 pl.length c0, .bool true])) wr := by
      intro h
      rw [← HPP.out]
      rw [h] at hg hp
      rw [List.append_nil] at hp
      unfold PlacesPost
      rw [← hg, if_pos (show goodR L [] met = true from rfl), ← hp]
      exact ⟨A0, c0, rfl, hB, hv⟩
    have hbad : goodR L (placesAt L k) met = false → PP (.returned (.tuple #[.slice none 0 0, .bool false])) wr := by
      intro h
      rw [← HPP.out]
      unfold PlacesPost
      rw [← hg, h, if_neg (by simp)]
      exact ⟨rfl, hB⟩
    by_cases h1 : k < L.length
    · have j1 : (k : Int) < (L.length : Int) := by omega
      obtain ⟨b, hbe⟩ : ∃ b, b = byteN L k := ⟨_, rfl⟩
      have hb256 : b < 256 := by rw [hbe]; exact byteN_lt _ _
      have hix := index_at x k (by rw [Hx.out]; exact h1) wr
      rw [Hx.out, ← hbe] at hix
      by_cases hb0 : b = 0
      · have t0 : ((b : Int) == 0) = true := by rw [hb0]; rfl
        have he := hend (places_end (by rw [← hbe, hb0]; simp))
        have He := Lib.hid he
        clear he
        have Hp := Lib.hid hp
        clear hp
        have Hg := Lib.hid hg
        clear hg
        have Hv := Lib.hid hv
        clear hv
        have HM := Lib.hid hM
        clear hM
        have HB := Lib.hid hB
        clear hB
        have Hbad := Lib.hid hbad
        clear hbad
        have Hend := Lib.hid hend
        clear hend
        have Hbe := Lib.hid hbe
        clear hbe
        have Hb0 := Lib.hid hb0
        clear hb0
        go_wp2
        exact He.out
      have t0 : ((b : Int) == 0) = false := by simp; omega
      by_cases hb1 : b = 1
      · have t1 : ((b : Int) == 1) = true := by rw [hb1]; rfl
        have hpl : placesAt L k = placesAt L (k + 1) := places_one h1 (by rw [← hbe, hb1])
        rw [hpl] at hp hg
        have Hp := Lib.hid hp
        clear hp
        have Hg := Lib.hid hg
        clear hg
        have Hv := Lib.hid hv
        clear hv
        have HM := Lib.hid hM
        clear hM
        have HB := Lib.hid hB
        clear hB
        have Hbad := Lib.hid hbad
        clear hbad
        have Hend := Lib.hid hend
        clear hend
        have Hbe := Lib.hid hbe
        clear hbe
        have Hb0 := Lib.hid hb0
        clear hb0
        have Hb1 := Lib.hid hb1
        clear hb1
        have Hpl := Lib.hid hpl
        clear hpl
        go_wp2
        go_roundw
        case rel => exact ⟨k + 1, pl, met, by go_num, by omega, Hp.out, Hg.out, Hv.out, HM.out, HB.out, by omega⟩
        case measure => simp [intOf]; omega
      have t1 : ((b : Int) == 1) = false := by simp; omega
      have hkb0 : byteN L k ≠ 0 := by rw [← hbe]; exact hb0
      have hkb1 : byteN L k ≠ 1 := by rw [← hbe]; exact hb1
      obtain ⟨c, hce⟩ : ∃ c, c = byteN L (k + 1) := ⟨_, rfl⟩
      have hc256 : c < 256 := by rw [hce]; exact byteN_lt _ _
      have hr := oright_any b c wr
      have hkn := known_any b wr (by omega)
      have hcm := hM.cell hb256
      by_cases h2 : k + 1 < L.length
      · have j2 : ¬ (L.length : Int) ≤ (k : Int) + 1 := by omega
        have hix2 := fun W => index_at x (k + 1) (by rw [Hx.out]; exact h2) W
        rw [Hx.out, ← hce, show ((k + 1 : Nat) : Int) = (k : Int) + 1 by omega] at hix2
        cases h3 : longB b c with
        | false =>
          have he := hbad (by rw [places_bad h1 hkb0 hkb1 (by unfold stepN; rw [← hbe, ← hce, h3]; simp)]; rfl)
          rw [h3] at hr
          have He := Lib.hid he
          clear he
          have Hp := Lib.hid hp
          clear hp
          have Hg := Lib.hid hg
          clear hg
          have Hv := Lib.hid hv
          clear hv
          have HM := Lib.hid hM
          clear hM
          have HB := Lib.hid hB
          clear hB
          have Hbad := Lib.hid hbad
          clear hbad
          have Hend := Lib.hid hend
          clear hend
          have Hbe := Lib.hid hbe
          clear hbe
          have Hb0 := Lib.hid hb0
          clear hb0
          have Hb1 := Lib.hid hb1
          clear hb1
          have Hkb0 := Lib.hid hkb0
          clear hkb0
          have Hkb1 := Lib.hid hkb1
          clear hkb1
          have Hce := Lib.hid hce
          clear hce
          have Hr := Lib.hid hr
          clear hr
          have Hkn := Lib.hid hkn
          clear hkn
          have H3 := Lib.hid h3
          clear h3
          clear hcm
          go_wp2_with fail
          with_reducible refine Hr.out.mono ?_
          rintro e w2 ⟨rfl, rfl⟩
          go_wp2
          exact He.out
        | true =>
          rw [h3] at hr
          by_cases h4 : k + c ≤ L.length
          · have hst : stepN L k = c := by unfold stepN; rw [← hbe, ← hce, if_pos ⟨h2, h3, h4⟩]
            have hc2 := longB_two h3
            have hpl := places_cons h1 hkb0 hkb1 (by rw [hst]; omega)
            rw [hst] at hpl
            have j4 : ¬ (L.length : Int) < (k : Int) + (c : Int) := by omega
            by_cases hme : b ∈ met
            · rw [decide_eq_true hme] at hcm
              cases hmb : metB b with
              | true =>
                have he := hbad (by rw [hpl]; unfold goodR; rw [← hbe, decide_eq_true hme, hmb]; simp)
                rw [hmb] at hkn
                have He := Lib.hid he
                clear he
                have Hp := Lib.hid hp
                clear hp
                have Hg := Lib.hid hg
                clear hg
                have Hv := Lib.hid hv
                clear hv
                have HM := Lib.hid hM
                clear hM
                have HB := Lib.hid hB
                clear hB
                have Hbad := Lib.hid hbad
                clear hbad
                have Hend := Lib.hid hend
                clear hend
                have Hbe := Lib.hid hbe
                clear hbe
                have Hb0 := Lib.hid hb0
                clear hb0
                have Hb1 := Lib.hid hb1
                clear hb1
                have Hkb0 := Lib.hid hkb0
                clear hkb0
                have Hkb1 := Lib.hid hkb1
                clear hkb1
                have Hce := Lib.hid hce
                clear hce
                have Hr := Lib.hid hr
                clear hr
                have Hkn := Lib.hid hkn
                clear hkn
                have H3 := Lib.hid h3
                clear h3
                have Hst := Lib.hid hst
                clear hst
                have Hpl := Lib.hid hpl
                clear hpl
                have Hme := Lib.hid hme
                clear hme
                have Hmb := Lib.hid hmb
                clear hmb
                go_wp2_with fail
                with_reducible refine Hr.out.mono ?_
                rintro e w2 ⟨rfl, rfl⟩
                go_wp2_with fail
                with_reducible refine Hkn.out.mono ?_
                rintro e w2 ⟨rfl, rfl⟩
                go_wp2
                exact He.out
              | false =>
                have hgn : goodR L (placesAt L (k + c)) (b :: met) = goodR L (placesAt L 0) [] := by
                  rw [← hg, hpl, goodR, ← hbe, hmb]
                  have : (c == 0) = false := by simp; omega
                  simp [this]
                rw [hmb] at hkn
                have Hkn := Lib.hid hkn
                clear hkn
                have Hmb := Lib.hid hmb
                clear hmb
                have Hme := Lib.hid hme
                clear hme
                have fr := hM.frozen b
                have hml := hM.lt
                have hbs : w.heap.size ≤ wr.heap.size := hB.size
                have hgl : w.heap.size ≤ gm := by rw [Hgm.out]; exact Nat.le_refl _
                have hrn := hM.row_ne hv
                have hown2 := (hv.kept (only_set (World.grownBy.refl wr (some gm)) b (.bool true)) (.inr hrn)).alloc (.cells #[.int .i64 (k : Int)] 3)
                have hM2 := (hM.set hb256).grown (World.grownBy_alloc _ (.cells #[.int .i64 (k : Int)] 3) none) (by simp)
                have hB2 := ((hB.setCell (p := ⟨gm, b, none⟩) hgl (.bool true)).alloc (by simpa [World.setCell] using hbs) (.cells #[.int .i64 (k : Int)] 3))
                have hrd : Reads ((wr.setCell ⟨gm, b, none⟩ (.bool true)).alloc (.cells #[.int .i64 (k : Int)] 3)) (wr.heap.size + 1) 1 (some ⟨wr.heap.size, 0, none⟩) 1 [.int .i64 (k : Int)] := by
                  have hbk := Blk.new (wr.setCell ⟨gm, b, none⟩ (.bool true)) 3 #[.int .i64 (k : Int)]
                  rw [show (wr.setCell ⟨gm, b, none⟩ (.bool true)).heap.size = wr.heap.size by simp [World.setCell]] at hbk
                  exact Reads.of_blk hbk (Nat.lt_succ_self _) _ rfl 1 rfl
                obtain ⟨i0, hi0, h0, h1', h22⟩ := info_parts_o infoInt
                have hpp : (pl ++ [(k, c)]) ++ placesAt L (k + c) = placesAt L 0 := by rw [← hp, hpl]; simp
                have hpl60 : pl.length ≤ 1000 := by omega
                have hpost : ∀ v' w', w'.ownsRow w.heap.size 3 1 v' (pl.length + 1) ((pl.map fun p => Value.int .i64 (p.1 : Int)) ++ [.int .i64 (k : Int)]) → ((wr.setCell ⟨gm, b, none⟩ (.bool true)).alloc (.cells #[.int .i64 (k : Int)] 3)).grownBy w' (Value.slice A0 pl.length c0).ownBlock →
                    w'.ownsRow w.heap.size 3 1 v' (pl ++ [(k, c)]).length ((pl ++ [(k, c)]).map fun p => .int .i64 (p.1 : Int)) ∧ MetAt w' gm (b :: met) ∧ Below w.heap.size w w' := by
                  intro v' w' ho hgr
                  refine ⟨?_, hM2.grown hgr hrn, hB2.grown hgr hB2.size (fun q hq => (hv.lt q hq).1)⟩
                  rw [List.length_append, List.map_append]
                  exact ho
                have hszz : w.heap.size ≤ wr.heap.size + 1 := by omega
                have hq4 : k + c ≤ L.length := h4
                have hq2 : 2 ≤ c := hc2
                have Hgn := Lib.hid hgn
                clear hgn
                have Hp := Lib.hid hp
                clear hp
                have Hg := Lib.hid hg
                clear hg
                have Hv := Lib.hid hv
                clear hv
                have HM := Lib.hid hM
                clear hM
                have HB := Lib.hid hB
                clear hB
                have Hbad := Lib.hid hbad
                clear hbad
                have Hend := Lib.hid hend
                clear hend
                have Hbe := Lib.hid hbe
                clear hbe
                have Hb0 := Lib.hid hb0
                clear hb0
                have Hb1 := Lib.hid hb1
                clear hb1
                have Hkb0 := Lib.hid hkb0
                clear hkb0
                have Hkb1 := Lib.hid hkb1
                clear hkb1
                have Hce := Lib.hid hce
                clear hce
                have Hr := Lib.hid hr
                clear hr
                have H3 := Lib.hid h3
                clear h3
                have Hst := Lib.hid hst
                clear hst
                have Hpl := Lib.hid hpl
                clear hpl
                have Hown2 := Lib.hid hown2
                clear hown2
                have HM2 := Lib.hid hM2
                clear hM2
                have HB2 := Lib.hid hB2
                clear hB2
                have Hrd := Lib.hid hrd
                clear hrd
                have Hi0 := Lib.hid hi0
                clear hi0
                have H0 := Lib.hid h0
                clear h0
                have H1' := Lib.hid h1'
                clear h1'
                have H22 := Lib.hid h22
                clear h22
                have Hpp := Lib.hid hpp
                clear hpp
                have Hpost := Lib.hid hpost
                clear hpost
                have Hszz := Lib.hid hszz
                clear hszz
                have Hrn := Lib.hid hrn
                clear hrn
                have Hbs := Lib.hid hbs
                clear hbs
                have Hgl := Lib.hid hgl
                clear hgl
                have Hq4 := Lib.hid hq4
                clear hq4
                have Hq2 := Lib.hid hq2
                clear hq2
                go_wp2_with fail
                with_reducible refine Hr.out.mono ?_
                rintro e w2 ⟨rfl, rfl⟩
                go_wp2_with fail
                with_reducible refine Hkn.out.mono ?_
                rintro e w2 ⟨rfl, rfl⟩
                go_wp2_with (at_builtin; refine wpList_append_any _ rfl _ _ _ rfl w.heap.size 3 i0 _ 1 8 Try.underlying115 Hi0.out H0.out H1'.out H22.out rfl (by decide) _ pl.length _ rfl Hown2.out _ _ 1 1 _ rfl Hrd.out (by intro u hu; simp at hu; subst hu; rfl) (by simp only [maxLen]; omega) (by omega) (by simp; exact Hszz.out) ?_; intro v1 w1 hown1 hg1 hat1; have hp1 := Hpost.out v1 w1 hown1 hg1; have Hp1 := Lib.hid hp1; clear hown1 hg1 hat1 hp1)
                go_roundw
                case rel => exact ⟨k + c, pl ++ [(k, c)], b :: met, by go_num, Hq4.out, Hpp.out, Hgn.out, Hp1.out.1, Hp1.out.2.1, Hp1.out.2.2, by have := Hq2.out; rw [List.length_append, List.length_singleton]; omega⟩
                case measure =>
                  have q4 := Hq4.out
                  have q2 := Hq2.out
                  simp [intOf]
                  omega
            · rw [decide_eq_false hme] at hcm
              have hgn : goodR L (placesAt L (k + c)) (b :: met) = goodR L (placesAt L 0) [] := by
                rw [← hg, hpl, goodR, ← hbe, decide_eq_false hme]
                have : (c == 0) = false := by simp; omega
                simp [this]
              clear hkn
              have Hme := Lib.hid hme
              clear hme
              have fr := hM.frozen b
              have hml := hM.lt
              have hbs : w.heap.size ≤ wr.heap.size := hB.size
              have hgl : w.heap.size ≤ gm := by rw [Hgm.out]; exact Nat.le_refl _
              have hrn := hM.row_ne hv
              have hown2 := (hv.kept (only_set (World.grownBy.refl wr (some gm)) b (.bool true)) (.inr hrn)).alloc (.cells #[.int .i64 (k : Int)] 3)
              have hM2 := (hM.set hb256).grown (World.grownBy_alloc _ (.cells #[.int .i64 (k : Int)] 3) none) (by simp)
              have hB2 := ((hB.setCell (p := ⟨gm, b, none⟩) hgl (.bool true)).alloc (by simpa [World.setCell] using hbs) (.cells #[.int .i64 (k : Int)] 3))
              have hrd : Reads ((wr.setCell ⟨gm, b, none⟩ (.bool true)).alloc (.cells #[.int .i64 (k : Int)] 3)) (wr.heap.size + 1) 1 (some ⟨wr.heap.size, 0, none⟩) 1 [.int .i64 (k : Int)] := by
                have hbk := Blk.new (wr.setCell ⟨gm, b, none⟩ (.bool true)) 3 #[.int .i64 (k : Int)]
                rw [show (wr.setCell ⟨gm, b, none⟩ (.bool true)).heap.size = wr.heap.size by simp [World.setCell]] at hbk
                exact Reads.of_blk hbk (Nat.lt_succ_self _) _ rfl 1 rfl
              obtain ⟨i0, hi0, h0, h1', h22⟩ := info_parts_o infoInt
              have hpp : (pl ++ [(k, c)]) ++ placesAt L (k + c) = placesAt L 0 := by rw [← hp, hpl]; simp
              have hpl60 : pl.length ≤ 1000 := by omega
              have hpost : ∀ v' w', w'.ownsRow w.heap.size 3 1 v' (pl.length + 1) ((pl.map fun p => Value.int .i64 (p.1 : Int)) ++ [.int .i64 (k : Int)]) → ((wr.setCell ⟨gm, b, none⟩ (.bool true)).alloc (.cells #[.int .i64 (k : Int)] 3)).grownBy w' (Value.slice A0 pl.length c0).ownBlock →
                  w'.ownsRow w.heap.size 3 1 v' (pl ++ [(k, c)]).length ((pl ++ [(k, c)]).map fun p => .int .i64 (p.1 : Int)) ∧ MetAt w' gm (b :: met) ∧ Below w.heap.size w w' := by
                intro v' w' ho hgr
                refine ⟨?_, hM2.grown hgr hrn, hB2.grown hgr hB2.size (fun q hq => (hv.lt q hq).1)⟩
                rw [List.length_append, List.map_append]
                exact ho
              have hszz : w.heap.size ≤ wr.heap.size + 1 := by omega
              have hq4 : k + c ≤ L.length := h4
              have hq2 : 2 ≤ c := hc2
              have Hgn := Lib.hid hgn
              clear hgn
              have Hp := Lib.hid hp
              clear hp
              have Hg := Lib.hid hg
              clear hg
              have Hv := Lib.hid hv
              clear hv
              have HM := Lib.hid hM
              clear hM
              have HB := Lib.hid hB
              clear hB
              have Hbad := Lib.hid hbad
              clear hbad
              have Hend := Lib.hid hend
              clear hend
              have Hbe := Lib.hid hbe
              clear hbe
              have Hb0 := Lib.hid hb0
              clear hb0
              have Hb1 := Lib.hid hb1
              clear hb1
              have Hkb0 := Lib.hid hkb0
              clear hkb0
              have Hkb1 := Lib.hid hkb1
              clear hkb1
              have Hce := Lib.hid hce
              clear hce
              have Hr := Lib.hid hr
              clear hr
              have H3 := Lib.hid h3
              clear h3
              have Hst := Lib.hid hst
              clear hst
              have Hpl := Lib.hid hpl
              clear hpl
              have Hown2 := Lib.hid hown2
              clear hown2
              have HM2 := Lib.hid hM2
              clear hM2
              have HB2 := Lib.hid hB2
              clear hB2
              have Hrd := Lib.hid hrd
              clear hrd
              have Hi0 := Lib.hid hi0
              clear hi0
              have H0 := Lib.hid h0
              clear h0
              have H1' := Lib.hid h1'
              clear h1'
              have H22 := Lib.hid h22
              clear h22
              have Hpp := Lib.hid hpp
              clear hpp
              have Hpost := Lib.hid hpost
              clear hpost
              have Hszz := Lib.hid hszz
              clear hszz
              have Hrn := Lib.hid hrn
              clear hrn
              have Hbs := Lib.hid hbs
              clear hbs
              have Hgl := Lib.hid hgl
              clear hgl
              have Hq4 := Lib.hid hq4
              clear hq4
              have Hq2 := Lib.hid hq2
              clear hq2
              go_wp2_with fail
              with_reducible refine Hr.out.mono ?_
              rintro e w2 ⟨rfl, rfl⟩
              go_wp2_with (at_builtin; refine wpList_append_any _ rfl _ _ _ rfl w.heap.size 3 i0 _ 1 8 Try.underlying115 Hi0.out H0.out H1'.out H22.out rfl (by decide) _ pl.length _ rfl Hown2.out _ _ 1 1 _ rfl Hrd.out (by intro u hu; simp at hu; subst hu; rfl) (by simp only [maxLen]; omega) (by omega) (by simp; exact Hszz.out) ?_; intro v1 w1 hown1 hg1 hat1; have hp1 := Hpost.out v1 w1 hown1 hg1; have Hp1 := Lib.hid hp1; clear hown1 hg1 hat1 hp1)
              go_roundw
              case rel => exact ⟨k + c, pl ++ [(k, c)], b :: met, by go_num, Hq4.out, Hpp.out, Hgn.out, Hp1.out.1, Hp1.out.2.1, Hp1.out.2.2, by have := Hq2.out; rw [List.length_append, List.length_singleton]; omega⟩
              case measure =>
                have q4 := Hq4.out
                have q2 := Hq2.out
                simp [intOf]
                omega
          · have he := hbad (by rw [places_bad h1 hkb0 hkb1 (by unfold stepN; rw [← hbe, ← hce, if_neg (fun h => h4 h.2.2)])]; rfl)
            have j4 : (L.length : Int) < (k : Int) + (c : Int) := by omega
            have He := Lib.hid he
            clear he
            have Hp := Lib.hid hp
            clear hp
            have Hg := Lib.hid hg
            clear hg
            have Hv := Lib.hid hv
            clear hv
            have HM := Lib.hid hM
            clear hM
            have HB := Lib.hid hB
            clear hB
            have Hbad := Lib.hid hbad
            clear hbad
            have Hend := Lib.hid hend
            clear hend
            have Hbe := Lib.hid hbe
            clear hbe
            have Hb0 := Lib.hid hb0
            clear hb0
            have Hb1 := Lib.hid hb1
            clear hb1
            have Hkb0 := Lib.hid hkb0
            clear hkb0
            have Hkb1 := Lib.hid hkb1
            clear hkb1
            have Hce := Lib.hid hce
            clear hce
            have Hr := Lib.hid hr
            clear hr
            have Hkn := Lib.hid hkn
            clear hkn
            have H3 := Lib.hid h3
            clear h3
            clear hcm
            go_wp2_with fail
            with_reducible refine Hr.out.mono ?_
            rintro e w2 ⟨rfl, rfl⟩
            go_wp2
            exact He.out
      · have he := hbad (by rw [places_bad h1 hkb0 hkb1 (by unfold stepN; rw [if_neg (fun h => h2 h.1)])]; rfl)
        have j2 : (L.length : Int) ≤ (k : Int) + 1 := by omega
        have He := Lib.hid he
        clear he
        have Hp := Lib.hid hp
        clear hp
        have Hg := Lib.hid hg
        clear hg
        have Hv := Lib.hid hv
        clear hv
        have HM := Lib.hid hM
        clear hM
        have HB := Lib.hid hB
        clear hB
        have Hbad := Lib.hid hbad
        clear hbad
        have Hend := Lib.hid hend
        clear hend
        have Hbe := Lib.hid hbe
        clear hbe
        have Hb0 := Lib.hid hb0
        clear hb0
        have Hb1 := Lib.hid hb1
        clear hb1
        have Hkb0 := Lib.hid hkb0
        clear hkb0
        have Hkb1 := Lib.hid hkb1
        clear hkb1
        have Hce := Lib.hid hce
        clear hce
        have Hr := Lib.hid hr
        clear hr
        have Hkn := Lib.hid hkn
        clear hkn
        clear hcm
        go_wp2
        exact He.out
    · have j1 : ¬ (k : Int) < (L.length : Int) := by omega
      have he := hend (places_end (by rintro ⟨h, _⟩; exact h1 h))
      have He := Lib.hid he
      clear he
      have Hp := Lib.hid hp
      clear hp
      have Hg := Lib.hid hg
      clear hg
      have Hv := Lib.hid hv
      clear hv
      have HM := Lib.hid hM
      clear hM
      have HB := Lib.hid hB
      clear hB
      have Hbad := Lib.hid hbad
      clear hbad
      have Hend := Lib.hid hend
      clear hend
      go_wp2
      exact He.out
end Go.Proofs.Ytengegcnocdkoaa
end
section
set_option maxRecDepth 20000
namespace Go.Proofs.Ytengegcnocdkoaa
open Go.RowKit Go.BigFrame
def addL (L : List UInt8) (k d : Nat) : List UInt8 := L.take k ++ be4 ((numL ((L.drop k).take 4) + d) % 4294967296) ++ L.drop (k + 4)
theorem ext_list (x : ByteArray) (L : List UInt8) (hx : x.data.toList = L) (a b : Nat) : x.extract a b = ⟨((L.drop a).take (b - a)).toArray⟩ := by
  apply ByteArray.ext
  rw [ByteArray.data_extract]
  apply Array.ext'
  rw [Array.toList_extract, List.extract_eq_take_drop, hx]
theorem cat3 (a b c : List UInt8) : ((⟨a.toArray⟩ : ByteArray) ++ ⟨b.toArray⟩) ++ ⟨c.toArray⟩ = ⟨(a ++ b ++ c).toArray⟩ := by
  apply ByteArray.ext
  simp [ByteArray.data_append]
theorem cat_run (a b : ByteArray) (h : a.size + b.size ≤ 100000) (W : World) : (Op.stringOp .add a b).run Try.prog W = .ok (.string (a ++ b)) W := by
  unfold Op.stringOp
  have e : IntKind.i64.max = 9223372036854775807 := rfl
  simp only []
  rw [if_neg (by rw [e]; omega)]
  rfl
set_option maxRecDepth 100000 in
set_option maxHeartbeats 4000000 in
theorem add_any (x : ByteArray) (L : List UInt8) (hx : x.data.toList = L) (k d : Nat) (hk : k + 4 ≤ L.length) (hm : L.length ≤ 1000) (hd : d < 4294967296) (w : World) :
    Calls Try.prog 87 #[.string x, .int .i64 (k : Int), .int .u32 (d : Int)] w fun e w' => e = .returned (.string ⟨(addL L k d).toArray⟩) ∧ Below w.heap.size w w' := by
  have hsz : x.size = L.length := by rw [← hx]; simp
  obtain ⟨N, hN⟩ : ∃ N, N = L.length := ⟨_, rfl⟩
  rw [← hN] at hsz
  have j1 : (k : Int) ≤ (N : Int) := by omega
  have j2 : (k : Int) + 4 ≤ (N : Int) := by omega
  have j3 : (0 : Int) ≤ (k : Int) + 4 := by omega
  have j4 : (k : Int) ≤ (k : Int) + 4 := by omega
  obtain ⟨q, hq⟩ : ∃ q, q = numL ((L.drop k).take 4) := ⟨_, rfl⟩
  have hqlt : q < 4294967296 := by rw [hq]; exact numL_lt _
  have hS0 : Fresh w w := Below.refl _ _
  have ne : Nonempty (Cls (Fresh w)) := ⟨⟨w, hS0⟩⟩
  have e2 : x.extract k (k + 4) = ⟨((L.drop k).take 4).toArray⟩ := by rw [ext_list x L hx, show k + 4 - k = 4 by omega]
  have n1 : ∀ y : Cls (Fresh w), Calls Try.prog 54 #[.string (x.extract k (k + 4))] y.w fun e w'' => e = .returned (.int .u32 (q : Int)) ∧ Fresh w w'' ∧ Below y.w.heap.size y.w w'' := fun y => (ref_num _ y.w (by simp [maxLen]; omega)).mono fun e w' ⟨he, hb⟩ => ⟨by rw [he, e2, hq], by rw [← hb]; exact y.h, by rw [← hb]; exact Below.refl _ _⟩
  have n2 : ∀ y : Cls (Fresh w), Calls Try.prog 88 #[.int .u32 (((q : Int) + (d : Int)) % 4294967296)] y.w fun e w'' => e = .returned (.string ⟨(be4 ((q + d) % 4294967296)).toArray⟩) ∧ Fresh w w'' ∧ Below y.w.heap.size y.w w'' := fun y => by
    have := ref_four ((q + d) % 4294967296) y.w (by omega)
    rw [show (((q + d) % 4294967296 : Nat) : Int) = ((q : Int) + (d : Int)) % 4294967296 by omega] at this
    exact this.mono fun e w' ⟨he, hb⟩ => ⟨he, Fresh.below y.h hb, hb⟩
  have c1 : ∀ (vals : Array Value) (w : World), (callFunc 54 vals).run Try.prog w = .ok (.enter 54 vals) w := fun _ _ => by kernel_rfl
  have c2 : ∀ (vals : Array Value) (w : World), (callFunc 88 vals).run Try.prog w = .ok (.enter 88 vals) w := fun _ _ => by kernel_rfl
  have hend : ((x.extract 0 k ++ ⟨(be4 ((q + d) % 4294967296)).toArray⟩) ++ x.extract (k + 4) N : ByteArray) = ⟨(addL L k d).toArray⟩ := by
    rw [ext_list x L hx, ext_list x L hx, cat3]
    unfold addL
    rw [← hq]
    congr 4
    exact List.take_of_length_le (by rw [List.length_drop]; omega)
  obtain ⟨F, hF0⟩ : ∃ F : ByteArray, F = ⟨(be4 ((q + d) % 4294967296)).toArray⟩ := ⟨_, rfl⟩
  rw [← hF0] at hend
  simp only [← hF0] at n2
  have hFs : F.size = 4 := by rw [hF0]; rfl
  have r1 := cat_run (x.extract 0 k) F (by simp; omega)
  have r2 := cat_run (x.extract 0 k ++ F) (x.extract (k + 4) N) (by simp; omega)
  have N1 := Lib.hid n1
  have N2 := Lib.hid n2
  have Hend := Lib.hid hend
  clear hend
  have Hq := Lib.hid hq
  clear hq
  have HN := Lib.hid hN
  clear hN
  have E2 := Lib.hid e2
  clear e2
  have C1 := Lib.hid c1
  clear c1
  have C2 := Lib.hid c2
  clear c2
  have Hx := Lib.hid hx
  clear hx
  have HF0 := Lib.hid hF0
  clear hF0
  have HFs := Lib.hid hFs
  clear hFs
  clear n1 n2
  go_enter Try.func87, Try.ntmps87
  go_upto_region 1 with fail
  refine wp_region_flow 18 (Fresh w) (fun w w' => Below w.heap.size w w') (by kernel_rfl) (by kernel_rfl) (by kernel_rfl) (fun w => Below.refl _ _) (Fresh.below hS0 (Below.drew (Below.refl _ _))) ?_
  simp only [List.take_succ_cons, List.take_zero, List.drop_succ_cons, List.drop_zero]
  repeat (first
    | (refine flow_quiet (fun w => Below.refl _ _) rfl rfl rfl rfl ?_; intro K hK; go_big_quiet_op; go_big_quiet_on)
    | (refine flow_call C1.out _ ?_ rfl rfl rfl _ N1.out w ?_; (focus (simp only [List.map_toArray, List.map_cons, List.map_nil]; rfl)); intro K hK; go_big_quiet_op; go_big_quiet_on)
    | (refine flow_call C2.out _ ?_ rfl rfl rfl _ N2.out w ?_; (focus (simp only [List.map_toArray, List.map_cons, List.map_nil]; rfl)); intro K hK; go_big_quiet_op; go_big_quiet_on))
  refine flow_nil ?_
  intro W5 ff hW5 hF5
  simp only [fillW]
  clear hF5
  go_wp2
  go_ret
  exact ⟨congrArg (fun z => Ending.returned (.string z)) Hend.out, hW5⟩
end Go.Proofs.Ytengegcnocdkoaa
end
section
set_option maxRecDepth 20000
namespace Go.Proofs.Ytengegcnocdkoaa
/-- an option: its kind, its bytes (none: it may not be) -/
abbrev It := Nat × Option (List UInt8)
def scanF : Nat → List UInt8 → List It
  | 0, _ => []
  | _ + 1, [] => []
  | f + 1, k :: r => if k.toNat = 0 then [] else if k.toNat = 1 then scanF f r else
    match r with
    | [] => [(k.toNat, none)]
    | n :: b => if longB k.toNat n.toNat = true ∧ n.toNat ≤ b.length + 2 then (k.toNat, some (b.take (n.toNat - 2))) :: scanF f (b.drop (n.toNat - 2)) else [(k.toNat, none)]
theorem scanF_zero (f : Nat) {k : UInt8} (r : List UInt8) (h : k.toNat = 0) : scanF (f + 1) (k :: r) = [] := by cases r <;> simp [scanF, h]
theorem scanF_one (f : Nat) {k : UInt8} (r : List UInt8) (h : k.toNat = 1) : scanF (f + 1) (k :: r) = scanF f r := by cases r <;> simp [scanF, h]
theorem scanF_end (f : Nat) {k : UInt8} (h0 : k.toNat ≠ 0) (h1 : k.toNat ≠ 1) : scanF (f + 1) [k] = [(k.toNat, none)] := by simp only [scanF]; rw [if_neg h0, if_neg h1]
theorem scanF_opt (f : Nat) {k n : UInt8} {b : List UInt8} (h0 : k.toNat ≠ 0) (h1 : k.toNat ≠ 1) (hc : longB k.toNat n.toNat = true ∧ n.toNat ≤ b.length + 2) : scanF (f + 1) (k :: n :: b) = (k.toNat, some (b.take (n.toNat - 2))) :: scanF f (b.drop (n.toNat - 2)) := by simp only [scanF]; rw [if_neg h0, if_neg h1, if_pos hc]
theorem scanF_bad (f : Nat) {k n : UInt8} {b : List UInt8} (h0 : k.toNat ≠ 0) (h1 : k.toNat ≠ 1) (hc : ¬ (longB k.toNat n.toNat = true ∧ n.toNat ≤ b.length + 2)) : scanF (f + 1) (k :: n :: b) = [(k.toNat, none)] := by simp only [scanF]; rw [if_neg h0, if_neg h1, if_neg hc]
def itemOf (L : List UInt8) (p : Nat × Nat) : It := (byteN L p.1, if p.2 = 0 then none else some (bodyL L p))
theorem byteN_drop {L : List UInt8} {i : Nat} {k : UInt8} {r : List UInt8} (h : L.drop i = k :: r) : byteN L i = k.toNat := by
  have h1 : (L.drop i)[0]? = some k := by rw [h]; rfl
  rw [List.getElem?_drop] at h1
  unfold byteN
  rw [show i + 0 = i from rfl] at h1
  rw [h1]
  rfl
theorem drop_next {L : List UInt8} {i : Nat} {k : UInt8} {r : List UInt8} (h : L.drop i = k :: r) : L.drop (i + 1) = r := by
  have := congrArg List.tail h
  rwa [List.tail_drop] at this
theorem drop_lt {L : List UInt8} {i : Nat} {k : UInt8} {r : List UInt8} (h : L.drop i = k :: r) : L.length = i + r.length + 1 := by
  have := congrArg List.length h
  rw [List.length_drop, List.length_cons] at this
  omega
theorem drop_drop_ (L : List UInt8) (i j : Nat) : (L.drop i).drop j = L.drop (i + j) := by
  rw [List.drop_drop]
theorem stepN_drop2 {L : List UInt8} {i : Nat} {k n : UInt8} {b : List UInt8} (h : L.drop i = k :: n :: b) : stepN L i = if longB k.toNat n.toNat = true ∧ n.toNat ≤ b.length + 2 then n.toNat else 0 := by
  have h1 := byteN_drop h
  have h2 := byteN_drop (drop_next h)
  have h3 := drop_lt h
  rw [List.length_cons] at h3
  unfold stepN
  rw [h1, h2]
  by_cases hc : longB k.toNat n.toNat = true ∧ n.toNat ≤ b.length + 2
  · rw [if_pos hc, if_pos ⟨by omega, hc.1, by omega⟩]
  · rw [if_neg hc, if_neg (fun h => hc ⟨h.2.1, by omega⟩)]
theorem stepN_drop1 {L : List UInt8} {i : Nat} {k : UInt8} (h : L.drop i = [k]) : stepN L i = 0 := by
  have h3 := drop_lt h
  unfold stepN
  rw [if_neg]
  rintro ⟨h1, _⟩
  simp at h3
  omega
theorem scan_placesF : ∀ (f : Nat) (L : List UInt8) (i : Nat), (placesF f L i).map (itemOf L) = scanF f (L.drop i) := by
  intro f
  induction f with
  | zero => intro L i; rfl
  | succ f ih =>
    intro L i
    cases hd : L.drop i with
    | nil =>
      have : L.length ≤ i := List.drop_eq_nil_iff.1 hd
      rw [placesF, if_neg (fun h => by omega), scanF]
      rfl
    | cons k r =>
      have hk := byteN_drop hd
      have hr := drop_next hd
      have hl := drop_lt hd
      rw [placesF]
      by_cases h0 : k.toNat = 0
      · rw [if_neg (fun h => h.2 (hk.trans h0)), scanF_zero _ _ h0]
        rfl
      rw [if_pos ⟨by omega, by rw [hk]; exact h0⟩]
      by_cases h1 : k.toNat = 1
      · rw [if_pos (hk.trans h1), scanF_one _ _ h1, ih, hr]
      rw [if_neg (by rw [hk]; exact h1), List.map_cons]
      cases r with
      | nil =>
        have hs := stepN_drop1 hd
        rw [hs, if_pos rfl, scanF_end _ h0 h1]
        simp only [itemOf, hk, List.map_nil, if_true]
      | cons n b =>
        have hs := stepN_drop2 hd
        by_cases hc : longB k.toNat n.toNat = true ∧ n.toNat ≤ b.length + 2
        · rw [if_pos hc] at hs
          have h2 := longB_two hc.1
          rw [hs, if_neg (by omega), scanF_opt _ h0 h1 hc, ih]
          have hb : L.drop (i + 2) = b := drop_next hr
          congr 1
          · unfold itemOf bodyL
            simp only []
            rw [if_neg (by omega), hk, hb]
          · rw [← hb, drop_drop_, show i + 2 + (n.toNat - 2) = i + n.toNat by omega]
        · rw [if_neg hc] at hs
          rw [hs, if_pos rfl, scanF_bad _ h0 h1 hc]
          simp only [itemOf, hk, List.map_nil, if_true]
theorem scanF_eq : ∀ (f g : Nat) (L : List UInt8), L.length < f → L.length < g → scanF f L = scanF g L := by
  intro f
  induction f with
  | zero => intro g L h; omega
  | succ f ih =>
    intro g L hf hg
    cases g with
    | zero => omega
    | succ g =>
      match L with
      | [] => rfl
      | [k] =>
        simp only [scanF]
        rw [ih g [] (by simp at *; omega) (by simp at *; omega)]
      | k :: n :: b =>
        simp only [scanF]
        simp only [List.length_cons] at hf hg
        rw [ih g (n :: b) (by simp; omega) (by simp; omega), ih g (b.drop (n.toNat - 2)) (by rw [List.length_drop]; omega) (by rw [List.length_drop]; omega)]
def scan (L : List UInt8) : List It := scanF (L.length + 1) L
theorem scan_places (L : List UInt8) : (placesAt L 0).map (itemOf L) = scan L := by
  unfold placesAt scan
  rw [scan_placesF]
  rfl
theorem scan_nil : scan [] = [] := rfl
theorem scan_one {k : UInt8} (r : List UInt8) (h : k.toNat = 1) : scan (k :: r) = scan r := by
  unfold scan
  rw [scanF_one _ _ h]
  exact scanF_eq _ _ _ (by simp) (by simp)
theorem scan_opt {k n : UInt8} (b r : List UInt8) (h0 : k.toNat ≠ 0) (h1 : k.toNat ≠ 1) (hl : longB k.toNat n.toNat = true) (hn : n.toNat = b.length + 2) : scan (k :: n :: (b ++ r)) = (k.toNat, some b) :: scan r := by
  unfold scan
  rw [scanF_opt _ h0 h1 ⟨hl, by rw [List.length_append]; omega⟩, hn, Nat.add_sub_cancel, List.take_left, List.drop_left]
  congr 1
  exact scanF_eq _ _ _ (by simp; omega) (by simp)
/-- one option, read -/
def takeI (o : Op) (k : Nat) (B : List UInt8) : Option Op :=
  if k = 2 then (if numL B % 65536 = 0 then none else some { o with mss := numL B % 65536 })
  else if k = 3 then some { o with scale := min ((byteN B 0 : Nat) : Int) 14 }
  else if k = 4 then some { o with sack := true }
  else if k = 8 then some { o with time := true, val := numL (B.take 4), echo := numL (B.drop 4) }
  else if k = 5 then some { o with bl := o.bl ++ blocksF B.length B }
  else some o
theorem takeP_I (L : List UInt8) (o : Op) (p : Nat × Nat) : takeP L o p = takeI o (byteN L p.1) (bodyL L p) := rfl
def stepI (st : Op × List Nat) (x : It) : Option (Op × List Nat) := match x.2 with
  | none => none
  | some B => if x.1 ∈ st.2 then none else (takeI st.1 x.1 B).map fun o => (o, if metB x.1 = true then x.1 :: st.2 else st.2)
theorem stepD_I (L : List UInt8) (st : Op × List Nat) (p : Nat × Nat) : stepD L st p = stepI st (itemOf L p) := by
  unfold stepD stepI itemOf
  by_cases h : p.2 = 0
  · rw [if_pos (.inl h)]
    simp only [h, if_true]
  · simp only [h, if_false, false_or]
    rw [takeP_I]
def foldI (l : List It) (st : Op × List Nat) : Option (Op × List Nat) := l.foldlM stepI st
theorem foldI_nil (st : Op × List Nat) : foldI [] st = some st := rfl
theorem foldI_cons (x : It) (l : List It) (st : Op × List Nat) : foldI (x :: l) st = (stepI st x).bind fun s => foldI l s := by
  unfold foldI
  rw [List.foldlM_cons]
  rfl
theorem foldI_append (l m : List It) (st : Op × List Nat) : foldI (l ++ m) st = (foldI l st).bind fun s => foldI m s := by
  unfold foldI
  rw [List.foldlM_append]
  rfl
theorem foldD_I (L : List UInt8) : ∀ (l : List (Nat × Nat)) (st : Op × List Nat), foldD L l st = foldI (l.map (itemOf L)) st := by
  intro l
  induction l with
  | nil => intro st; rfl
  | cons p l ih =>
    intro st
    rw [List.map_cons, foldI_cons, ← stepD_I]
    unfold foldD
    rw [List.foldlM_cons]
    cases stepD L st p with
    | none => rfl
    | some s => exact ih s
theorem decL_I (L : List UInt8) : decL L = (foldI (scan L) (noneO, [])).map (·.1) := by
  unfold decL
  rw [foldD_I, scan_places]
/-! what was written is read -/
theorem numL4 (a b c d : UInt8) : numL [a, b, c, d] = a.toNat * 16777216 + b.toNat * 65536 + c.toNat * 256 + d.toNat := by
  have h1 := UInt8.toNat_lt a
  have h2 := UInt8.toNat_lt b
  have h3 := UInt8.toNat_lt c
  have h4 := UInt8.toNat_lt d
  simp only [numL, List.foldl_cons, List.foldl_nil]
  omega
theorem numL2 (a b : UInt8) : numL [a, b] = a.toNat * 256 + b.toNat := by
  have h1 := UInt8.toNat_lt a
  have h2 := UInt8.toNat_lt b
  simp only [numL, List.foldl_cons, List.foldl_nil]
  omega
theorem numL_be4 {x : Nat} (h : x < 4294967296) : numL (be4 x) = x := by
  unfold be4
  rw [numL4]
  simp only [UInt8.toNat_ofNat']
  omega
theorem numL_be2 {x : Nat} (h : x < 65536) : numL (be2 x) = x := by
  unfold be2
  rw [numL2]
  simp only [UInt8.toNat_ofNat']
  omega
theorem be4_numL {X : List UInt8} (h : X.length = 4) : be4 (numL X) = X := by
  match X, h with
  | [a, b, c, d], _ =>
    have h1 := UInt8.toNat_lt a
    have h2 := UInt8.toNat_lt b
    have h3 := UInt8.toNat_lt c
    have h4 := UInt8.toNat_lt d
    rw [numL4]
    unfold be4
    have e : ∀ (x : UInt8) (n : Nat), n % 256 = x.toNat → UInt8.ofNat n = x := fun x n hn => by
      apply UInt8.toNat_inj.1
      rw [UInt8.toNat_ofNat']
      exact hn
    rw [e a _ (by omega), e b _ (by omega), e c _ (by omega), e d _ (by omega)]
theorem be4_len (x : Nat) : (be4 x).length = 4 := rfl
theorem be2_len (x : Nat) : (be2 x).length = 2 := rfl
def mssI (o : Op) : List It := if o.mss = 0 then [] else [(2, some (be2 o.mss))]
def scaleI (o : Op) : List It := if o.scale < 0 then [] else [(3, some [UInt8.ofNat o.scale.toNat])]
def sackI (o : Op) : List It := if o.sack then [(4, some [])] else []
def timeI (o : Op) : List It := if o.time then [(8, some (be4 o.val ++ be4 o.echo))] else []
def blkI (o : Op) : List It := if o.bl.length = 0 then [] else [(5, some (blksL o.bl))]
def itemsO (o : Op) : List It := mssI o ++ scaleI o ++ sackI o ++ timeI o ++ blkI o
theorem scan_mss (o : Op) (r : List UInt8) : scan (mssL o ++ r) = mssI o ++ scan r := by
  unfold mssL mssI
  split
  · rfl
  · rw [show [2, 4] ++ be2 o.mss ++ r = (2 : UInt8) :: 4 :: (be2 o.mss ++ r) by simp, scan_opt _ _ (by decide) (by decide) (by decide) rfl]
    rfl
theorem scan_scale (o : Op) (r : List UInt8) : scan (scaleL o ++ r) = scaleI o ++ scan r := by
  unfold scaleL scaleI
  split
  · rfl
  · rw [show [1, 3, 3, UInt8.ofNat o.scale.toNat] ++ r = (1 : UInt8) :: 3 :: 3 :: ([UInt8.ofNat o.scale.toNat] ++ r) by simp, scan_one _ (by decide), scan_opt _ _ (by decide) (by decide) (by decide) rfl]
    rfl
theorem scan_sack (o : Op) (r : List UInt8) : scan (sackL o ++ r) = sackI o ++ scan r := by
  unfold sackL sackI
  split
  · rw [show [1, 1, 4, 2] ++ r = (1 : UInt8) :: 1 :: 4 :: 2 :: ([] ++ r) by simp, scan_one _ (by decide), scan_one _ (by decide), scan_opt _ _ (by decide) (by decide) (by decide) rfl]
    rfl
  · rfl
theorem scan_time (o : Op) (r : List UInt8) : scan (timeL o ++ r) = timeI o ++ scan r := by
  unfold timeL timeI
  split
  · rw [show [1, 1, 8, 10] ++ (be4 o.val ++ be4 o.echo) ++ r = (1 : UInt8) :: 1 :: 8 :: 10 :: ((be4 o.val ++ be4 o.echo) ++ r) by simp, scan_one _ (by decide), scan_one _ (by decide), scan_opt _ _ (by decide) (by decide) (by decide) rfl]
    rfl
  · rfl
theorem scan_blk (o : Op) (r : List UInt8) (h : o.bl.length ≤ 4) : scan (bheadL o.bl.length ++ blksL o.bl ++ r) = blkI o ++ scan r := by
  unfold bheadL blkI
  by_cases h0 : o.bl.length = 0
  · rw [if_pos h0, if_pos h0, List.length_eq_zero_iff.1 h0]
    rfl
  · rw [if_neg h0, if_neg h0]
    have hl := blks_len o.bl
    have hb : (UInt8.ofNat (2 + 8 * o.bl.length)).toNat = 2 + 8 * o.bl.length := by rw [UInt8.toNat_ofNat']; omega
    rw [show [1, 1, 5, UInt8.ofNat (2 + 8 * o.bl.length)] ++ blksL o.bl ++ r = (1 : UInt8) :: 1 :: 5 :: UInt8.ofNat (2 + 8 * o.bl.length) :: (blksL o.bl ++ r) by simp, scan_one _ (by decide), scan_one _ (by decide), scan_opt _ _ (by decide) (by decide) ?_ (by rw [hb, hl]; omega)]
    · rfl
    · rw [hb]
      have : o.bl.length = 1 ∨ o.bl.length = 2 ∨ o.bl.length = 3 ∨ o.bl.length = 4 := by omega
      rcases this with h | h | h | h <;> rw [h] <;> rfl
theorem scan_raw (o : Op) (r : List UInt8) (h : o.bl.length ≤ 4) : scan (rawL o ++ r) = itemsO o ++ scan r := by
  unfold rawL itemsO
  simp only [List.append_assoc]
  rw [scan_mss, scan_scale, scan_sack, scan_time, ← List.append_assoc (bheadL o.bl.length), scan_blk o r h]
theorem blocksF_blks : ∀ (l : List (Int × Int)) (f : Nat), (blksL l).length ≤ f → (∀ p ∈ l, (0 ≤ p.1 ∧ p.1 ≤ 4294967295) ∧ 0 ≤ p.2 ∧ p.2 ≤ 4294967295) → blocksF f (blksL l) = l := by
  intro l
  induction l with
  | nil =>
    intro f _ _
    cases f <;> simp [blocksF, blksL]
  | cons p l ih =>
    intro f hf hb
    have h1 : blksL (p :: l) = be4 p.1.toNat ++ (be4 p.2.toNat ++ blksL l) := by simp [blksL]
    have hp := hb p List.mem_cons_self
    rw [h1] at hf ⊢
    rw [List.length_append, List.length_append, be4_len, be4_len] at hf
    cases f with
    | zero => omega
    | succ f =>
      rw [blocksF, if_neg (by simp [be4])]
      rw [List.take_append_of_le_length (by rw [be4_len]; exact Nat.le_refl _), List.take_of_length_le (by rw [be4_len]; exact Nat.le_refl _)]
      rw [List.drop_append_of_le_length (by rw [be4_len]; exact Nat.le_refl _), List.drop_of_length_le (by rw [be4_len]; exact Nat.le_refl _), List.nil_append]
      rw [List.take_append_of_le_length (by rw [be4_len]; exact Nat.le_refl _), List.take_of_length_le (by rw [be4_len]; exact Nat.le_refl _)]
      rw [show (be4 p.1.toNat ++ (be4 p.2.toNat ++ blksL l)).drop 8 = blksL l by rw [← List.append_assoc]; exact List.drop_left' (by simp [be4])]
      rw [numL_be4 (by omega), numL_be4 (by omega), ih f (by omega) (fun q hq => hb q (List.mem_cons_of_mem _ hq))]
      congr 1
      apply Prod.ext <;> simp <;> omega
/-- what is read of options' own items: they, where the others were not met -/
theorem fold_items (o : Op) (hw : o.wf) (hm : mayB o = true) (met : List Nat) (hmet : ∀ k ∈ met, metB k = false) : ∃ met', foldI (itemsO o) (noneO, met) = some (o, met') ∧ ∀ k ∈ met', k ∈ met ∨ metB k = true := by
  obtain ⟨h1, h2, h3, h4⟩ := mayB_parts hm
  have hn : ∀ k, metB k = true → k ∉ met := fun k hk hin => by rw [hmet k hin] at hk; cases hk
  have n2 := hn 2 rfl
  have n3 := hn 3 rfl
  have n4 := hn 4 rfl
  have n5 := hn 5 rfl
  have n8 := hn 8 rfl
  have htv : o.time = false → o.val = 0 ∧ o.echo = 0 := by
    intro ht
    unfold mayB at hm
    rw [ht] at hm
    simp only [Bool.and_eq_true, decide_eq_true_eq, Bool.false_or, beq_iff_eq] at hm
    exact hm.2.2.2.1
  -- the five parts, one behind the other
  have p1 : ∃ m1, foldI (mssI o) (noneO, met) = some ({ noneO with mss := o.mss }, m1) ∧ ∀ k ∈ m1, k ∈ met ∨ k = 2 := by
    unfold mssI
    split
    · rename_i h; exact ⟨met, by rw [foldI_nil, h]; rfl, fun k hk => .inl hk⟩
    · rename_i h
      refine ⟨2 :: met, ?_, fun k hk => by rcases List.mem_cons.1 hk with rfl | hk; exact .inr rfl; exact .inl hk⟩
      rw [foldI_cons]
      unfold stepI takeI
      simp only [if_neg n2, if_true, numL_be2 hw.mss]
      rw [Nat.mod_eq_of_lt hw.mss, if_neg h]
      rfl
  obtain ⟨m1, q1, r1⟩ := p1
  have p2 : ∃ m2, foldI (scaleI o) ({ noneO with mss := o.mss }, m1) = some ({ noneO with mss := o.mss, scale := o.scale }, m2) ∧ ∀ k ∈ m2, k ∈ met ∨ k = 2 ∨ k = 3 := by
    unfold scaleI
    split
    · rename_i h
      exact ⟨m1, by rw [foldI_nil, show o.scale = -1 by omega]; rfl, fun k hk => (r1 k hk).imp id .inl⟩
    · rename_i h
      have n3' : 3 ∉ m1 := fun hk => by rcases r1 3 hk with hk | hk; exact n3 hk; omega
      refine ⟨3 :: m1, ?_, fun k hk => by rcases List.mem_cons.1 hk with rfl | hk; exact .inr (.inr rfl); exact (r1 k hk).imp id .inl⟩
      rw [foldI_cons]
      unfold stepI takeI
      have hb : byteN [UInt8.ofNat o.scale.toNat] 0 = o.scale.toNat := by
        show (UInt8.ofNat o.scale.toNat).toNat = _
        rw [UInt8.toNat_ofNat']
        omega
      simp only [if_neg n3', hb]
      rw [show min ((o.scale.toNat : Nat) : Int) 14 = o.scale by omega]
      rfl
  obtain ⟨m2, q2, r2⟩ := p2
  have p3 : ∃ m3, foldI (sackI o) ({ noneO with mss := o.mss, scale := o.scale }, m2) = some ({ noneO with mss := o.mss, scale := o.scale, sack := o.sack }, m3) ∧ ∀ k ∈ m3, k ∈ met ∨ k = 2 ∨ k = 3 ∨ k = 4 := by
    unfold sackI
    cases hs : o.sack with
    | false => exact ⟨m2, rfl, fun k hk => (r2 k hk).imp id (fun h => h.imp id .inl)⟩
    | true =>
      have n4' : 4 ∉ m2 := fun hk => by rcases r2 4 hk with hk | hk; exact n4 hk; omega
      refine ⟨4 :: m2, ?_, fun k hk => by rcases List.mem_cons.1 hk with rfl | hk; exact .inr (.inr (.inr rfl)); exact (r2 k hk).imp id (fun h => h.imp id .inl)⟩
      rw [if_pos rfl, foldI_cons]
      unfold stepI takeI
      simp only [if_neg n4']
      rfl
  obtain ⟨m3, q3, r3⟩ := p3
  have p4 : ∃ m4, foldI (timeI o) ({ noneO with mss := o.mss, scale := o.scale, sack := o.sack }, m3) = some ({ noneO with mss := o.mss, scale := o.scale, sack := o.sack, time := o.time, val := o.val, echo := o.echo }, m4) ∧ ∀ k ∈ m4, k ∈ met ∨ k = 2 ∨ k = 3 ∨ k = 4 ∨ k = 8 := by
    unfold timeI
    cases ht : o.time with
    | false =>
      obtain ⟨e1, e2⟩ := htv ht
      exact ⟨m3, by rw [e1, e2]; rfl, fun k hk => (r3 k hk).imp id (fun h => by omega)⟩
    | true =>
      have n8' : 8 ∉ m3 := fun hk => by rcases r3 8 hk with hk | hk; exact n8 hk; omega
      refine ⟨8 :: m3, ?_, fun k hk => by rcases List.mem_cons.1 hk with rfl | hk; exact .inr (.inr (.inr (.inr rfl))); exact (r3 k hk).imp id (fun h => by omega)⟩
      rw [if_pos rfl, foldI_cons]
      unfold stepI takeI
      have e1 : (be4 o.val ++ be4 o.echo).take 4 = be4 o.val := rfl
      have e2 : (be4 o.val ++ be4 o.echo).drop 4 = be4 o.echo := rfl
      simp only [if_neg n8', e1, e2, numL_be4 hw.val, numL_be4 hw.echo]
      rfl
  obtain ⟨m4, q4, r4⟩ := p4
  have p5 : ∃ m5, foldI (blkI o) ({ noneO with mss := o.mss, scale := o.scale, sack := o.sack, time := o.time, val := o.val, echo := o.echo }, m4) = some (o, m5) ∧ ∀ k ∈ m5, k ∈ met ∨ k = 2 ∨ k = 3 ∨ k = 4 ∨ k = 8 ∨ k = 5 := by
    unfold blkI
    by_cases h : o.bl.length = 0
    · rw [if_pos h]
      refine ⟨m4, ?_, fun k hk => (r4 k hk).imp id (fun h => by omega)⟩
      rw [foldI_nil]
      have := List.length_eq_zero_iff.1 h
      cases o
      simp only at this
      subst this
      rfl
    · rw [if_neg h]
      have n5' : 5 ∉ m4 := fun hk => by rcases r4 5 hk with hk | hk; exact n5 hk; omega
      refine ⟨5 :: m4, ?_, fun k hk => by rcases List.mem_cons.1 hk with rfl | hk; exact .inr (by omega); exact (r4 k hk).imp id (fun h => by omega)⟩
      rw [foldI_cons]
      unfold stepI takeI
      simp only [if_neg n5', blocksF_blks o.bl _ (Nat.le_refl _) hw.bl]
      rfl
  obtain ⟨m5, q5, r5⟩ := p5
  refine ⟨m5, ?_, fun k hk => (r5 k hk).imp id (fun h => by rcases h with rfl | rfl | rfl | rfl | rfl <;> rfl)⟩
  unfold itemsO
  simp only [List.append_assoc, foldI_append, q1, q2, q3, q4, q5, Option.bind_some]
theorem dec_raw (o : Op) (hw : o.wf) (hm : mayB o = true) : decL (rawL o) = some o := by
  obtain ⟨h1, h2, h3, h4⟩ := mayB_parts hm
  obtain ⟨m, hf, _⟩ := fold_items o hw hm [] (fun k hk => by cases hk)
  have := scan_raw o [] h3
  rw [List.append_nil, scan_nil, List.append_nil] at this
  rw [decL_I, this, hf]
  rfl
theorem raw_four (o : Op) : (rawL o).length % 4 = 0 := by
  unfold rawL
  simp only [List.length_append, blks_len]
  unfold mssL scaleL sackL timeL bheadL
  repeat' split
  all_goals simp [be2, be4]
  all_goals omega
/-- the reference's way to read -/
def rdecR (L : List UInt8) : Op × Int := if 40 < L.length then (zeroO, 4) else if goodR L (placesAt L 0) [] = true then (match (placesAt L 0).foldlM (takeP L) noneO with
  | none => (zeroO, 70)
  | some o => (o, 0)) else (zeroO, 70)
theorem fold_good (L : List UInt8) : ∀ (l : List (Nat × Nat)) (o : Op) (met met' : List Nat), (∀ k, metB k = true → (k ∈ met ↔ k ∈ met')) → (∀ k ∈ met, metB k = true) → (foldD L l (o, met)).map (·.1) = if goodR L l met' = true then l.foldlM (takeP L) o else none := by
  intro l
  induction l with
  | nil => intro o met met' _ _; rfl
  | cons p l ih =>
    intro o met met' h1 h2
    have hc : foldD L (p :: l) (o, met) = (stepD L (o, met) p).bind fun s => foldD L l s := by
      unfold foldD
      rw [List.foldlM_cons]
      rfl
    rw [hc, goodR, List.foldlM_cons]
    unfold stepD
    by_cases hp : p.2 = 0
    · rw [if_pos (.inl hp)]
      simp [hp]
    · by_cases hm : byteN L p.1 ∈ met
      · have hb := h2 _ hm
        rw [if_pos (.inr hm)]
        have := (h1 _ hb).1 hm
        simp [hb, this]
      · rw [if_neg (by rintro (h | h); exact hp h; exact hm h)]
        have hz : (!(p.2 == 0)) = true := by simp [hp]
        have hd : (!(decide (byteN L p.1 ∈ met') && metB (byteN L p.1))) = true := by
          cases hb : metB (byteN L p.1) with
          | false => simp
          | true =>
            have : byteN L p.1 ∉ met' := fun h => hm ((h1 _ hb).2 h)
            simp [this]
        rw [hz, hd, Bool.true_and, Bool.true_and]
        cases ht : takeP L o p with
        | none => simp
        | some o2 =>
          simp only [Option.map_some, Option.bind_some]
          rw [ih o2 _ (byteN L p.1 :: met')]
          · rfl
          · intro k hk
            by_cases hb : metB (byteN L p.1) = true
            · rw [if_pos hb, List.mem_cons, List.mem_cons, h1 k hk]
            · rw [if_neg hb, List.mem_cons, h1 k hk]
              constructor
              · exact .inr
              · rintro (rfl | h)
                · exact absurd hk hb
                · exact h
          · intro k hk
            by_cases hb : metB (byteN L p.1) = true
            · rw [if_pos hb] at hk
              rcases List.mem_cons.1 hk with rfl | hk
              · exact hb
              · exact h2 k hk
            · rw [if_neg hb] at hk
              exact h2 k hk
theorem dec_same (L : List UInt8) : decR L = rdecR L := by
  unfold decR rdecR
  split
  · rfl
  · have := fold_good L (placesAt L 0) noneO [] [] (fun _ _ => Iff.rfl) (fun k hk => by cases hk)
    unfold decL
    rw [this]
    cases goodR L (placesAt L 0) [] with
    | true =>
      rw [if_pos rfl, if_pos rfl]
      cases List.foldlM (takeP L) noneO (placesAt L 0) <;> rfl
    | false =>
      rw [if_neg (by decide), if_neg (by decide)]
end Go.Proofs.Ytengegcnocdkoaa
end
section
namespace Go.Proofs.Ytengegcnocdkoaa
open Go.RowKit
/-- a segment -/
structure Sg where
  s0 : Nat
  s1 : Nat
  s2 : Nat
  s3 : Nat
  s4 : Nat
  s5 : Nat
  f : Nat
  s7 : Nat
  o : Op
  d : ByteArray
structure Sg.wf (s : Sg) : Prop where
  b0 : s.s0 < 4294967296
  b1 : s.s1 < 65536
  b2 : s.s2 < 4294967296
  b3 : s.s3 < 65536
  b4 : s.s4 < 4294967296
  b5 : s.s5 < 4294967296
  f : s.f < 256
  b7 : s.s7 < 65536
  o : s.o.wf
def Sg.c (s : Sg) (A : Option Addr) (c : Nat) : Array Value := segO s.s0 s.s1 s.s2 s.s3 s.s4 s.s5 s.f s.s7 s.o A c s.d
def Sg.may (s : Sg) : Bool := pmayB s.f s.o s.d
def Sg.th (s : Sg) : T.TCPh := ⟨s.s1, s.s3, s.s4, s.s5, UInt8.ofNat s.f, s.s7, 0, ⟨(rawL s.o).toArray⟩⟩
def Sg.ih (s : Sg) : I.IPh := ⟨s.s0, s.s2, 6, 64, 0, 0, true⟩
def Sg.tl (s : Sg) : List UInt8 := T.encL s.s0 s.s2 s.th s.d.data.toList
def Sg.pl (s : Sg) : List UInt8 := I.encL s.ih s.tl
def pencR (s : Sg) : ByteArray × Int := if s.may = true then (⟨s.pl.toArray⟩, 0) else (⟨#[]⟩, 2)
section
variable {s : Sg}
theorem Sg.may_parts (h : s.may = true) : flagsB s.f = true ∧ mayB s.o = true ∧ s.d.size ≤ 1460 := by
  unfold Sg.may pmayB at h
  simp only [Bool.and_eq_true, decide_eq_true_eq] at h
  exact ⟨h.1.1, h.1.2, h.2⟩
theorem flagsB_lt {f : Nat} (h : flagsB f = true) : f < 32 := by
  unfold flagsB at h
  simp only [Bool.and_eq_true, decide_eq_true_eq] at h
  exact h.1
theorem Sg.enc_o (h : s.may = true) : encR s.o = (⟨(rawL s.o).toArray⟩, 0) := by
  unfold encR
  rw [if_pos (Sg.may_parts h).2.1]
theorem Sg.th_ok (h : s.wf) : s.th.ok := ⟨h.b1, h.b3, h.b4, h.b5, h.b7, by show 0 < 65536; omega⟩
theorem Sg.ih_ok (h : s.wf) : s.ih.ok := ⟨h.b0, h.b2, by show 0 < 65536; omega⟩
theorem Sg.th_size : s.th.opts.size = (rawL s.o).length := by
  show (rawL s.o).toArray.size = _
  simp
theorem Sg.th_flags (h : s.wf) : s.th.flags.toNat = s.f := by
  have := h.f
  show (UInt8.ofNat s.f).toNat = s.f
  rw [UInt8.toNat_ofNat']
  omega
theorem Sg.th_may (w : s.wf) (h : s.may = true) : s.th.may := by
  obtain ⟨h1, h2, h3⟩ := Sg.may_parts h
  have := flagsB_lt h1
  refine ⟨?_, ?_, ?_⟩
  · rw [Sg.th_size]; exact raw_four _
  · rw [Sg.th_size]; exact (mayB_parts h2).2.2.2
  · rw [Sg.th_flags w]; omega
theorem Sg.len (w : s.wf) (h : s.may = true) : s.th.opts.size ≤ 40 ∧ s.d.size ≤ 1460 ∧ s.tl.length = 20 + s.th.opts.size + s.d.size ∧ s.pl.length = 40 + s.th.opts.size + s.d.size := by
  have h1 : s.tl.length = 20 + s.th.opts.size + s.d.size := T.enc_len _ _ _ _
  refine ⟨(Sg.th_may w h).2.1, (Sg.may_parts h).2.2, h1, ?_⟩
  have : s.pl.length = 20 + s.tl.length := I.enc_len _ _
  omega
theorem Sg.enc_t (w : s.wf) (h : s.may = true) : T.encV s.s0 s.s2 s.th s.d = .tuple #[.string ⟨s.tl.toArray⟩, .int .i64 0] := by
  have hl := Sg.len w h
  have hm := Sg.th_may w h
  unfold T.encV T.encS T.encE
  rw [if_pos ⟨hm, by omega⟩, if_pos hm, if_pos (by omega)]
  rfl
theorem Sg.enc_i (w : s.wf) (h : s.may = true) : I.encV s.ih ⟨s.tl.toArray⟩ = .tuple #[.string ⟨s.pl.toArray⟩, .int .i64 0] := by
  have hl := Sg.len w h
  have : (⟨s.tl.toArray⟩ : ByteArray).size = s.tl.length := by
    show s.tl.toArray.size = _
    simp
  unfold I.encV
  rw [if_neg (by omega)]
  unfold Sg.pl
  simp
end
end Go.Proofs.Ytengegcnocdkoaa
end
section
namespace Go.Proofs.Ytengegcnocdkoaa
open Go.RowKit
def zeroSg : Sg := ⟨0, 0, 0, 0, 0, 0, 0, 0, zeroO, ⟨#[]⟩⟩
/-- a packet's heads, its options, what they say, its data -/
def hI (L : List UInt8) : I.IPh := I.decH L
def hT (L : List UInt8) : T.TCPh := T.decH (L.drop 20)
def oB (L : List UInt8) : List UInt8 := (hT L).opts.data.toList
def dB (L : List UInt8) : ByteArray := ⟨((L.drop 20).drop (T.endN (L.drop 20))).toArray⟩
def sgL (L : List UInt8) : Sg := ⟨(hI L).src, (hT L).src, (hI L).dst, (hT L).dst, (hT L).seq, (hT L).ack, (hT L).flags.toNat, (hT L).window, (decR (oB L)).1, dB L⟩
def pdecE (L : List UInt8) : Int :=
  if I.decE L ≠ 0 then (I.decE L : Int) else if (hI L).proto ≠ 6 then 80 else if T.decE (hI L).src (hI L).dst (L.drop 20) ≠ 0 then (T.decE (hI L).src (hI L).dst (L.drop 20) : Int)
  else if (decR (oB L)).2 ≠ 0 then (decR (oB L)).2 else if flagsB (hT L).flags.toNat = false then 81 else if 1460 < (dB L).size then 4 else 0
def pdecR (L : List UInt8) : Sg × Int := if pdecE L = 0 then (sgL L, 0) else (zeroSg, pdecE L)
/-- how Decode ends -/
def PDecPost (w : World) (L : List UInt8) (e : Ending) (w' : World) : Prop :=
  ∃ (s : Sg) (A : Option Addr) (c : Nat) (code : Int), e = .returned (.tuple #[.agg (s.c A c), .int .i64 code]) ∧ BlR w' A s.o.bl ∧ Below w.heap.size w w' ∧ (s, code) = pdecR L
section
variable {L : List UInt8}
theorem pdec_of {e : Int} (h : pdecE L = e) (h0 : e ≠ 0) : pdecR L = (zeroSg, e) := by
  unfold pdecR
  rw [h, if_neg h0]
theorem pdec_i {k : Nat} (h : I.decE L = k) (h0 : k ≠ 0) : pdecR L = (zeroSg, (k : Int)) := by
  refine pdec_of ?_ (by omega)
  unfold pdecE
  rw [h, if_pos h0]
theorem pdec_p (h : I.decE L = 0) (h1 : (hI L).proto ≠ 6) : pdecR L = (zeroSg, 80) := by
  refine pdec_of ?_ (by omega)
  unfold pdecE
  rw [if_neg (by simp [h]), if_pos h1]
theorem pdec_t {k : Nat} (h : I.decE L = 0) (h1 : (hI L).proto = 6) (h2 : T.decE (hI L).src (hI L).dst (L.drop 20) = k) (h0 : k ≠ 0) : pdecR L = (zeroSg, (k : Int)) := by
  refine pdec_of ?_ (by omega)
  unfold pdecE
  rw [if_neg (by simp [h]), if_neg (by simp [h1]), h2, if_pos h0]
theorem pdec_o (h : I.decE L = 0) (h1 : (hI L).proto = 6) (h2 : T.decE (hI L).src (hI L).dst (L.drop 20) = 0) (h3 : (decR (oB L)).2 ≠ 0) : pdecR L = (zeroSg, (decR (oB L)).2) := by
  refine pdec_of ?_ h3
  unfold pdecE
  rw [if_neg (by simp [h]), if_neg (by simp [h1]), if_neg (by simp [h2]), if_pos h3]
theorem pdec_f (h : I.decE L = 0) (h1 : (hI L).proto = 6) (h2 : T.decE (hI L).src (hI L).dst (L.drop 20) = 0) (h3 : (decR (oB L)).2 = 0) (h4 : flagsB (hT L).flags.toNat = false) : pdecR L = (zeroSg, 81) := by
  refine pdec_of ?_ (by omega)
  unfold pdecE
  rw [if_neg (by simp [h]), if_neg (by simp [h1]), if_neg (by simp [h2]), if_neg (by simp [h3]), if_pos h4]
theorem pdec_d (h : I.decE L = 0) (h1 : (hI L).proto = 6) (h2 : T.decE (hI L).src (hI L).dst (L.drop 20) = 0) (h3 : (decR (oB L)).2 = 0) (h4 : flagsB (hT L).flags.toNat = true) (h5 : 1460 < (dB L).size) : pdecR L = (zeroSg, 4) := by
  refine pdec_of ?_ (by omega)
  unfold pdecE
  rw [if_neg (by simp [h]), if_neg (by simp [h1]), if_neg (by simp [h2]), if_neg (by simp [h3]), if_neg (by simp [h4]), if_pos h5]
theorem pdec_ok (h : I.decE L = 0) (h1 : (hI L).proto = 6) (h2 : T.decE (hI L).src (hI L).dst (L.drop 20) = 0) (h3 : (decR (oB L)).2 = 0) (h4 : flagsB (hT L).flags.toNat = true) (h5 : (dB L).size ≤ 1460) : pdecR L = (sgL L, 0) := by
  have h : pdecE L = 0 := by
    unfold pdecE
    rw [if_neg (by simp [h]), if_neg (by simp [h1]), if_neg (by simp [h2]), if_neg (by simp [h3]), if_neg (by simp [h4]), if_neg (by omega)]
  unfold pdecR
  rw [if_pos h]
end
theorem numL_lt32 (l : List UInt8) : numL l < 4294967296 := by have := numL_lt l; omega
theorem hI_src (L : List UInt8) : (hI L).src < 4294967296 := numL_lt32 ((L.drop 12).take 4)
theorem hI_dst (L : List UInt8) : (hI L).dst < 4294967296 := numL_lt32 ((L.drop 16).take 4)
/-- what ip.Decode, tcp.Decode answer, in one form -/
structure PD (L : List UInt8) (h : I.IPh) (ld : ByteArray) (k : Nat) : Prop where
  v : I.decV L = .tuple #[.agg #[.int .u32 (h.src : Int), .int .u32 (h.dst : Int), .int .u8 (h.proto.toNat : Int), .int .u8 (h.ttl.toNat : Int), .int .u8 (h.tos.toNat : Int), .int .u16 (h.id : Int), .bool h.df], .string ld, .int .i64 (k : Int)]
  e : I.decE L = k
  ok : k = 0 → h = hI L ∧ ld = ⟨(L.drop 20).toArray⟩
  src : h.src < 4294967296
  dst : h.dst < 4294967296
  ld : ld.size ≤ L.length
theorem pd_of (L : List UInt8) : ∃ h ld k, PD L h ld k := by
  by_cases h : I.decE L = 0
  · refine ⟨hI L, ⟨(L.drop 20).toArray⟩, 0, I.decV_ok h, h, fun _ => ⟨rfl, rfl⟩, hI_src L, hI_dst L, ?_⟩
    show (L.drop 20).toArray.size ≤ _
    simp
  · exact ⟨⟨0, 0, 0, 0, 0, 0, false⟩, ⟨#[]⟩, I.decE L, I.decV_bad rfl h, rfl, fun e => absurd e h, by decide, by decide, by show 0 ≤ _; omega⟩
structure PT (s d : Nat) (l : List UInt8) (t : T.TCPh) (dd : ByteArray) (k : Nat) : Prop where
  v : T.decV s d l = .tuple #[.agg #[.int .u16 (t.src : Int), .int .u16 (t.dst : Int), .int .u32 (t.seq : Int), .int .u32 (t.ack : Int), .int .u8 (t.flags.toNat : Int), .int .u16 (t.window : Int), .int .u16 (t.urgent : Int), .string t.opts], .string dd, .int .i64 (k : Int)]
  e : T.decE s d l = k
  ok : k = 0 → t = T.decH l ∧ dd = ⟨(l.drop (T.endN l)).toArray⟩
  dd : dd.size ≤ l.length
theorem pt_of (s d : Nat) (l : List UInt8) : ∃ t dd k, PT s d l t dd k := by
  by_cases h : T.decE s d l = 0
  · refine ⟨T.decH l, ⟨(l.drop (T.endN l)).toArray⟩, 0, T.decV_ok h, h, fun _ => ⟨rfl, rfl⟩, ?_⟩
    show (l.drop (T.endN l)).toArray.size ≤ _
    simp
  · exact ⟨⟨0, 0, 0, 0, 0, 0, 0, ⟨#[]⟩⟩, ⟨#[]⟩, T.decE s d l, T.decV_bad rfl h, rfl, fun e => absurd e h, by show 0 ≤ _; omega⟩
section
variable {L : List UInt8} {h : I.IPh} {ld : ByteArray} {k : Nat} (p : PD L h ld k) {t : T.TCPh} {dd : ByteArray} {k2 : Nat} (q : PT h.src h.dst ld.data.toList t dd k2)
include p
theorem PD.bad (hk : k ≠ 0) : pdecR L = (zeroSg, (k : Int)) := pdec_i p.e hk
theorem PD.proto (hk : k = 0) (hp : h.proto.toNat ≠ 6) : pdecR L = (zeroSg, 80) := by
  obtain ⟨rfl, _⟩ := p.ok hk
  exact pdec_p (p.e.trans hk) (fun e => hp (by rw [e]; rfl))
include q
theorem PD.parts (hk : k = 0) (hp : h.proto.toNat = 6) : I.decE L = 0 ∧ (hI L).proto = 6 ∧ T.decE (hI L).src (hI L).dst (L.drop 20) = k2 ∧ h = hI L ∧ (k2 = 0 → t = hT L ∧ dd = dB L) := by
  obtain ⟨rfl, rfl⟩ := p.ok hk
  refine ⟨p.e.trans hk, UInt8.toNat_inj.1 (by rw [hp]; rfl), q.e, rfl, fun h2 => ?_⟩
  obtain ⟨h3, h4⟩ := q.ok h2
  exact ⟨h3, h4⟩
theorem PD.tcp (hk : k = 0) (hp : h.proto.toNat = 6) (h2 : k2 ≠ 0) : pdecR L = (zeroSg, (k2 : Int)) := by
  obtain ⟨a, b, c, d, e⟩ := PD.parts p q hk hp
  exact pdec_t a b c h2
theorem PD.opt (hk : k = 0) (hp : h.proto.toNat = 6) (h2 : k2 = 0) (r : Op) (code : Int) (hr : (r, code) = decR t.opts.data.toList) (hc : code ≠ 0) : pdecR L = (zeroSg, code) := by
  obtain ⟨a, b, c, d, e⟩ := PD.parts p q hk hp
  obtain ⟨rfl, rfl⟩ := e h2
  have h3 : (decR (oB L)).2 = code := by unfold oB; rw [← hr]
  rw [pdec_o a b (c.trans h2) (by rw [h3]; exact hc), h3]
theorem PD.flags (hk : k = 0) (hp : h.proto.toNat = 6) (h2 : k2 = 0) (r : Op) (hr : (r, (0 : Int)) = decR t.opts.data.toList) (hf : flagsB t.flags.toNat = false) : pdecR L = (zeroSg, 81) := by
  obtain ⟨a, b, c, d, e⟩ := PD.parts p q hk hp
  obtain ⟨rfl, rfl⟩ := e h2
  have h3 : (decR (oB L)).2 = 0 := by unfold oB; rw [← hr]
  exact pdec_f a b (c.trans h2) h3 hf
theorem PD.long (hk : k = 0) (hp : h.proto.toNat = 6) (h2 : k2 = 0) (r : Op) (hr : (r, (0 : Int)) = decR t.opts.data.toList) (hf : flagsB t.flags.toNat = true) (hd : 1460 < dd.size) : pdecR L = (zeroSg, 4) := by
  obtain ⟨a, b, c, d, e⟩ := PD.parts p q hk hp
  obtain ⟨rfl, rfl⟩ := e h2
  have h3 : (decR (oB L)).2 = 0 := by unfold oB; rw [← hr]
  exact pdec_d a b (c.trans h2) h3 hf hd
theorem PD.fine (hk : k = 0) (hp : h.proto.toNat = 6) (h2 : k2 = 0) (r : Op) (hr : (r, (0 : Int)) = decR t.opts.data.toList) (hf : flagsB t.flags.toNat = true) (hd : dd.size ≤ 1460) :
    pdecR L = (⟨h.src, t.src, h.dst, t.dst, t.seq, t.ack, t.flags.toNat, t.window, r, dd⟩, 0) := by
  obtain ⟨a, b, c, d, e⟩ := PD.parts p q hk hp
  obtain ⟨rfl, rfl⟩ := e h2
  have h3 : (decR (oB L)).2 = 0 := by unfold oB; rw [← hr]
  have h4 : (decR (oB L)).1 = r := by unfold oB; rw [← hr]
  rw [pdec_ok a b (c.trans h2) h3 hf hd, d]
  unfold sgL
  rw [h4]
end
end Go.Proofs.Ytengegcnocdkoaa
end
section
set_option maxRecDepth 20000
namespace Go.Proofs.Ytengegcnocdkoaa
def addWF (d : Nat) : Nat → List UInt8 → List UInt8
  | 0, _ => []
  | f + 1, B => if B = [] then [] else be4 ((numL (B.take 4) + d) % 4294967296) ++ addWF d f (B.drop 4)
def tb (bl va ec k : Nat) (B : List UInt8) : List UInt8 :=
  if k = 8 then be4 ((numL (B.take 4) + va) % 4294967296) ++ be4 ((numL (B.drop 4) + ec) % 4294967296)
  else if k = 5 then addWF bl B.length B else B
def turnF (t : Nat → List UInt8 → List UInt8) : Nat → List UInt8 → List UInt8
  | 0, L => L
  | _ + 1, [] => []
  | f + 1, k :: r => if k.toNat = 0 then k :: r else if k.toNat = 1 then k :: turnF t f r else
    match r with
    | [] => [k]
    | n :: b => if longB k.toNat n.toNat = true ∧ n.toNat ≤ b.length + 2 then k :: n :: (t k.toNat (b.take (n.toNat - 2)) ++ turnF t f (b.drop (n.toNat - 2))) else k :: n :: b
section
variable (t : Nat → List UInt8 → List UInt8) (f : Nat)
theorem turnF_zero {k : UInt8} (r : List UInt8) (h : k.toNat = 0) : turnF t (f + 1) (k :: r) = k :: r := by cases r <;> simp [turnF, h]
theorem turnF_one {k : UInt8} (r : List UInt8) (h : k.toNat = 1) : turnF t (f + 1) (k :: r) = k :: turnF t f r := by cases r <;> simp [turnF, h]
theorem turnF_end {k : UInt8} (h0 : k.toNat ≠ 0) (h1 : k.toNat ≠ 1) : turnF t (f + 1) [k] = [k] := by simp only [turnF]; rw [if_neg h0, if_neg h1]
theorem turnF_opt {k n : UInt8} {b : List UInt8} (h0 : k.toNat ≠ 0) (h1 : k.toNat ≠ 1) (hc : longB k.toNat n.toNat = true ∧ n.toNat ≤ b.length + 2) : turnF t (f + 1) (k :: n :: b) = k :: n :: (t k.toNat (b.take (n.toNat - 2)) ++ turnF t f (b.drop (n.toNat - 2))) := by simp only [turnF]; rw [if_neg h0, if_neg h1, if_pos hc]
theorem turnF_bad {k n : UInt8} {b : List UInt8} (h0 : k.toNat ≠ 0) (h1 : k.toNat ≠ 1) (hc : ¬ (longB k.toNat n.toNat = true ∧ n.toNat ≤ b.length + 2)) : turnF t (f + 1) (k :: n :: b) = k :: n :: b := by simp only [turnF]; rw [if_neg h0, if_neg h1, if_neg hc]
end
def LenT (t : Nat → List UInt8 → List UInt8) : Prop := ∀ k B, longB k (B.length + 2) = true → (t k B).length = B.length
/-- the bytes of an option that may be -/
theorem opt_body {k n : UInt8} {b : List UInt8} (hc : longB k.toNat n.toNat = true ∧ n.toNat ≤ b.length + 2) : (b.take (n.toNat - 2)).length + 2 = n.toNat := by
  have := longB_two hc.1
  rw [List.length_take]
  omega
theorem turnF_len {t : Nat → List UInt8 → List UInt8} (ht : LenT t) : ∀ (f : Nat) (L : List UInt8), (turnF t f L).length = L.length := by
  intro f
  induction f with
  | zero => intro L; rfl
  | succ f ih =>
    intro L
    match L with
    | [] => rfl
    | [k] =>
      by_cases h0 : k.toNat = 0
      · rw [turnF_zero _ _ _ h0]
      by_cases h1 : k.toNat = 1
      · rw [turnF_one _ _ _ h1, List.length_cons, ih]; rfl
      rw [turnF_end _ _ h0 h1]
    | k :: n :: b =>
      by_cases h0 : k.toNat = 0
      · rw [turnF_zero _ _ _ h0]
      by_cases h1 : k.toNat = 1
      · rw [turnF_one _ _ _ h1, List.length_cons, ih]; rfl
      by_cases hc : longB k.toNat n.toNat = true ∧ n.toNat ≤ b.length + 2
      · have hb := opt_body hc
        rw [turnF_opt _ _ h0 h1 hc, List.length_cons, List.length_cons, List.length_append, ih, ht _ _ (by rw [hb]; exact hc.1), List.length_cons, List.length_cons, List.length_take, List.length_drop]
        omega
      · rw [turnF_bad _ _ h0 h1 hc]
theorem scan_turnF {t : Nat → List UInt8 → List UInt8} (ht : LenT t) : ∀ (f : Nat) (L : List UInt8), scanF f (turnF t f L) = (scanF f L).map fun x => (x.1, x.2.map (t x.1)) := by
  intro f
  induction f with
  | zero => intro L; rfl
  | succ f ih =>
    intro L
    match L with
    | [] => rfl
    | [k] =>
      by_cases h0 : k.toNat = 0
      · rw [turnF_zero _ _ _ h0, scanF_zero _ _ h0]; rfl
      by_cases h1 : k.toNat = 1
      · rw [turnF_one _ _ _ h1, scanF_one _ _ h1, scanF_one _ _ h1, ih]
      rw [turnF_end _ _ h0 h1, scanF_end _ h0 h1]
      rfl
    | k :: n :: b =>
      by_cases h0 : k.toNat = 0
      · rw [turnF_zero _ _ _ h0, scanF_zero _ _ h0]; rfl
      by_cases h1 : k.toNat = 1
      · rw [turnF_one _ _ _ h1, scanF_one _ _ h1, scanF_one _ _ h1, ih]
      by_cases hc : longB k.toNat n.toNat = true ∧ n.toNat ≤ b.length + 2
      · have hb := opt_body hc
        have hl := ht k.toNat _ (by rw [hb]; exact hc.1)
        rw [turnF_opt _ _ h0 h1 hc, scanF_opt _ h0 h1 hc, scanF_opt _ h0 h1 ⟨hc.1, by rw [List.length_append, hl, turnF_len ht, List.length_drop]; omega⟩, List.map_cons]
        rw [List.take_left' (by rw [hl]; omega), List.drop_left' (by rw [hl]; omega), ih]
        rfl
      · rw [turnF_bad _ _ h0 h1 hc, scanF_bad _ h0 h1 hc]
        rfl
theorem scanF_ok : ∀ (f : Nat) (L : List UInt8), ∀ x ∈ scanF f L, ∀ B, x.2 = some B → longB x.1 (B.length + 2) = true := by
  intro f
  induction f with
  | zero => intro L x h; cases h
  | succ f ih =>
    intro L x hx B hB
    match L with
    | [] => cases hx
    | [k] =>
      simp only [scanF] at hx
      split at hx
      · cases hx
      split at hx
      · exact ih _ x hx B hB
      · simp at hx
        subst hx
        cases hB
    | k :: n :: b =>
      simp only [scanF] at hx
      split at hx
      · cases hx
      split at hx
      · exact ih _ x hx B hB
      split at hx
      · rename_i hc
        rcases List.mem_cons.1 hx with rfl | hx
        · injection hB with hB
          subst hB
          rw [opt_body hc]
          exact hc.1
        · exact ih _ x hx B hB
      · simp at hx
        subst hx
        cases hB
/-! the numbers in an option's bytes -/
theorem long8 {n : Nat} (h : longB 8 (n + 2) = true) : n = 8 := by
  unfold longB at h
  simp at h
  omega
theorem long5 {n : Nat} (h : longB 5 (n + 2) = true) : n = 8 ∨ n = 16 ∨ n = 24 ∨ n = 32 := by
  unfold longB at h
  simp at h
  omega
theorem take4_be4 (x : Nat) (r : List UInt8) : (be4 x ++ r).take 4 = be4 x := List.take_left' rfl
theorem drop4_be4 (x : Nat) (r : List UInt8) : (be4 x ++ r).drop 4 = r := List.drop_left' rfl
theorem numL_be4m (x : Nat) : numL (be4 (x % 4294967296)) = x % 4294967296 := numL_be4 (Nat.mod_lt _ (by decide))
theorem be4_ne (x : Nat) (r : List UInt8) : be4 x ++ r ≠ [] := by simp [be4]
theorem addWF_len (d : Nat) : ∀ (f : Nat) (B : List UInt8), B.length ≤ f → B.length % 4 = 0 → (addWF d f B).length = B.length := by
  intro f
  induction f with
  | zero =>
    intro B h _
    rw [addWF]
    simp at h
    rw [h]
  | succ f ih =>
    intro B h hm
    rw [addWF]
    by_cases hB : B = []
    · rw [if_pos hB, hB]
    · have hp : 0 < B.length := List.length_pos_iff.2 hB
      rw [if_neg hB, List.length_append, be4_len, ih _ (by rw [List.length_drop]; omega) (by rw [List.length_drop]; omega), List.length_drop]
      omega
def tP (d : Nat) (p : Int × Int) : Int × Int := ((p.1 + (d : Int)) % 4294967296, (p.2 + (d : Int)) % 4294967296)
theorem blocksF_add (d : Nat) : ∀ (f g h : Nat) (B : List UInt8), B.length ≤ f → B.length ≤ g → B.length ≤ h → B.length % 8 = 0 → blocksF g (addWF d f B) = (blocksF h B).map (tP d) := by
  intro f
  induction f using Nat.strongRecOn with
  | ind f ih =>
    intro g h B hf hg hh hm
    by_cases hB : B = []
    · subst hB
      have h1 : addWF d f [] = [] := by cases f <;> simp [addWF]
      rw [h1]
      cases g <;> cases h <;> simp [blocksF]
    · have hp : 0 < B.length := List.length_pos_iff.2 hB
      obtain ⟨f, rfl⟩ : ∃ f', f = f' + 2 := ⟨f - 2, by omega⟩
      obtain ⟨g, rfl⟩ : ∃ g', g = g' + 1 := ⟨g - 1, by omega⟩
      obtain ⟨h, rfl⟩ : ∃ h', h = h' + 1 := ⟨h - 1, by omega⟩
      have hB4 : B.drop 4 ≠ [] := fun e => by have := congrArg List.length e; rw [List.length_drop] at this; simp at this; omega
      rw [addWF, if_neg hB, addWF, if_neg hB4, blocksF, if_neg (be4_ne _ _), take4_be4, drop4_be4, take4_be4]
      rw [blocksF, if_neg hB, List.map_cons]
      rw [show ∀ x y r, (be4 x ++ (be4 y ++ r)).drop 8 = r from fun x y r => by rw [← List.append_assoc]; exact List.drop_left' rfl]
      rw [List.drop_drop, show (4 + 4 : Nat) = 8 from rfl]
      rw [ih f (by omega) g h (B.drop 8) (by rw [List.length_drop]; omega) (by rw [List.length_drop]; omega) (by rw [List.length_drop]; omega) (by rw [List.length_drop]; omega)]
      rw [numL_be4m, numL_be4m]
      congr 1
theorem tb_len (bl va ec : Nat) : LenT (tb bl va ec) := by
  intro k B h
  unfold tb
  by_cases h8 : k = 8
  · subst h8
    rw [if_pos rfl, long8 h]
    rfl
  rw [if_neg h8]
  by_cases h5 : k = 5
  · subst h5
    rw [if_pos rfl]
    exact addWF_len _ _ _ (Nat.le_refl _) (by rcases long5 h with e | e | e | e <;> rw [e])
  rw [if_neg h5]
/-- options, turned -/
def turnO (bl va ec : Nat) (o : Op) : Op := { o with bl := o.bl.map (tP bl), val := if o.time then (o.val + va) % 4294967296 else o.val, echo := if o.time then (o.echo + ec) % 4294967296 else o.echo }
def itT (bl va ec : Nat) (x : It) : It := (x.1, x.2.map (tb bl va ec x.1))
theorem stepI_turn (bl va ec : Nat) (st : Op × List Nat) (x : It) (hx : ∀ B, x.2 = some B → longB x.1 (B.length + 2) = true) : stepI (turnO bl va ec st.1, st.2) (itT bl va ec x) = (stepI st x).map fun s => (turnO bl va ec s.1, s.2) := by
  obtain ⟨k, B⟩ := x
  cases B with
  | none => rfl
  | some B =>
    have h := hx B rfl
    unfold stepI itT
    simp only [Option.map_some]
    by_cases hm : k ∈ st.2
    · rw [if_pos hm, if_pos hm]; rfl
    rw [if_neg hm, if_neg hm]
    have key : takeI (turnO bl va ec st.1) k (tb bl va ec k B) = (takeI st.1 k B).map (turnO bl va ec) := by
      have e : k ≠ 8 → k ≠ 5 → tb bl va ec k B = B := fun h8 h5 => by unfold tb; rw [if_neg h8, if_neg h5]
      unfold takeI
      by_cases h2 : k = 2
      · rw [if_pos h2, if_pos h2, e (by omega) (by omega)]
        split <;> rfl
      rw [if_neg h2, if_neg h2]
      by_cases h3 : k = 3
      · rw [if_pos h3, if_pos h3, e (by omega) (by omega)]
        rfl
      rw [if_neg h3, if_neg h3]
      by_cases h4 : k = 4
      · rw [if_pos h4, if_pos h4]
        rfl
      rw [if_neg h4, if_neg h4]
      by_cases h8 : k = 8
      · rw [if_pos h8, if_pos h8]
        unfold tb
        rw [if_pos h8, take4_be4, drop4_be4, numL_be4m, numL_be4m]
        rfl
      rw [if_neg h8, if_neg h8]
      by_cases h5 : k = 5
      · rw [if_pos h5, if_pos h5]
        subst h5
        have hm : B.length % 8 = 0 := by rcases long5 h with e | e | e | e <;> rw [e]
        have hl : (addWF bl B.length B).length = B.length := addWF_len _ _ _ (Nat.le_refl _) (by omega)
        unfold tb
        rw [if_neg h8, if_pos rfl, hl, blocksF_add bl _ _ _ B (Nat.le_refl _) (Nat.le_refl _) (Nat.le_refl _) hm]
        simp only [Option.map_some, turnO, List.map_append]
      rw [if_neg h5, if_neg h5]
      rfl
    rw [key]
    cases takeI st.1 k B <;> rfl
theorem foldI_turn (bl va ec : Nat) : ∀ (l : List It) (st : Op × List Nat), (∀ x ∈ l, ∀ B, x.2 = some B → longB x.1 (B.length + 2) = true) → foldI (l.map (itT bl va ec)) (turnO bl va ec st.1, st.2) = (foldI l st).map fun s => (turnO bl va ec s.1, s.2) := by
  intro l
  induction l with
  | nil => intro st _; rfl
  | cons x l ih =>
    intro st h
    rw [List.map_cons, foldI_cons, foldI_cons, stepI_turn _ _ _ _ _ (h x List.mem_cons_self)]
    cases stepI st x with
    | none => rfl
    | some s => exact ih s (fun y hy => h y (List.mem_cons_of_mem _ hy))
def turnT (bl va ec : Nat) (L : List UInt8) : List UInt8 := turnF (tb bl va ec) (L.length + 1) L
theorem turnL_len (bl va ec : Nat) (L : List UInt8) : (turnT bl va ec L).length = L.length := turnF_len (tb_len _ _ _) _ _
theorem dec_turn (bl va ec : Nat) (L : List UInt8) : decL (turnT bl va ec L) = (decL L).map (turnO bl va ec) := by
  rw [decL_I, decL_I]
  have h1 : scan (turnT bl va ec L) = (scan L).map (itT bl va ec) := by
    unfold scan
    rw [turnL_len]
    exact scan_turnF (tb_len _ _ _) _ _
  rw [h1]
  have h2 := foldI_turn bl va ec (scan L) (noneO, []) (scanF_ok _ _)
  rw [show turnO bl va ec noneO = noneO from rfl] at h2
  rw [h2]
  cases foldI (scan L) (noneO, []) <;> rfl
/-! what the walks do, place by place -/
/-- four bytes, written over -/
def putL (M : List UInt8) (k : Nat) (x : Nat) : List UInt8 := M.take k ++ be4 x ++ M.drop (k + 4)
theorem putL_len {M : List UInt8} {k x : Nat} (h : k + 4 ≤ M.length) : (putL M k x).length = M.length := by
  unfold putL
  rw [List.length_append, List.length_append, be4_len, List.length_take, List.length_drop]
  omega
/-- the number that stands at a place -/
def atL (L : List UInt8) (k : Nat) : Nat := numL ((L.drop k).take 4)
theorem addL_put (L : List UInt8) (k d : Nat) : addL L k d = putL L k ((atL L k + d) % 4294967296) := rfl
/-- what a place's words become: the words of S from k on, written into M -/
def wordsT (S : List UInt8) (d : Nat) : Nat → Nat → List UInt8 → List UInt8
  | 0, _, M => M
  | n + 1, k, M => wordsT S d n (k + 4) (putL M k ((atL S k + d) % 4294967296))
/-- the program's way: it reads the text that came in -/
def stepO (L : List UInt8) (bl va ec : Nat) (M : List UInt8) (p : Nat × Nat) : List UInt8 :=
  if byteN L p.1 = 8 then putL (putL M (p.1 + 2) ((atL L (p.1 + 2) + va) % 4294967296)) (p.1 + 6) ((atL L (p.1 + 6) + ec) % 4294967296)
  else if byteN L p.1 = 5 then wordsT L bl ((p.2 - 2) / 4) (p.1 + 2) M else M
/-- the document's way: it reads what it has come to -/
def addsL (d : Nat) : Nat → Nat → List UInt8 → List UInt8
  | 0, _, M => M
  | n + 1, k, M => addsL d n (k + 4) (addL M k d)
def stepT (bl va ec : Nat) (M : List UInt8) (p : Nat × Nat) : List UInt8 :=
  if byteN M p.1 = 8 then addL (addL M (p.1 + 2) va) (p.1 + 6) ec
  else if byteN M p.1 = 5 then addsL bl ((p.2 - 2) / 4) (p.1 + 2) M else M
theorem drop_app (P R : List UInt8) (j : Nat) : (P ++ R).drop (P.length + j) = R.drop j := by
  rw [List.drop_append, List.drop_of_length_le (by omega), List.nil_append, Nat.add_sub_cancel_left]
theorem atL_app (P R : List UInt8) (j : Nat) : atL (P ++ R) (P.length + j) = atL R j := by
  unfold atL
  rw [drop_app]
theorem putL_app (P R : List UInt8) (j x : Nat) : putL (P ++ R) (P.length + j) x = P ++ putL R j x := by
  unfold putL
  rw [List.take_append, List.drop_append, List.take_of_length_le (by omega), List.drop_of_length_le (by omega)]
  simp only [Nat.add_sub_cancel_left, List.nil_append, List.append_assoc]
  rw [show P.length + j + 4 - P.length = j + 4 by omega]
theorem atL_zero (B r : List UInt8) (h : 4 ≤ B.length) : atL (B ++ r) 0 = numL (B.take 4) := by
  unfold atL
  rw [List.drop_zero, List.take_append_of_le_length h]
theorem putL_head (B r : List UInt8) (x : Nat) (h : 4 ≤ B.length) : putL (B ++ r) 0 x = be4 x ++ (B.drop 4 ++ r) := by
  unfold putL
  rw [List.take_zero, List.nil_append, Nat.zero_add, List.drop_append_of_le_length h]
/-- words, in both ways: behind a head that is done, the rest of S and M is the same -/
theorem wordsL_do (S : List UInt8) (d : Nat) : ∀ (n f : Nat) (P Q B r : List UInt8), S = Q ++ (B ++ r) → Q.length = P.length → B.length = 4 * n → B.length ≤ f → wordsT S d n P.length (P ++ (B ++ r)) = P ++ (addWF d f B ++ r) := by
  intro n
  induction n with
  | zero =>
    intro f P Q B r _ _ hB _
    have : B = [] := List.length_eq_zero_iff.1 (by omega)
    subst this
    cases f <;> simp [wordsT, addWF]
  | succ n ih =>
    intro f P Q B r hS hQ hB hf
    have h4 : 4 ≤ B.length := by omega
    have hne : B ≠ [] := fun e => by rw [e] at h4; simp at h4
    obtain ⟨f, rfl⟩ : ∃ f', f = f' + 1 := ⟨f - 1, by omega⟩
    rw [wordsT]
    have h1 : atL S P.length = numL (B.take 4) := by
      rw [hS, ← hQ]
      have := atL_app Q (B ++ r) 0
      rw [Nat.add_zero] at this
      rw [this, atL_zero _ _ h4]
    have h2 : ∀ x, putL (P ++ (B ++ r)) P.length x = (P ++ be4 x) ++ (B.drop 4 ++ r) := fun x => by
      have := putL_app P (B ++ r) 0 x
      rw [Nat.add_zero] at this
      rw [this, putL_head _ _ _ h4, List.append_assoc]
    rw [h1, h2, addWF, if_neg hne]
    have h3 := ih f (P ++ be4 ((numL (B.take 4) + d) % 4294967296)) (Q ++ B.take 4) (B.drop 4) r (by rw [hS]; simp only [List.append_assoc]; rw [← List.append_assoc (B.take 4), List.take_append_drop]) (by rw [List.length_append, List.length_append, be4_len, List.length_take]; omega) (by rw [List.length_drop]; omega) (by rw [List.length_drop]; omega)
    rw [List.length_append, be4_len] at h3
    rw [h3]
    simp only [List.append_assoc]
theorem addsL_do (d : Nat) : ∀ (n f : Nat) (P B r : List UInt8), B.length = 4 * n → B.length ≤ f → addsL d n P.length (P ++ (B ++ r)) = P ++ (addWF d f B ++ r) := by
  intro n
  induction n with
  | zero =>
    intro f P B r hB _
    have : B = [] := List.length_eq_zero_iff.1 (by omega)
    subst this
    cases f <;> simp [addsL, addWF]
  | succ n ih =>
    intro f P B r hB hf
    have h4 : 4 ≤ B.length := by omega
    have hne : B ≠ [] := fun e => by rw [e] at h4; simp at h4
    obtain ⟨f, rfl⟩ : ∃ f', f = f' + 1 := ⟨f - 1, by omega⟩
    rw [addsL, addL_put]
    have h1 : atL (P ++ (B ++ r)) P.length = numL (B.take 4) := by
      have := atL_app P (B ++ r) 0
      rw [Nat.add_zero] at this
      rw [this, atL_zero _ _ h4]
    have h2 : ∀ x, putL (P ++ (B ++ r)) P.length x = (P ++ be4 x) ++ (B.drop 4 ++ r) := fun x => by
      have := putL_app P (B ++ r) 0 x
      rw [Nat.add_zero] at this
      rw [this, putL_head _ _ _ h4, List.append_assoc]
    rw [h1, h2, addWF, if_neg hne]
    have h3 := ih f (P ++ be4 ((numL (B.take 4) + d) % 4294967296)) (B.drop 4) r (by rw [List.length_drop]; omega) (by rw [List.length_drop]; omega)
    rw [List.length_append, be4_len] at h3
    rw [h3]
    simp only [List.append_assoc]
theorem byteN_app {P R : List UInt8} {k : UInt8} : byteN (P ++ k :: R) P.length = k.toNat := by
  unfold byteN
  rw [List.getElem?_append_right (Nat.le_refl _), Nat.sub_self]
  rfl
theorem stepO_do (L : List UInt8) (bl va ec : Nat) (P Q : List UInt8) (k n : UInt8) (B r : List UInt8) (hL : L = Q ++ (k :: n :: (B ++ r))) (hQ : Q.length = P.length) (hl : longB k.toNat n.toNat = true) (hn : B.length + 2 = n.toNat) :
    stepO L bl va ec (P ++ (k :: n :: (B ++ r))) (P.length, n.toNat) = P ++ (k :: n :: (tb bl va ec k.toNat B ++ r)) := by
  have hk : byteN L P.length = k.toNat := by rw [hL, ← hQ]; exact byteN_app
  rw [← hn] at hl
  unfold stepO tb
  simp only []
  rw [hk]
  by_cases h8 : k.toNat = 8
  · rw [if_pos h8, if_pos h8]
    rw [h8] at hl
    have hB := long8 hl
    match B, hB with
    | [b0, b1, b2, b3, b4, b5, b6, b7], _ =>
      have a1 : atL L (P.length + 2) = numL [b0, b1, b2, b3] := by rw [hL, ← hQ, atL_app]; rfl
      have a2 : atL L (P.length + 6) = numL [b4, b5, b6, b7] := by rw [hL, ← hQ, atL_app]; rfl
      rw [a1, a2, putL_app, putL_app]
      rfl
  rw [if_neg h8, if_neg h8]
  by_cases h5 : k.toNat = 5
  · rw [if_pos h5, if_pos h5]
    rw [h5] at hl
    have hB := long5 hl
    have h3 := wordsL_do L bl ((n.toNat - 2) / 4) B.length (P ++ [k, n]) (Q ++ [k, n]) B r (by rw [hL]; simp) (by simp [hQ]) (by omega) (Nat.le_refl _)
    simp only [List.length_append, List.length_cons, List.length_nil, List.append_assoc, List.cons_append, List.nil_append] at h3
    exact h3
  rw [if_neg h5, if_neg h5]
theorem stepR_do (bl va ec : Nat) (P : List UInt8) (k n : UInt8) (B r : List UInt8) (hl : longB k.toNat n.toNat = true) (hn : B.length + 2 = n.toNat) :
    stepT bl va ec (P ++ (k :: n :: (B ++ r))) (P.length, n.toNat) = P ++ (k :: n :: (tb bl va ec k.toNat B ++ r)) := by
  have hk : byteN (P ++ (k :: n :: (B ++ r))) P.length = k.toNat := byteN_app
  rw [← hn] at hl
  unfold stepT tb
  simp only []
  rw [hk]
  by_cases h8 : k.toNat = 8
  · rw [if_pos h8, if_pos h8]
    rw [h8] at hl
    have hB := long8 hl
    match B, hB with
    | [b0, b1, b2, b3, b4, b5, b6, b7], _ =>
      rw [addL_put (P ++ _) (P.length + 2), atL_app, putL_app, addL_put (P ++ _) (P.length + 6), atL_app, putL_app]
      rfl
  rw [if_neg h8, if_neg h8]
  by_cases h5 : k.toNat = 5
  · rw [if_pos h5, if_pos h5]
    rw [h5] at hl
    have hB := long5 hl
    have h3 := addsL_do bl ((n.toNat - 2) / 4) B.length (P ++ [k, n]) B r (by omega) (Nat.le_refl _)
    simp only [List.length_append, List.length_cons, List.length_nil, List.append_assoc, List.cons_append, List.nil_append] at h3
    exact h3
  rw [if_neg h5, if_neg h5]
/-- .. and of all places together: the bytes, turned (where each place may be) -/
theorem steps_do (L : List UInt8) (bl va ec : Nat) (st : List UInt8 → Nat × Nat → List UInt8)
    (hst : ∀ (P Q : List UInt8) (k n : UInt8) (B r : List UInt8), L = Q ++ (k :: n :: (B ++ r)) → Q.length = P.length → longB k.toNat n.toNat = true → B.length + 2 = n.toNat → st (P ++ (k :: n :: (B ++ r))) (P.length, n.toNat) = P ++ (k :: n :: (tb bl va ec k.toNat B ++ r))) :
    ∀ (f : Nat) (P Q S : List UInt8), L = Q ++ S → Q.length = P.length → (∀ p ∈ placesF f L P.length, p.2 ≠ 0) → (placesF f L P.length).foldl st (P ++ S) = P ++ turnF (tb bl va ec) f S := by
  intro f
  induction f with
  | zero => intro P Q S _ _ _; rfl
  | succ f ih =>
    intro P Q S hL hQ hok
    have hd : L.drop P.length = S := by rw [hL, ← hQ]; exact List.drop_left
    rw [placesF] at hok ⊢
    match S with
    | [] =>
      have : L.length ≤ P.length := List.drop_eq_nil_iff.1 hd
      rw [if_neg (fun h => by omega)]
      rfl
    | [k] =>
      have hk := byteN_drop hd
      have hl := drop_lt hd
      by_cases h0 : k.toNat = 0
      · rw [if_neg (fun h => h.2 (hk.trans h0)), turnF_zero _ _ _ h0]
        rfl
      rw [if_pos ⟨by omega, by rw [hk]; exact h0⟩] at hok ⊢
      by_cases h1 : k.toNat = 1
      · rw [if_pos (hk.trans h1)] at hok ⊢
        rw [turnF_one _ _ _ h1]
        have h3 := ih (P ++ [k]) (Q ++ [k]) [] (by rw [hL]; simp) (by simp [hQ]) (by simpa using hok)
        simp only [List.length_append, List.length_cons, List.length_nil, List.append_assoc, List.cons_append, List.nil_append] at h3
        exact h3
      rw [if_neg (by rw [hk]; exact h1)] at hok
      exact absurd (stepN_drop1 hd) (hok _ List.mem_cons_self)
    | k :: n :: b =>
      have hk := byteN_drop hd
      have hl := drop_lt hd
      by_cases h0 : k.toNat = 0
      · rw [if_neg (fun h => h.2 (hk.trans h0)), turnF_zero _ _ _ h0]
        rfl
      rw [if_pos ⟨by omega, by rw [hk]; exact h0⟩] at hok ⊢
      by_cases h1 : k.toNat = 1
      · rw [if_pos (hk.trans h1)] at hok ⊢
        rw [turnF_one _ _ _ h1]
        have h3 := ih (P ++ [k]) (Q ++ [k]) (n :: b) (by rw [hL]; simp) (by simp [hQ]) (by simpa using hok)
        simp only [List.length_append, List.length_cons, List.length_nil, List.append_assoc, List.cons_append, List.nil_append] at h3
        exact h3
      rw [if_neg (by rw [hk]; exact h1)] at hok ⊢
      have hs := stepN_drop2 hd
      by_cases hc : longB k.toNat n.toNat = true ∧ n.toNat ≤ b.length + 2
      · rw [if_pos hc] at hs
        have h2 := longB_two hc.1
        have hB := opt_body hc
        rw [hs, if_neg (by omega)] at hok ⊢
        rw [List.foldl_cons, turnF_opt _ _ h0 h1 hc]
        have hb := (List.take_append_drop (n.toNat - 2) b).symm
        generalize hB1 : b.take (n.toNat - 2) = B at *
        generalize hB2 : b.drop (n.toNat - 2) = r at *
        rw [hb] at hL ⊢
        rw [hst P Q k n B r hL hQ hc.1 hB]
        have htl := tb_len bl va ec k.toNat B (by rw [hB]; exact hc.1)
        have h3 := ih (P ++ (k :: n :: tb bl va ec k.toNat B)) (Q ++ (k :: n :: B)) r (by rw [hL]; simp) (by simp [hQ, htl]) (by
          intro p hp
          refine hok p (List.mem_cons_of_mem _ ?_)
          have e : (P ++ (k :: n :: tb bl va ec k.toNat B)).length = P.length + n.toNat := by
            simp only [List.length_append, List.length_cons, htl]
            omega
          rw [e] at hp
          exact hp)
        have e : (P ++ (k :: n :: tb bl va ec k.toNat B)).length = P.length + n.toNat := by
          simp only [List.length_append, List.length_cons, htl]
          omega
        rw [e] at h3
        simp only [List.append_assoc, List.cons_append] at h3
        exact h3
      · rw [if_neg hc] at hs
        exact absurd hs (hok _ List.mem_cons_self)
theorem stepsO (L : List UInt8) (bl va ec : Nat) (hok : ∀ p ∈ placesAt L 0, p.2 ≠ 0) : (placesAt L 0).foldl (stepO L bl va ec) L = turnT bl va ec L := by
  have := steps_do L bl va ec (stepO L bl va ec) (fun P Q k n B r h1 h2 h3 h4 => stepO_do L bl va ec P Q k n B r h1 h2 h3 h4) (L.length - 0 + 1) [] [] L rfl rfl hok
  exact this
theorem stepsT (L : List UInt8) (bl va ec : Nat) (hok : ∀ p ∈ placesAt L 0, p.2 ≠ 0) : (placesAt L 0).foldl (stepT bl va ec) L = turnT bl va ec L := by
  have := steps_do L bl va ec (stepT bl va ec) (fun P Q k n B r h1 h2 h3 h4 => stepR_do bl va ec P k n B r h3 h4) (L.length - 0 + 1) [] [] L rfl rfl hok
  exact this
/-- what is read has no place that may not be -/
theorem places_fine {L : List UInt8} {o : Op} (h : decL L = some o) : ∀ p ∈ placesAt L 0, p.2 ≠ 0 := by
  intro p hp h0
  obtain ⟨l1, l2, he⟩ := List.append_of_mem hp
  unfold decL at h
  rw [he] at h
  unfold foldD at h
  rw [List.foldlM_append] at h
  cases h1 : l1.foldlM (stepD L) (noneO, []) with
  | none => rw [h1] at h; simp at h
  | some s =>
    rw [h1] at h
    rw [show (some s >>= fun s => List.foldlM (stepD L) s (p :: l2)) = List.foldlM (stepD L) s (p :: l2) from rfl, List.foldlM_cons] at h
    have : stepD L s p = none := by unfold stepD; rw [if_pos (.inl h0)]
    rw [this] at h
    cases h
/-- ahead of a place that is still to come nothing has turned behind that place -/
theorem steps_pre (L : List UInt8) (bl va ec : Nat) (st : List UInt8 → Nat × Nat → List UInt8)
    (hst : ∀ (P Q : List UInt8) (k n : UInt8) (B r : List UInt8), L = Q ++ (k :: n :: (B ++ r)) → Q.length = P.length → longB k.toNat n.toNat = true → B.length + 2 = n.toNat → st (P ++ (k :: n :: (B ++ r))) (P.length, n.toNat) = P ++ (k :: n :: (tb bl va ec k.toNat B ++ r))) :
    ∀ (f : Nat) (P Q S : List UInt8) (l1 : List (Nat × Nat)) (p : Nat × Nat) (l2 : List (Nat × Nat)), L = Q ++ S → Q.length = P.length → (∀ p ∈ placesF f L P.length, p.2 ≠ 0) → placesF f L P.length = l1 ++ p :: l2 →
      ∃ P' Q' S', L = Q' ++ S' ∧ Q'.length = P'.length ∧ p.1 = P'.length ∧ l1.foldl st (P ++ S) = P' ++ S' := by
  intro f
  induction f with
  | zero => intro P Q S l1 p l2 _ _ _ h; simp [placesF] at h
  | succ f ih =>
    intro P Q S l1 p l2 hL hQ hok h
    have hd : L.drop P.length = S := by rw [hL, ← hQ]; exact List.drop_left
    rw [placesF] at hok h
    match S with
    | [] =>
      have : L.length ≤ P.length := List.drop_eq_nil_iff.1 hd
      rw [if_neg (fun h => by omega)] at h
      simp at h
    | [k] =>
      have hk := byteN_drop hd
      have hl := drop_lt hd
      by_cases h0 : k.toNat = 0
      · rw [if_neg (fun h => h.2 (hk.trans h0))] at h
        simp at h
      rw [if_pos ⟨by omega, by rw [hk]; exact h0⟩] at hok h
      by_cases h1 : k.toNat = 1
      · rw [if_pos (hk.trans h1)] at hok h
        have h3 := ih (P ++ [k]) (Q ++ [k]) [] l1 p l2 (by rw [hL]; simp) (by simp [hQ]) (by simpa using hok) (by simpa using h)
        simp only [List.append_assoc, List.cons_append, List.nil_append] at h3
        exact h3
      rw [if_neg (by rw [hk]; exact h1)] at hok
      exact absurd (stepN_drop1 hd) (hok _ List.mem_cons_self)
    | k :: n :: b =>
      have hk := byteN_drop hd
      have hl := drop_lt hd
      by_cases h0 : k.toNat = 0
      · rw [if_neg (fun h => h.2 (hk.trans h0))] at h
        simp at h
      rw [if_pos ⟨by omega, by rw [hk]; exact h0⟩] at hok h
      by_cases h1 : k.toNat = 1
      · rw [if_pos (hk.trans h1)] at hok h
        have h3 := ih (P ++ [k]) (Q ++ [k]) (n :: b) l1 p l2 (by rw [hL]; simp) (by simp [hQ]) (by simpa using hok) (by simpa using h)
        simp only [List.append_assoc, List.cons_append, List.nil_append] at h3
        exact h3
      rw [if_neg (by rw [hk]; exact h1)] at hok h
      have hs := stepN_drop2 hd
      by_cases hc : longB k.toNat n.toNat = true ∧ n.toNat ≤ b.length + 2
      · rw [if_pos hc] at hs
        have h2 := longB_two hc.1
        have hB := opt_body hc
        rw [hs, if_neg (by omega)] at hok h
        cases l1 with
        | nil =>
          injection h with h _
          subst h
          exact ⟨P, Q, k :: n :: b, hL, hQ, rfl, rfl⟩
        | cons q l1 =>
          injection h with hq h
          subst hq
          rw [List.foldl_cons]
          have hb := (List.take_append_drop (n.toNat - 2) b).symm
          generalize hB1 : b.take (n.toNat - 2) = B at *
          generalize hB2 : b.drop (n.toNat - 2) = r at *
          rw [hb] at hL ⊢
          rw [hst P Q k n B r hL hQ hc.1 hB]
          have htl := tb_len bl va ec k.toNat B (by rw [hB]; exact hc.1)
          have e : (P ++ (k :: n :: tb bl va ec k.toNat B)).length = P.length + n.toNat := by
            simp only [List.length_append, List.length_cons, htl]
            omega
          have h3 := ih (P ++ (k :: n :: tb bl va ec k.toNat B)) (Q ++ (k :: n :: B)) r l1 p l2 (by rw [hL]; simp) (by simp [hQ, htl]) (by
            intro p hp
            rw [e] at hp
            exact hok p (List.mem_cons_of_mem _ hp)) (by rw [e]; exact h)
          simp only [List.append_assoc, List.cons_append] at h3
          exact h3
      · rw [if_neg hc] at hs
        exact absurd hs (hok _ List.mem_cons_self)
theorem preT (L : List UInt8) (bl va ec : Nat) (hok : ∀ p ∈ placesAt L 0, p.2 ≠ 0) {l1 l2 : List (Nat × Nat)} {p : Nat × Nat} (h : placesAt L 0 = l1 ++ p :: l2) :
    ∃ P' Q' S', L = Q' ++ S' ∧ Q'.length = P'.length ∧ p.1 = P'.length ∧ l1.foldl (stepT bl va ec) L = P' ++ S' :=
  steps_pre L bl va ec (stepT bl va ec) (fun P Q k n B r h1 h2 h3 h4 => stepR_do bl va ec P k n B r h3 h4) (L.length - 0 + 1) [] [] L l1 p l2 rfl rfl hok h
theorem byteN_appd (P S : List UInt8) (i : Nat) : byteN (P ++ S) (P.length + i) = byteN S i := by
  unfold byteN
  rw [List.getElem?_append_right (by omega), Nat.add_sub_cancel_left]
/-- .. so the kind and the length that stand there are those that came in -/
theorem preT_byte (L : List UInt8) (bl va ec : Nat) (hok : ∀ p ∈ placesAt L 0, p.2 ≠ 0) {l1 l2 : List (Nat × Nat)} {p : Nat × Nat} (h : placesAt L 0 = l1 ++ p :: l2) :
    (l1.foldl (stepT bl va ec) L).length = L.length ∧ ∀ i, byteN (l1.foldl (stepT bl va ec) L) (p.1 + i) = byteN L (p.1 + i) := by
  obtain ⟨P, Q, S, h1, h2, h3, h4⟩ := preT L bl va ec hok h
  rw [h4]
  refine ⟨?_, fun i => ?_⟩
  · rw [h1, List.length_append, List.length_append, h2]
  · rw [h3, byteN_appd, h1, ← h2, byteN_appd]
theorem addL_len {M : List UInt8} {k d : Nat} (h : k + 4 ≤ M.length) : (addL M k d).length = M.length := by rw [addL_put]; exact putL_len h
theorem addL_low {M : List UInt8} {k d i : Nat} (h : k + 4 ≤ M.length) (hi : i < k) : byteN (addL M k d) i = byteN M i := by
  rw [addL_put]
  unfold putL byteN
  rw [List.append_assoc, List.getElem?_append_left (by rw [List.length_take]; omega), List.getElem?_take_of_lt hi]
/-- words, each with a number of its own -/
def putsL (S : List UInt8) (f : Nat → Nat) : Nat → Nat → Nat → List UInt8 → List UInt8
  | 0, _, _, M => M
  | n + 1, j, k, M => putsL S f n (j + 1) (k + 4) (putL M k ((atL S k + f j) % 4294967296))
theorem putsL_words (S : List UInt8) (d : Nat) : ∀ (n j k : Nat) (M : List UInt8), putsL S (fun _ => d) n j k M = wordsT S d n k M := by
  intro n
  induction n with
  | zero => intro j k M; rfl
  | succ n ih => intro j k M; exact ih (j + 1) (k + 4) _
theorem stepO_time {L M : List UInt8} {bl va ec i m : Nat} (h : byteN L i = 8) : stepO L bl va ec M (i, m) = putsL L (fun j => if j = 0 then va else ec) 2 0 (i + 2) M := by
  unfold stepO
  simp only [h]
  rw [if_pos trivial]
  rfl
theorem stepO_blocks {L M : List UInt8} {bl va ec i m : Nat} (h : byteN L i = 5) : stepO L bl va ec M (i, m) = putsL L (fun _ => bl) ((m - 2) / 4) 0 (i + 2) M := by
  unfold stepO
  simp only [h]
  rw [if_neg (by decide), if_pos trivial, putsL_words]
theorem stepO_other {L M : List UInt8} {bl va ec i m : Nat} (h8 : byteN L i ≠ 8) (h5 : byteN L i ≠ 5) : stepO L bl va ec M (i, m) = M := by
  unfold stepO
  simp only []
  rw [if_neg h8, if_neg h5]
theorem wordsL_len (S : List UInt8) (d : Nat) : ∀ (n k : Nat) (M : List UInt8), k + 4 * n ≤ M.length → (wordsT S d n k M).length = M.length := by
  intro n
  induction n with
  | zero => intro k M _; rfl
  | succ n ih =>
    intro k M h
    have h1 : (putL M k ((atL S k + d) % 4294967296)).length = M.length := putL_len (by omega)
    rw [wordsT, ih _ _ (by rw [h1]; omega), h1]
theorem stepO_len {L M : List UInt8} (bl va ec : Nat) {p : Nat × Nat} (ok : OkP L p) (h0 : p.2 ≠ 0) (hM : M.length = L.length) : (stepO L bl va ec M p).length = L.length := by
  obtain ⟨i, m⟩ := p
  obtain ⟨q1, q2, q3, q4⟩ := ok
  dsimp only at q1 q2 q3 q4 h0
  obtain ⟨r1, r2, r3, r4, r5⟩ := stepN_pos (L := L) (i := i) (by rw [← q4]; exact h0)
  rw [← q4] at r3 r4 r5
  rw [← r4] at r2
  by_cases h8 : byteN L i = 8
  · rw [h8] at r2
    have hm : m = 10 := by simpa [longB] using r2
    unfold stepO
    simp only [h8]
    rw [if_pos trivial, putL_len, putL_len, hM]
    · omega
    · rw [putL_len] <;> omega
  by_cases h5 : byteN L i = 5
  · unfold stepO
    simp only [h5]
    rw [if_neg (by decide), if_pos trivial, wordsL_len, hM]
    omega
  rw [stepO_other h8 h5, hM]
theorem foldO_len {L : List UInt8} (bl va ec : Nat) : ∀ (l : List (Nat × Nat)) (M : List UInt8), (∀ p ∈ l, OkP L p ∧ p.2 ≠ 0) → M.length = L.length → (l.foldl (stepO L bl va ec) M).length = L.length := by
  intro l
  induction l with
  | nil => intro M _ h; exact h
  | cons p l ih =>
    intro M h hM
    rw [List.foldl_cons]
    exact ih _ (fun q hq => h q (List.mem_cons_of_mem _ hq)) (stepO_len bl va ec (h p List.mem_cons_self).1 (h p List.mem_cons_self).2 hM)
end Go.Proofs.Ytengegcnocdkoaa
end
section
set_option maxRecDepth 20000
namespace Go.Proofs.Ytengegcnocdkoaa
open Go.RowKit
/-- a shift -/
structure Sh where
  x0 : Nat
  x1 : Nat
  x2 : Nat
  x3 : Nat
  x4 : Nat
  x5 : Nat
  x6 : Nat
  x7 : Nat
  x8 : Int
  x9 : Int
structure Sh.wf (x : Sh) : Prop where
  b0 : x.x0 < 4294967296
  b1 : x.x1 < 65536
  b2 : x.x2 < 4294967296
  b3 : x.x3 < 65536
  b4 : x.x4 < 4294967296
  b5 : x.x5 < 4294967296
  b6 : x.x6 < 4294967296
  b7 : x.x7 < 4294967296
def Sh.c (x : Sh) : Array Value := #[.int .u32 (x.x0 : Int), .int .u16 (x.x1 : Int), .int .u32 (x.x2 : Int), .int .u16 (x.x3 : Int), .int .u32 (x.x4 : Int), .int .u32 (x.x5 : Int), .int .u32 (x.x6 : Int), .int .u32 (x.x7 : Int), .int .i64 x.x8, .int .i64 x.x9]
def ackB (f : Nat) : Bool := bits .and .u8 (f : Int) 16 != 0
def turnS (s : Sg) (x : Sh) : Sg := ⟨x.x0, x.x1, x.x2, x.x3, (s.s4 + x.x4) % 4294967296, if ackB s.f = true then (s.s5 + x.x5) % 4294967296 else s.s5, s.f, (winT s.s7 x.x8 x.x9).toNat, turnO x.x5 x.x6 x.x7 s.o, s.d⟩
theorem winT_nn (a : Nat) (u v : Int) : 0 ≤ winT a u v := by
  unfold winT
  have hp : (0 : Int) < 2 ^ scN u := Int.pow_pos (by decide)
  have hq : (0 : Int) < 2 ^ scN v := Int.pow_pos (by decide)
  have hm : (0 : Int) ≤ (a : Int) * 2 ^ scN u := Int.mul_nonneg (by omega) (by omega)
  have := Int.ediv_nonneg hm (Int.le_of_lt hq)
  omega
theorem cast_am (a b : Nat) : (((a + b) % 4294967296 : Nat) : Int) = ((a : Int) + (b : Int)) % 4294967296 := by omega
theorem cast_if (p : Prop) [Decidable p] (a b : Nat) : ((if p then a else b : Nat) : Int) = if p then (a : Int) else (b : Int) := by split <;> rfl
theorem turnedC_S (s : Sg) (x : Sh) (A : Option Addr) (c : Nat) : turnedC s.s4 s.s5 s.f s.s7 s.o.mss s.o.scale s.o.sack s.o.time s.o.val s.o.echo s.d x.x0 x.x1 x.x2 x.x3 x.x4 x.x5 x.x6 x.x7 x.x8 x.x9 (.slice A (turnS s x).o.bl.length c) = (turnS s x).c A c := by
  have hw : (((winT s.s7 x.x8 x.x9).toNat : Nat) : Int) = winT s.s7 x.x8 x.x9 := Int.toNat_of_nonneg (winT_nn _ _ _)
  unfold turnedC Sg.c segO turnS turnO ackB
  simp only [hw]
  congr 1
  simp only [cast_if, cast_am]
def TurnSP (s : Sg) (x : Sh) (w : World) (e : Ending) (w' : World) : Prop := ∃ A c, e = .returned (.agg ((turnS s x).c A c)) ∧ BlR w' A (turnS s x).o.bl ∧ Below w.heap.size w w'
theorem pturned_any (w : World) (s : Sg) (x : Sh) (A : Option Addr) (c : Nat) (hs : s.wf) (hr : BlR w A s.o.bl) (hn : s.o.bl.length ≤ 1000) : Calls Try.prog 23 #[.agg (s.c A c), .agg x.c] w (TurnSP s x w) := by
  have h := turned_any s.s0 s.s1 s.s2 s.s3 s.s4 s.s5 s.f s.s7 s.o.mss s.o.scale s.o.sack s.o.time A s.o.bl.length c s.o.val s.o.echo s.d x.x0 x.x1 x.x2 x.x3 x.x4 x.x5 x.x6 x.x7 x.x8 x.x9 s.o.bl w rfl hr (by omega) (by omega) (by have := hs.b7; omega)
  refine h.mono ?_
  rintro e w' ⟨A', c', _, rfl, ho, hb⟩
  refine ⟨A', c', ?_, ?_, hb⟩
  · have hl : (s.o.bl.map (turnB x.x5)).length = (turnS s x).o.bl.length := by
      show _ = (s.o.bl.map (tP x.x5)).length
      simp
    rw [hl, turnedC_S]
  · obtain ⟨A2, c2, e1, e2⟩ := own_blrC ho
    injection e1 with e1
    subst e1
    exact e2
theorem rpturned_any (w : World) (s : Sg) (x : Sh) (A : Option Addr) (c : Nat) (hs : s.wf) (hr : BlR w A s.o.bl) (hn : s.o.bl.length ≤ 1000) : Calls Try.prog 24 #[.agg (s.c A c), .agg x.c] w (TurnSP s x w) := by
  have h := rturned_any s.s0 s.s1 s.s2 s.s3 s.s4 s.s5 s.f s.s7 s.o.mss s.o.scale s.o.sack s.o.time A s.o.bl.length c s.o.val s.o.echo s.d x.x0 x.x1 x.x2 x.x3 x.x4 x.x5 x.x6 x.x7 x.x8 x.x9 s.o.bl w rfl hr (by omega) (by omega) (by have := hs.b7; omega)
  refine h.mono ?_
  rintro e w' ⟨A', c', _, rfl, ho, hb⟩
  refine ⟨A', c', ?_, ?_, hb⟩
  · have hl : (s.o.bl.map (turnB x.x5)).length = (turnS s x).o.bl.length := by
      show _ = (s.o.bl.map (tP x.x5)).length
      simp
    rw [hl, turnedC_S]
  · obtain ⟨A2, c2, e1, e2⟩ := own_blrC ho
    injection e1 with e1
    subst e1
    exact e2
end Go.Proofs.Ytengegcnocdkoaa
end
section
set_option maxRecDepth 20000
namespace Go.Proofs.Ytengegcnocdkoaa
open Go.RowKit Go.BigFrame
theorem out_new {O : Nat → Prop} {w W : World} {t : Nat} (h : Out O w W) (ht : w.heap.size ≤ t) (i : Nat) (v : Value) : Out O w (W.setCell ⟨t, i, none⟩ v) :=
  ⟨h.os, h.tape, h.output, by simpa [World.setCell] using h.size, fun j hj hn => (Below.heap_setCell W ⟨t, i, none⟩ v j (by simp; omega)).trans (h.block j hj hn)⟩
/-- the row of a slice at a block's beginning -/
def rowOf (A : Option Addr) (n c : Nat) : Option Nat := (Value.slice A n c).ownBlock
def TakePost (base : Nat) (w : World) (o : Op) (A : Option Addr) (c : Nat) (k : Nat) (B : List UInt8) (e : Ending) (w' : World) : Prop :=
  ∃ (o2 : Op) (A2 : Option Addr) (c2 : Nat) (ok : Bool), e = .returned (.tuple #[.agg (optC o2 A2 c2), .bool ok]) ∧ w'.ownsRow base 92 2 (.slice A2 o2.bl.length c2) o2.bl.length (o2.bl.flatMap blkC) ∧ Out (fun i => rowOf A o.bl.length c = some i) w w' ∧
    (rowOf A2 o2.bl.length c2 = rowOf A o.bl.length c ∨ ∃ g, w.heap.size ≤ g ∧ rowOf A2 o2.bl.length c2 = some g) ∧ takeI o k B = if ok then some o2 else none
set_option maxRecDepth 100000 in
set_option maxHeartbeats 2000000 in
theorem take_2 (base : Nat) (w : World) (o : Op) (A : Option Addr) (c : Nat) (k : Nat) (S : ByteArray) (B : List UInt8) (hSB : S.data.toList = B) (hl : longB k (B.length + 2) = true) (hBl : B.length ≤ 253)
    (hv : w.ownsRow base 92 2 (.slice A o.bl.length c) o.bl.length (o.bl.flatMap blkC)) (hb : base ≤ w.heap.size) (hn : o.bl.length ≤ 2000) (h2 : k = 2) :
    Calls Try.prog 82 #[.agg (optC o A c), .int .i64 (k : Int), .string S] w (TakePost base w o A c k B) := by
  have hsz : S.size = B.length := by rw [← hSB]; simp
  have u2 : ((k : Int) == 2) = true := by rw [h2]; rfl
  have hB2 : B.length = 2 := by rw [h2] at hl; simp [longB] at hl; omega
  obtain ⟨q, hq⟩ : ∃ q, q = numL B := ⟨_, rfl⟩
  have hq16 : q < 65536 := by
    rw [hq]
    match B, hB2 with
    | [a, b], _ =>
      have h1 := UInt8.toNat_lt a
      have h2 := UInt8.toNat_lt b
      rw [numL2]
      omega
  have hnum : ∀ W, Calls Try.prog 54 #[.string S] W fun e w' => e = .returned (.int .u32 (q : Int)) ∧ W = w' := fun W => by
    have := ref_num S W (by rw [hsz, hB2]; simp [maxLen])
    rw [hSB, ← hq] at this
    exact this
  obtain ⟨o2, ho2⟩ : ∃ z, z = ({ o with mss := q } : Op) := ⟨_, rfl⟩
  have htk : takeI o k B = if q = 0 then none else some o2 := by
    unfold takeI
    rw [if_pos h2, ← hq, Nat.mod_eq_of_lt hq16, ← ho2]
  have HB2 := Lib.hid hB2
  clear hB2
  have Hq := Lib.hid hq
  clear hq
  have H2 := Lib.hid h2
  clear h2
  have Hnum := Lib.hid hnum
  clear hnum
  have Ho2 := Lib.hid ho2
  clear ho2
  have hb0 : Below w.heap.size w w := Below.refl _ _
  have HB := Lib.hid hb0
  clear hb0
  have hv1 := (hv.alloc (.cells #[.int .u16 (o.mss : Int), .int .i64 o.scale, .bool o.sack, .slice A o.bl.length c, .bool o.time, .int .u32 (o.val : Int), .int .u32 (o.echo : Int)] 28)).alloc (.cells #[.int .u16 0, .int .i64 0, .bool false, .slice none 0 0, .bool false, .int .u32 0, .int .u32 0] 28)
  have HSB := Lib.hid hSB
  clear hSB
  have Hl := Lib.hid hl
  clear hl
  have Hv := Lib.hid hv
  clear hv
  have Hb := Lib.hid hb
  clear hb
  have Hn := Lib.hid hn
  clear hn
  have HBl := Lib.hid hBl
  clear hBl
  have Hsz := Lib.hid hsz
  clear hsz
  unfold optC
  go_enter Try.func82, Try.ntmps82
  go_upto_region 1 with fail
  have hx := Blk.alloc (Blk.new w 28 #[.int .u16 (o.mss : Int), .int .i64 o.scale, .bool o.sack, .slice A o.bl.length c, .bool o.time, .int .u32 (o.val : Int), .int .u32 (o.echo : Int)]) (.cells #[.int .u16 0, .int .i64 0, .bool false, .slice none 0 0, .bool false, .int .u32 0, .int .u32 0] 28)
  have hr := Blk.new (w.alloc (.cells #[.int .u16 (o.mss : Int), .int .i64 o.scale, .bool o.sack, .slice A o.bl.length c, .bool o.time, .int .u32 (o.val : Int), .int .u32 (o.echo : Int)] 28)) 28 #[.int .u16 0, .int .i64 0, .bool false, .slice none 0 0, .bool false, .int .u32 0, .int .u32 0]
  rw [show (w.alloc (.cells #[.int .u16 (o.mss : Int), .int .i64 o.scale, .bool o.sack, .slice A o.bl.length c, .bool o.time, .int .u32 (o.val : Int), .int .u32 (o.echo : Int)] 28)).heap.size = w.heap.size + 1 by simp] at hr
  have hB := Below.alloc (Below.alloc (HB.out) (Nat.le_trans HB.out.size (by simp <;> omega)) (.cells #[.int .u16 (o.mss : Int), .int .i64 o.scale, .bool o.sack, .slice A o.bl.length c, .bool o.time, .int .u32 (o.val : Int), .int .u32 (o.echo : Int)] 28)) (Nat.le_trans HB.out.size (by simp <;> omega)) (.cells #[.int .u16 0, .int .i64 0, .bool false, .slice none 0 0, .bool false, .int .u32 0, .int .u32 0] 28)
  clear HB
  obtain ⟨gr, hger⟩ : ∃ g, g = w.heap.size + 1 := ⟨_, rfl⟩
  rw [← hger] at hr ⊢
  obtain ⟨gx, hgex⟩ : ∃ g, g = w.heap.size := ⟨_, rfl⟩
  rw [← hgex] at hx ⊢
  have hne_x_r : gx ≠ gr := by omega
  have hle_x : w.heap.size ≤ gx := by omega
  have hle_r : w.heap.size ≤ gr := by omega
  clear hgex hger
  generalize (w.alloc _).alloc _ = wn1 at *
  have Hx := Lib.hid hx
  clear hx
  have Hr := Lib.hid hr
  clear hr
  have HB := Lib.hid hB
  clear hB
  obtain ⟨W1, hW1⟩ : ∃ W, W = wn1 := ⟨_, rfl⟩
  rw [← hW1] at Hx Hr HB hv1 ⊢
  clear hW1
  have hx1 : Blk W1 gx 28 (optC o A c) := Hx.out
  have hx1' := Hx.out
  have c0 := hx1'.cell 0
  have c1 := hx1'.cell 1
  have c2 := hx1'.cell 2
  have c3 := hx1'.cell 3
  have c4 := hx1'.cell 4
  have c5 := hx1'.cell 5
  have c6 := hx1'.cell 6
  simp at c0 c1 c2 c3 c4 c5 c6
  have fr := hx1'.frozen
  have Hx1 := Lib.hid hx1
  have Hv1 := Lib.hid hv1
  have hout1 : Out (fun i => rowOf A o.bl.length c = some i) w W1 := Out.of_below HB.out
  have Hout1 := Lib.hid hout1
  clear hx1 hx1' hv1 hout1
  by_cases hq0 : q = 0
  · rw [if_pos hq0] at htk
    have q1 : ((q : Int) != 0) = false := by rw [hq0]; rfl
    have Htk : Hid (takeI o k B = if false then some o2 else none) := Lib.hid htk
    clear htk hq0
    go_upto_region 4 with (go_at_call 54; refine (Hnum.out _).mono ?_; rintro e w' ⟨rfl, rfl⟩)
    generalize hWf : World.setCell _ _ _ = W2
    have hx2 : Blk W2 gx 28 (optC o2 A c) := by
      rw [← hWf]
      have := Hx1.out.set_ 0 (.int .u16 (q : Int))
      rw [Ho2.out]
      simpa [optC] using this
    have hg2 : W1.grownBy W2 (some gx) := by
      rw [← hWf]
      exact only_set (World.grownBy.refl _ _) _ _
    have hr2 := Hr.out.grown hg2 (fun e => hne_x_r (Option.some.inj e).symm)
    have hout2 : Out (fun i => rowOf A o.bl.length c = some i) w W2 := by
      rw [← hWf]
      exact out_new Hout1.out hle_x _ _
    have hv2 : W2.ownsRow base 92 2 (.slice A o2.bl.length c) o2.bl.length (o2.bl.flatMap blkC) := by
      have := Hv1.out.kept hg2 (.inr (own_blk_ne Hv1.out Hx1.out (by decide)))
      rw [Ho2.out]
      exact this
    have Hrow2 := Lib.hid (show rowOf A o2.bl.length c = rowOf A o.bl.length c ∨ ∃ g, w.heap.size ≤ g ∧ rowOf A o2.bl.length c = some g from .inl (by rw [Ho2.out]))
    clear hWf hg2 c0 c1 c2 c3 c4 c5 c6 fr
    have Hx2 := Lib.hid hx2
    clear hx2
    have Hr2 := Lib.hid hr2
    clear hr2
    have Hout2 := Lib.hid hout2
    clear hout2
    have Hv2 := Lib.hid hv2
    clear hv2
    have hm2 : o2.mss = q := by rw [Ho2.out]
    have hx2' := Hx2.out
    unfold optC at hx2'
    have z0 := hx2'.cell 0
    have z1 := hx2'.cell 1
    have z2 := hx2'.cell 2
    have z3 := hx2'.cell 3
    have z4 := hx2'.cell 4
    have z5 := hx2'.cell 5
    have z6 := hx2'.cell 6
    simp at z0 z1 z2 z3 z4 z5 z6
    have e0 := Hr2.out.cell 0
    have e1 := Hr2.out.cell 1
    have e2 := Hr2.out.cell 2
    have e3 := Hr2.out.cell 3
    have e4 := Hr2.out.cell 4
    have e5 := Hr2.out.cell 5
    have e6 := Hr2.out.cell 6
    simp at e0 e1 e2 e3 e4 e5 e6
    have fq := Hr2.out.frozen
    rw [hm2] at z0
    clear hx2'
    have Hm2 := Lib.hid hm2
    clear hm2
    go_region
    go_wp2_with fail
    generalize hWf : World.drew _ = Wf
    have hrF : Blk Wf gr 28 #[.int .u16 (q : Int), .int .i64 o2.scale, .bool o2.sack, .slice A o2.bl.length c, .bool o2.time, .int .u32 (o2.val : Int), .int .u32 (o2.echo : Int)] := by
      rw [← hWf]
      have := ((((((Hr2.out.set_ 0 (.int .u16 (q : Int))).set_ 1 (.int .i64 o2.scale)).set_ 2 (.bool o2.sack)).set_ 3 (.slice A o2.bl.length c)).set_ 4 (.bool o2.time)).set_ 5 (.int .u32 (o2.val : Int))).set_ 6 (.int .u32 (o2.echo : Int))
      simpa using this.drew
    have houtF : Out (fun i => rowOf A o.bl.length c = some i) w Wf := by
      rw [← hWf]
      refine Out.trans (O' := fun _ => False) ?_ (Out.of_below (Below.drew (Below.refl _ _))) (fun _ _ e => e.elim)
      repeat (refine out_new ?_ hle_r _ _)
      exact Hout2.out
    have hvF : Wf.ownsRow base 92 2 (.slice A o2.bl.length c) o2.bl.length (o2.bl.flatMap blkC) := by
      refine Hv2.out.kept (row := some gr) ?_ (.inr (own_blk_ne Hv2.out Hr2.out (by decide)))
      rw [← hWf]
      refine only_drew ?_
      repeat (refine only_set ?_ _ _)
      exact World.grownBy.refl _ _
    clear hWf z0 z1 z2 z3 z4 z5 z6 e0 e1 e2 e3 e4 e5 e6 fq
    have y0 := hrF.cell 0
    have y1 := hrF.cell 1
    have y2 := hrF.cell 2
    have y3 := hrF.cell 3
    have y4 := hrF.cell 4
    have y5 := hrF.cell 5
    have y6 := hrF.cell 6
    simp at y0 y1 y2 y3 y4 y5 y6
    exact bodyPost_ret (v := .tuple #[.agg #[.int .u16 (q : Int), .int .i64 o2.scale, .bool o2.sack, .slice A o2.bl.length c, .bool o2.time, .int .u32 (o2.val : Int), .int .u32 (o2.echo : Int)], .bool false]) (by simp [results, Try.results82, go_sem, y0, y1, y2, y3, y4, y5, y6]) rfl ⟨o2, A, c, false, by unfold optC; rw [Hm2.out], hvF, houtF, Hrow2.out, Htk.out⟩
  · rw [if_neg hq0] at htk
    have q1 : ((q : Int) != 0) = true := by simp; omega
    have Htk : Hid (takeI o k B = if true then some o2 else none) := Lib.hid htk
    clear htk hq0
    go_upto_region 4 with (go_at_call 54; refine (Hnum.out _).mono ?_; rintro e w' ⟨rfl, rfl⟩)
    generalize hWf : World.setCell _ _ _ = W2
    have hx2 : Blk W2 gx 28 (optC o2 A c) := by
      rw [← hWf]
      have := Hx1.out.set_ 0 (.int .u16 (q : Int))
      rw [Ho2.out]
      simpa [optC] using this
    have hg2 : W1.grownBy W2 (some gx) := by
      rw [← hWf]
      exact only_set (World.grownBy.refl _ _) _ _
    have hr2 := Hr.out.grown hg2 (fun e => hne_x_r (Option.some.inj e).symm)
    have hout2 : Out (fun i => rowOf A o.bl.length c = some i) w W2 := by
      rw [← hWf]
      exact out_new Hout1.out hle_x _ _
    have hv2 : W2.ownsRow base 92 2 (.slice A o2.bl.length c) o2.bl.length (o2.bl.flatMap blkC) := by
      have := Hv1.out.kept hg2 (.inr (own_blk_ne Hv1.out Hx1.out (by decide)))
      rw [Ho2.out]
      exact this
    have Hrow2 := Lib.hid (show rowOf A o2.bl.length c = rowOf A o.bl.length c ∨ ∃ g, w.heap.size ≤ g ∧ rowOf A o2.bl.length c = some g from .inl (by rw [Ho2.out]))
    clear hWf hg2 c0 c1 c2 c3 c4 c5 c6 fr
    have Hx2 := Lib.hid hx2
    clear hx2
    have Hr2 := Lib.hid hr2
    clear hr2
    have Hout2 := Lib.hid hout2
    clear hout2
    have Hv2 := Lib.hid hv2
    clear hv2
    have hm2 : o2.mss = q := by rw [Ho2.out]
    have hx2' := Hx2.out
    unfold optC at hx2'
    have z0 := hx2'.cell 0
    have z1 := hx2'.cell 1
    have z2 := hx2'.cell 2
    have z3 := hx2'.cell 3
    have z4 := hx2'.cell 4
    have z5 := hx2'.cell 5
    have z6 := hx2'.cell 6
    simp at z0 z1 z2 z3 z4 z5 z6
    have e0 := Hr2.out.cell 0
    have e1 := Hr2.out.cell 1
    have e2 := Hr2.out.cell 2
    have e3 := Hr2.out.cell 3
    have e4 := Hr2.out.cell 4
    have e5 := Hr2.out.cell 5
    have e6 := Hr2.out.cell 6
    simp at e0 e1 e2 e3 e4 e5 e6
    have fq := Hr2.out.frozen
    rw [hm2] at z0
    clear hx2'
    have Hm2 := Lib.hid hm2
    clear hm2
    go_region
    go_wp2_with fail
    generalize hWf : World.drew _ = Wf
    have hrF : Blk Wf gr 28 #[.int .u16 (q : Int), .int .i64 o2.scale, .bool o2.sack, .slice A o2.bl.length c, .bool o2.time, .int .u32 (o2.val : Int), .int .u32 (o2.echo : Int)] := by
      rw [← hWf]
      have := ((((((Hr2.out.set_ 0 (.int .u16 (q : Int))).set_ 1 (.int .i64 o2.scale)).set_ 2 (.bool o2.sack)).set_ 3 (.slice A o2.bl.length c)).set_ 4 (.bool o2.time)).set_ 5 (.int .u32 (o2.val : Int))).set_ 6 (.int .u32 (o2.echo : Int))
      simpa using this.drew
    have houtF : Out (fun i => rowOf A o.bl.length c = some i) w Wf := by
      rw [← hWf]
      refine Out.trans (O' := fun _ => False) ?_ (Out.of_below (Below.drew (Below.refl _ _))) (fun _ _ e => e.elim)
      repeat (refine out_new ?_ hle_r _ _)
      exact Hout2.out
    have hvF : Wf.ownsRow base 92 2 (.slice A o2.bl.length c) o2.bl.length (o2.bl.flatMap blkC) := by
      refine Hv2.out.kept (row := some gr) ?_ (.inr (own_blk_ne Hv2.out Hr2.out (by decide)))
      rw [← hWf]
      refine only_drew ?_
      repeat (refine only_set ?_ _ _)
      exact World.grownBy.refl _ _
    clear hWf z0 z1 z2 z3 z4 z5 z6 e0 e1 e2 e3 e4 e5 e6 fq
    have y0 := hrF.cell 0
    have y1 := hrF.cell 1
    have y2 := hrF.cell 2
    have y3 := hrF.cell 3
    have y4 := hrF.cell 4
    have y5 := hrF.cell 5
    have y6 := hrF.cell 6
    simp at y0 y1 y2 y3 y4 y5 y6
    exact bodyPost_ret (v := .tuple #[.agg #[.int .u16 (q : Int), .int .i64 o2.scale, .bool o2.sack, .slice A o2.bl.length c, .bool o2.time, .int .u32 (o2.val : Int), .int .u32 (o2.echo : Int)], .bool true]) (by simp [results, Try.results82, go_sem, y0, y1, y2, y3, y4, y5, y6]) rfl ⟨o2, A, c, true, by unfold optC; rw [Hm2.out], hvF, houtF, Hrow2.out, Htk.out⟩
set_option maxRecDepth 100000 in
set_option maxHeartbeats 2000000 in
theorem take_3 (base : Nat) (w : World) (o : Op) (A : Option Addr) (c : Nat) (k : Nat) (S : ByteArray) (B : List UInt8) (hSB : S.data.toList = B) (hl : longB k (B.length + 2) = true) (hBl : B.length ≤ 253)
    (hv : w.ownsRow base 92 2 (.slice A o.bl.length c) o.bl.length (o.bl.flatMap blkC)) (hb : base ≤ w.heap.size) (hn : o.bl.length ≤ 2000) (h3 : k = 3) :
    Calls Try.prog 82 #[.agg (optC o A c), .int .i64 (k : Int), .string S] w (TakePost base w o A c k B) := by
  have hsz : S.size = B.length := by rw [← hSB]; simp
  have u2 : ((k : Int) == 2) = false := by simp; omega
  have u3 : ((k : Int) == 3) = true := by simp; omega
  have u4 : ((k : Int) == 4) = false := by simp; omega
  have u5 : ((k : Int) == 5) = false := by simp; omega
  have u8 : ((k : Int) == 8) = false := by simp; omega
  have hB1 : B.length = 1 := by rw [h3] at hl; simp [longB] at hl; omega
  obtain ⟨q, hq⟩ : ∃ q, q = byteN B 0 := ⟨_, rfl⟩
  have hq256 : q < 256 := by rw [hq]; exact byteN_lt _ _
  have hix : ∀ W, (Instr.index 9 (.string S) (.int .i64 0)).run Try.prog W = .ok (.int .u8 (q : Int)) W := fun W => by
    have := index_at S 0 (by rw [hSB]; omega) W
    rw [hSB, ← hq] at this
    exact this
  obtain ⟨o2, ho2⟩ : ∃ z, z = ({ o with scale := min (q : Int) 14 } : Op) := ⟨_, rfl⟩
  have htk : takeI o k B = if true then some o2 else none := by
    unfold takeI
    rw [if_neg (by omega), if_pos h3, ← hq, ← ho2]
    rfl
  have HB1 := Lib.hid hB1
  clear hB1
  have Hq := Lib.hid hq
  clear hq
  have H3 := Lib.hid h3
  clear h3
  have Ho2 := Lib.hid ho2
  clear ho2
  have Htk := Lib.hid htk
  clear htk
  have hb0 : Below w.heap.size w w := Below.refl _ _
  have HB := Lib.hid hb0
  clear hb0
  have hv1 := (hv.alloc (.cells #[.int .u16 (o.mss : Int), .int .i64 o.scale, .bool o.sack, .slice A o.bl.length c, .bool o.time, .int .u32 (o.val : Int), .int .u32 (o.echo : Int)] 28)).alloc (.cells #[.int .u16 0, .int .i64 0, .bool false, .slice none 0 0, .bool false, .int .u32 0, .int .u32 0] 28)
  have HSB := Lib.hid hSB
  clear hSB
  have Hl := Lib.hid hl
  clear hl
  have Hv := Lib.hid hv
  clear hv
  have Hb := Lib.hid hb
  clear hb
  have Hn := Lib.hid hn
  clear hn
  have HBl := Lib.hid hBl
  clear hBl
  have Hsz := Lib.hid hsz
  clear hsz
  unfold optC
  go_enter Try.func82, Try.ntmps82
  go_upto_region 1 with fail
  have hx := Blk.alloc (Blk.new w 28 #[.int .u16 (o.mss : Int), .int .i64 o.scale, .bool o.sack, .slice A o.bl.length c, .bool o.time, .int .u32 (o.val : Int), .int .u32 (o.echo : Int)]) (.cells #[.int .u16 0, .int .i64 0, .bool false, .slice none 0 0, .bool false, .int .u32 0, .int .u32 0] 28)
  have hr := Blk.new (w.alloc (.cells #[.int .u16 (o.mss : Int), .int .i64 o.scale, .bool o.sack, .slice A o.bl.length c, .bool o.time, .int .u32 (o.val : Int), .int .u32 (o.echo : Int)] 28)) 28 #[.int .u16 0, .int .i64 0, .bool false, .slice none 0 0, .bool false, .int .u32 0, .int .u32 0]
  rw [show (w.alloc (.cells #[.int .u16 (o.mss : Int), .int .i64 o.scale, .bool o.sack, .slice A o.bl.length c, .bool o.time, .int .u32 (o.val : Int), .int .u32 (o.echo : Int)] 28)).heap.size = w.heap.size + 1 by simp] at hr
  have hB := Below.alloc (Below.alloc (HB.out) (Nat.le_trans HB.out.size (by simp <;> omega)) (.cells #[.int .u16 (o.mss : Int), .int .i64 o.scale, .bool o.sack, .slice A o.bl.length c, .bool o.time, .int .u32 (o.val : Int), .int .u32 (o.echo : Int)] 28)) (Nat.le_trans HB.out.size (by simp <;> omega)) (.cells #[.int .u16 0, .int .i64 0, .bool false, .slice none 0 0, .bool false, .int .u32 0, .int .u32 0] 28)
  clear HB
  obtain ⟨gr, hger⟩ : ∃ g, g = w.heap.size + 1 := ⟨_, rfl⟩
  rw [← hger] at hr ⊢
  obtain ⟨gx, hgex⟩ : ∃ g, g = w.heap.size := ⟨_, rfl⟩
  rw [← hgex] at hx ⊢
  have hne_x_r : gx ≠ gr := by omega
  have hle_x : w.heap.size ≤ gx := by omega
  have hle_r : w.heap.size ≤ gr := by omega
  clear hgex hger
  generalize (w.alloc _).alloc _ = wn2 at *
  have Hx := Lib.hid hx
  clear hx
  have Hr := Lib.hid hr
  clear hr
  have HB := Lib.hid hB
  clear hB
  obtain ⟨W1, hW1⟩ : ∃ W, W = wn2 := ⟨_, rfl⟩
  rw [← hW1] at Hx Hr HB hv1 ⊢
  clear hW1
  have hx1 : Blk W1 gx 28 (optC o A c) := Hx.out
  have hx1' := Hx.out
  have c0 := hx1'.cell 0
  have c1 := hx1'.cell 1
  have c2 := hx1'.cell 2
  have c3 := hx1'.cell 3
  have c4 := hx1'.cell 4
  have c5 := hx1'.cell 5
  have c6 := hx1'.cell 6
  simp at c0 c1 c2 c3 c4 c5 c6
  have fr := hx1'.frozen
  have Hx1 := Lib.hid hx1
  have Hv1 := Lib.hid hv1
  have hout1 : Out (fun i => rowOf A o.bl.length c = some i) w W1 := Out.of_below HB.out
  have Hout1 := Lib.hid hout1
  clear hx1 hx1' hv1 hout1
  go_upto_region 18 with fail
  generalize hWf : World.setCell _ _ _ = W2
  have hx2 : Blk W2 gx 28 (optC o2 A c) := by
    rw [← hWf]
    have := Hx1.out.set_ 1 (.int .i64 (min (q : Int) 14))
    rw [Ho2.out]
    simpa [optC] using this
  have hg2 : W1.grownBy W2 (some gx) := by
    rw [← hWf]
    exact only_set (World.grownBy.refl _ _) _ _
  have hr2 := Hr.out.grown hg2 (fun e => hne_x_r (Option.some.inj e).symm)
  have hout2 : Out (fun i => rowOf A o.bl.length c = some i) w W2 := by
    rw [← hWf]
    exact out_new Hout1.out hle_x _ _
  have hv2 : W2.ownsRow base 92 2 (.slice A o2.bl.length c) o2.bl.length (o2.bl.flatMap blkC) := by
    have := Hv1.out.kept hg2 (.inr (own_blk_ne Hv1.out Hx1.out (by decide)))
    rw [Ho2.out]
    exact this
  have Hrow2 := Lib.hid (show rowOf A o2.bl.length c = rowOf A o.bl.length c ∨ ∃ g, w.heap.size ≤ g ∧ rowOf A o2.bl.length c = some g from .inl (by rw [Ho2.out]))
  clear hWf hg2 c0 c1 c2 c3 c4 c5 c6 fr
  have Hx2 := Lib.hid hx2
  clear hx2
  have Hr2 := Lib.hid hr2
  clear hr2
  have Hout2 := Lib.hid hout2
  clear hout2
  have Hv2 := Lib.hid hv2
  clear hv2
  have hx2' := Hx2.out
  unfold optC at hx2'
  have z0 := hx2'.cell 0
  have z1 := hx2'.cell 1
  have z2 := hx2'.cell 2
  have z3 := hx2'.cell 3
  have z4 := hx2'.cell 4
  have z5 := hx2'.cell 5
  have z6 := hx2'.cell 6
  simp at z0 z1 z2 z3 z4 z5 z6
  have fq := Hr2.out.frozen
  have e0 := Hr2.out.cell 0
  have e1 := Hr2.out.cell 1
  have e2 := Hr2.out.cell 2
  have e3 := Hr2.out.cell 3
  have e4 := Hr2.out.cell 4
  have e5 := Hr2.out.cell 5
  have e6 := Hr2.out.cell 6
  simp at e0 e1 e2 e3 e4 e5 e6
  clear hx2'
  go_wp2_with fail
  generalize hWf : World.setCell _ _ _ = Wf
  have hrF : Blk Wf gr 28 #[.int .u16 (o2.mss : Int), .int .i64 o2.scale, .bool o2.sack, .slice A o2.bl.length c, .bool o2.time, .int .u32 (o2.val : Int), .int .u32 (o2.echo : Int)] := by
    rw [← hWf]
    have := ((((((Hr2.out.set_ 0 (.int .u16 (o2.mss : Int))).set_ 1 (.int .i64 o2.scale)).set_ 2 (.bool o2.sack)).set_ 3 (.slice A o2.bl.length c)).set_ 4 (.bool o2.time)).set_ 5 (.int .u32 (o2.val : Int))).set_ 6 (.int .u32 (o2.echo : Int))
    simpa using this
  have houtF : Out (fun i => rowOf A o.bl.length c = some i) w Wf := by
    rw [← hWf]
    repeat (refine out_new ?_ hle_r _ _)
    exact Hout2.out
  have hvF : Wf.ownsRow base 92 2 (.slice A o2.bl.length c) o2.bl.length (o2.bl.flatMap blkC) := by
    refine Hv2.out.kept (row := some gr) ?_ (.inr (own_blk_ne Hv2.out Hr2.out (by decide)))
    rw [← hWf]
    repeat (refine only_set ?_ _ _)
    exact World.grownBy.refl _ _
  clear hWf z0 z1 z2 z3 z4 z5 z6 e0 e1 e2 e3 e4 e5 e6 fq
  have y0 := hrF.cell 0
  have y1 := hrF.cell 1
  have y2 := hrF.cell 2
  have y3 := hrF.cell 3
  have y4 := hrF.cell 4
  have y5 := hrF.cell 5
  have y6 := hrF.cell 6
  simp at y0 y1 y2 y3 y4 y5 y6
  exact bodyPost_ret (v := .tuple #[.agg (optC o2 A c), .bool true]) (by simp [results, Try.results82, go_sem, optC, y0, y1, y2, y3, y4, y5, y6]) rfl ⟨o2, A, c, true, rfl, hvF, houtF, Hrow2.out, Htk.out⟩
set_option maxRecDepth 100000 in
set_option maxHeartbeats 2000000 in
theorem take_4 (base : Nat) (w : World) (o : Op) (A : Option Addr) (c : Nat) (k : Nat) (S : ByteArray) (B : List UInt8) (hSB : S.data.toList = B) (hl : longB k (B.length + 2) = true) (hBl : B.length ≤ 253)
    (hv : w.ownsRow base 92 2 (.slice A o.bl.length c) o.bl.length (o.bl.flatMap blkC)) (hb : base ≤ w.heap.size) (hn : o.bl.length ≤ 2000) (h4 : k = 4) :
    Calls Try.prog 82 #[.agg (optC o A c), .int .i64 (k : Int), .string S] w (TakePost base w o A c k B) := by
  have hsz : S.size = B.length := by rw [← hSB]; simp
  have u2 : ((k : Int) == 2) = false := by simp; omega
  have u3 : ((k : Int) == 3) = false := by simp; omega
  have u4 : ((k : Int) == 4) = true := by simp; omega
  have u5 : ((k : Int) == 5) = false := by simp; omega
  have u8 : ((k : Int) == 8) = false := by simp; omega
  obtain ⟨o2, ho2⟩ : ∃ z, z = ({ o with sack := true } : Op) := ⟨_, rfl⟩
  have htk : takeI o k B = if true then some o2 else none := by
    unfold takeI
    rw [if_neg (by omega), if_neg (by omega), if_pos h4, ← ho2]
    rfl
  have H4 := Lib.hid h4
  clear h4
  have Ho2 := Lib.hid ho2
  clear ho2
  have Htk := Lib.hid htk
  clear htk
  have hb0 : Below w.heap.size w w := Below.refl _ _
  have HB := Lib.hid hb0
  clear hb0
  have hv1 := (hv.alloc (.cells #[.int .u16 (o.mss : Int), .int .i64 o.scale, .bool o.sack, .slice A o.bl.length c, .bool o.time, .int .u32 (o.val : Int), .int .u32 (o.echo : Int)] 28)).alloc (.cells #[.int .u16 0, .int .i64 0, .bool false, .slice none 0 0, .bool false, .int .u32 0, .int .u32 0] 28)
  have HSB := Lib.hid hSB
  clear hSB
  have Hl := Lib.hid hl
  clear hl
  have Hv := Lib.hid hv
  clear hv
  have Hb := Lib.hid hb
  clear hb
  have Hn := Lib.hid hn
  clear hn
  have HBl := Lib.hid hBl
  clear hBl
  have Hsz := Lib.hid hsz
  clear hsz
  unfold optC
  go_enter Try.func82, Try.ntmps82
  go_upto_region 1 with fail
  have hx := Blk.alloc (Blk.new w 28 #[.int .u16 (o.mss : Int), .int .i64 o.scale, .bool o.sack, .slice A o.bl.length c, .bool o.time, .int .u32 (o.val : Int), .int .u32 (o.echo : Int)]) (.cells #[.int .u16 0, .int .i64 0, .bool false, .slice none 0 0, .bool false, .int .u32 0, .int .u32 0] 28)
  have hr := Blk.new (w.alloc (.cells #[.int .u16 (o.mss : Int), .int .i64 o.scale, .bool o.sack, .slice A o.bl.length c, .bool o.time, .int .u32 (o.val : Int), .int .u32 (o.echo : Int)] 28)) 28 #[.int .u16 0, .int .i64 0, .bool false, .slice none 0 0, .bool false, .int .u32 0, .int .u32 0]
  rw [show (w.alloc (.cells #[.int .u16 (o.mss : Int), .int .i64 o.scale, .bool o.sack, .slice A o.bl.length c, .bool o.time, .int .u32 (o.val : Int), .int .u32 (o.echo : Int)] 28)).heap.size = w.heap.size + 1 by simp] at hr
  have hB := Below.alloc (Below.alloc (HB.out) (Nat.le_trans HB.out.size (by simp <;> omega)) (.cells #[.int .u16 (o.mss : Int), .int .i64 o.scale, .bool o.sack, .slice A o.bl.length c, .bool o.time, .int .u32 (o.val : Int), .int .u32 (o.echo : Int)] 28)) (Nat.le_trans HB.out.size (by simp <;> omega)) (.cells #[.int .u16 0, .int .i64 0, .bool false, .slice none 0 0, .bool false, .int .u32 0, .int .u32 0] 28)
  clear HB
  obtain ⟨gr, hger⟩ : ∃ g, g = w.heap.size + 1 := ⟨_, rfl⟩
  rw [← hger] at hr ⊢
  obtain ⟨gx, hgex⟩ : ∃ g, g = w.heap.size := ⟨_, rfl⟩
  rw [← hgex] at hx ⊢
  have hne_x_r : gx ≠ gr := by omega
  have hle_x : w.heap.size ≤ gx := by omega
  have hle_r : w.heap.size ≤ gr := by omega
  clear hgex hger
  generalize (w.alloc _).alloc _ = wn3 at *
  have Hx := Lib.hid hx
  clear hx
  have Hr := Lib.hid hr
  clear hr
  have HB := Lib.hid hB
  clear hB
  obtain ⟨W1, hW1⟩ : ∃ W, W = wn3 := ⟨_, rfl⟩
  rw [← hW1] at Hx Hr HB hv1 ⊢
  clear hW1
  have hx1 : Blk W1 gx 28 (optC o A c) := Hx.out
  have hx1' := Hx.out
  have c0 := hx1'.cell 0
  have c1 := hx1'.cell 1
  have c2 := hx1'.cell 2
  have c3 := hx1'.cell 3
  have c4 := hx1'.cell 4
  have c5 := hx1'.cell 5
  have c6 := hx1'.cell 6
  simp at c0 c1 c2 c3 c4 c5 c6
  have fr := hx1'.frozen
  have Hx1 := Lib.hid hx1
  have Hv1 := Lib.hid hv1
  have hout1 : Out (fun i => rowOf A o.bl.length c = some i) w W1 := Out.of_below HB.out
  have Hout1 := Lib.hid hout1
  clear hx1 hx1' hv1 hout1
  go_upto_region 18 with fail
  generalize hWf : World.setCell _ _ _ = W2
  have hx2 : Blk W2 gx 28 (optC o2 A c) := by
    rw [← hWf]
    have := Hx1.out.set_ 2 (.bool true)
    rw [Ho2.out]
    simpa [optC] using this
  have hg2 : W1.grownBy W2 (some gx) := by
    rw [← hWf]
    exact only_set (World.grownBy.refl _ _) _ _
  have hr2 := Hr.out.grown hg2 (fun e => hne_x_r (Option.some.inj e).symm)
  have hout2 : Out (fun i => rowOf A o.bl.length c = some i) w W2 := by
    rw [← hWf]
    exact out_new Hout1.out hle_x _ _
  have hv2 : W2.ownsRow base 92 2 (.slice A o2.bl.length c) o2.bl.length (o2.bl.flatMap blkC) := by
    have := Hv1.out.kept hg2 (.inr (own_blk_ne Hv1.out Hx1.out (by decide)))
    rw [Ho2.out]
    exact this
  have Hrow2 := Lib.hid (show rowOf A o2.bl.length c = rowOf A o.bl.length c ∨ ∃ g, w.heap.size ≤ g ∧ rowOf A o2.bl.length c = some g from .inl (by rw [Ho2.out]))
  clear hWf hg2 c0 c1 c2 c3 c4 c5 c6 fr
  have Hx2 := Lib.hid hx2
  clear hx2
  have Hr2 := Lib.hid hr2
  clear hr2
  have Hout2 := Lib.hid hout2
  clear hout2
  have Hv2 := Lib.hid hv2
  clear hv2
  have hx2' := Hx2.out
  unfold optC at hx2'
  have z0 := hx2'.cell 0
  have z1 := hx2'.cell 1
  have z2 := hx2'.cell 2
  have z3 := hx2'.cell 3
  have z4 := hx2'.cell 4
  have z5 := hx2'.cell 5
  have z6 := hx2'.cell 6
  simp at z0 z1 z2 z3 z4 z5 z6
  have fq := Hr2.out.frozen
  have e0 := Hr2.out.cell 0
  have e1 := Hr2.out.cell 1
  have e2 := Hr2.out.cell 2
  have e3 := Hr2.out.cell 3
  have e4 := Hr2.out.cell 4
  have e5 := Hr2.out.cell 5
  have e6 := Hr2.out.cell 6
  simp at e0 e1 e2 e3 e4 e5 e6
  clear hx2'
  go_wp2_with fail
  generalize hWf : World.setCell _ _ _ = Wf
  have hrF : Blk Wf gr 28 #[.int .u16 (o2.mss : Int), .int .i64 o2.scale, .bool o2.sack, .slice A o2.bl.length c, .bool o2.time, .int .u32 (o2.val : Int), .int .u32 (o2.echo : Int)] := by
    rw [← hWf]
    have := ((((((Hr2.out.set_ 0 (.int .u16 (o2.mss : Int))).set_ 1 (.int .i64 o2.scale)).set_ 2 (.bool o2.sack)).set_ 3 (.slice A o2.bl.length c)).set_ 4 (.bool o2.time)).set_ 5 (.int .u32 (o2.val : Int))).set_ 6 (.int .u32 (o2.echo : Int))
    simpa using this
  have houtF : Out (fun i => rowOf A o.bl.length c = some i) w Wf := by
    rw [← hWf]
    repeat (refine out_new ?_ hle_r _ _)
    exact Hout2.out
  have hvF : Wf.ownsRow base 92 2 (.slice A o2.bl.length c) o2.bl.length (o2.bl.flatMap blkC) := by
    refine Hv2.out.kept (row := some gr) ?_ (.inr (own_blk_ne Hv2.out Hr2.out (by decide)))
    rw [← hWf]
    repeat (refine only_set ?_ _ _)
    exact World.grownBy.refl _ _
  clear hWf z0 z1 z2 z3 z4 z5 z6 e0 e1 e2 e3 e4 e5 e6 fq
  have y0 := hrF.cell 0
  have y1 := hrF.cell 1
  have y2 := hrF.cell 2
  have y3 := hrF.cell 3
  have y4 := hrF.cell 4
  have y5 := hrF.cell 5
  have y6 := hrF.cell 6
  simp at y0 y1 y2 y3 y4 y5 y6
  exact bodyPost_ret (v := .tuple #[.agg (optC o2 A c), .bool true]) (by simp [results, Try.results82, go_sem, optC, y0, y1, y2, y3, y4, y5, y6]) rfl ⟨o2, A, c, true, rfl, hvF, houtF, Hrow2.out, Htk.out⟩
set_option maxRecDepth 100000 in
set_option maxHeartbeats 2000000 in
theorem take_x (base : Nat) (w : World) (o : Op) (A : Option Addr) (c : Nat) (k : Nat) (S : ByteArray) (B : List UInt8) (hSB : S.data.toList = B) (hl : longB k (B.length + 2) = true) (hBl : B.length ≤ 253)
    (hv : w.ownsRow base 92 2 (.slice A o.bl.length c) o.bl.length (o.bl.flatMap blkC)) (hb : base ≤ w.heap.size) (hn : o.bl.length ≤ 2000) (hx : k ≠ 2 ∧ k ≠ 3 ∧ k ≠ 4 ∧ k ≠ 5 ∧ k ≠ 8) :
    Calls Try.prog 82 #[.agg (optC o A c), .int .i64 (k : Int), .string S] w (TakePost base w o A c k B) := by
  have hsz : S.size = B.length := by rw [← hSB]; simp
  have u2 : ((k : Int) == 2) = false := by simp; omega
  have u3 : ((k : Int) == 3) = false := by simp; omega
  have u4 : ((k : Int) == 4) = false := by simp; omega
  have u5 : ((k : Int) == 5) = false := by simp; omega
  have u8 : ((k : Int) == 8) = false := by simp; omega
  have htk : takeI o k B = if true then some o else none := by
    unfold takeI
    rw [if_neg (by omega), if_neg (by omega), if_neg (by omega), if_neg (by omega), if_neg (by omega)]
    rfl
  have Hx := Lib.hid hx
  clear hx
  have Htk := Lib.hid htk
  clear htk
  have hb0 : Below w.heap.size w w := Below.refl _ _
  have HB := Lib.hid hb0
  clear hb0
  have hv1 := (hv.alloc (.cells #[.int .u16 (o.mss : Int), .int .i64 o.scale, .bool o.sack, .slice A o.bl.length c, .bool o.time, .int .u32 (o.val : Int), .int .u32 (o.echo : Int)] 28)).alloc (.cells #[.int .u16 0, .int .i64 0, .bool false, .slice none 0 0, .bool false, .int .u32 0, .int .u32 0] 28)
  have HSB := Lib.hid hSB
  clear hSB
  have Hl := Lib.hid hl
  clear hl
  have Hv := Lib.hid hv
  clear hv
  have Hb := Lib.hid hb
  clear hb
  have Hn := Lib.hid hn
  clear hn
  have HBl := Lib.hid hBl
  clear hBl
  have Hsz := Lib.hid hsz
  clear hsz
  unfold optC
  go_enter Try.func82, Try.ntmps82
  go_upto_region 1 with fail
  have hx := Blk.alloc (Blk.new w 28 #[.int .u16 (o.mss : Int), .int .i64 o.scale, .bool o.sack, .slice A o.bl.length c, .bool o.time, .int .u32 (o.val : Int), .int .u32 (o.echo : Int)]) (.cells #[.int .u16 0, .int .i64 0, .bool false, .slice none 0 0, .bool false, .int .u32 0, .int .u32 0] 28)
  have hr := Blk.new (w.alloc (.cells #[.int .u16 (o.mss : Int), .int .i64 o.scale, .bool o.sack, .slice A o.bl.length c, .bool o.time, .int .u32 (o.val : Int), .int .u32 (o.echo : Int)] 28)) 28 #[.int .u16 0, .int .i64 0, .bool false, .slice none 0 0, .bool false, .int .u32 0, .int .u32 0]
  rw [show (w.alloc (.cells #[.int .u16 (o.mss : Int), .int .i64 o.scale, .bool o.sack, .slice A o.bl.length c, .bool o.time, .int .u32 (o.val : Int), .int .u32 (o.echo : Int)] 28)).heap.size = w.heap.size + 1 by simp] at hr
  have hB := Below.alloc (Below.alloc (HB.out) (Nat.le_trans HB.out.size (by simp <;> omega)) (.cells #[.int .u16 (o.mss : Int), .int .i64 o.scale, .bool o.sack, .slice A o.bl.length c, .bool o.time, .int .u32 (o.val : Int), .int .u32 (o.echo : Int)] 28)) (Nat.le_trans HB.out.size (by simp <;> omega)) (.cells #[.int .u16 0, .int .i64 0, .bool false, .slice none 0 0, .bool false, .int .u32 0, .int .u32 0] 28)
  clear HB
  obtain ⟨gr, hger⟩ : ∃ g, g = w.heap.size + 1 := ⟨_, rfl⟩
  rw [← hger] at hr ⊢
  obtain ⟨gx, hgex⟩ : ∃ g, g = w.heap.size := ⟨_, rfl⟩
  rw [← hgex] at hx ⊢
  have hne_x_r : gx ≠ gr := by omega
  have hle_x : w.heap.size ≤ gx := by omega
  have hle_r : w.heap.size ≤ gr := by omega
  clear hgex hger
  generalize (w.alloc _).alloc _ = wn4 at *
  have Hx := Lib.hid hx
  clear hx
  have Hr := Lib.hid hr
  clear hr
  have HB := Lib.hid hB
  clear hB
  obtain ⟨W1, hW1⟩ : ∃ W, W = wn4 := ⟨_, rfl⟩
  rw [← hW1] at Hx Hr HB hv1 ⊢
  clear hW1
  have hx1 : Blk W1 gx 28 (optC o A c) := Hx.out
  have hx1' := Hx.out
  have c0 := hx1'.cell 0
  have c1 := hx1'.cell 1
  have c2 := hx1'.cell 2
  have c3 := hx1'.cell 3
  have c4 := hx1'.cell 4
  have c5 := hx1'.cell 5
  have c6 := hx1'.cell 6
  simp at c0 c1 c2 c3 c4 c5 c6
  have fr := hx1'.frozen
  have Hx1 := Lib.hid hx1
  have Hv1 := Lib.hid hv1
  have hout1 : Out (fun i => rowOf A o.bl.length c = some i) w W1 := Out.of_below HB.out
  have Hout1 := Lib.hid hout1
  clear hx1 hx1' hv1 hout1
  go_upto_region 18 with fail
  clear c0 c1 c2 c3 c4 c5 c6 fr
  obtain ⟨o2, ho2⟩ : ∃ z, z = o := ⟨_, rfl⟩
  have Hrow2 : Hid (rowOf A o2.bl.length c = rowOf A o.bl.length c ∨ ∃ g, w.heap.size ≤ g ∧ rowOf A o2.bl.length c = some g) := Lib.hid (.inl (by rw [ho2]))
  have Hx2 := Hx1
  have Hv2 := Hv1
  have Hout2 := Hout1
  have Hr2 := Hr
  rw [← ho2] at Hx2
  rw [← ho2] at Hv2
  have htk' := Htk.out
  rw [if_pos rfl] at htk'
  clear Htk
  have Htk : Hid (takeI o k B = if true then some o2 else none) := Lib.hid (by rw [htk', ho2]; rfl)
  clear htk' ho2
  obtain ⟨W2, hW2⟩ : ∃ W, W = W1 := ⟨_, rfl⟩
  rw [← hW2] at Hx2 Hv2 Hout2 Hr2 ⊢
  clear hW2 Hx1 Hv1 Hout1
  have hx2' := Hx2.out
  unfold optC at hx2'
  have z0 := hx2'.cell 0
  have z1 := hx2'.cell 1
  have z2 := hx2'.cell 2
  have z3 := hx2'.cell 3
  have z4 := hx2'.cell 4
  have z5 := hx2'.cell 5
  have z6 := hx2'.cell 6
  simp at z0 z1 z2 z3 z4 z5 z6
  have fq := Hr2.out.frozen
  have e0 := Hr2.out.cell 0
  have e1 := Hr2.out.cell 1
  have e2 := Hr2.out.cell 2
  have e3 := Hr2.out.cell 3
  have e4 := Hr2.out.cell 4
  have e5 := Hr2.out.cell 5
  have e6 := Hr2.out.cell 6
  simp at e0 e1 e2 e3 e4 e5 e6
  clear hx2'
  go_wp2_with fail
  generalize hWf : World.setCell _ _ _ = Wf
  have hrF : Blk Wf gr 28 #[.int .u16 (o2.mss : Int), .int .i64 o2.scale, .bool o2.sack, .slice A o2.bl.length c, .bool o2.time, .int .u32 (o2.val : Int), .int .u32 (o2.echo : Int)] := by
    rw [← hWf]
    have := ((((((Hr2.out.set_ 0 (.int .u16 (o2.mss : Int))).set_ 1 (.int .i64 o2.scale)).set_ 2 (.bool o2.sack)).set_ 3 (.slice A o2.bl.length c)).set_ 4 (.bool o2.time)).set_ 5 (.int .u32 (o2.val : Int))).set_ 6 (.int .u32 (o2.echo : Int))
    simpa using this
  have houtF : Out (fun i => rowOf A o.bl.length c = some i) w Wf := by
    rw [← hWf]
    repeat (refine out_new ?_ hle_r _ _)
    exact Hout2.out
  have hvF : Wf.ownsRow base 92 2 (.slice A o2.bl.length c) o2.bl.length (o2.bl.flatMap blkC) := by
    refine Hv2.out.kept (row := some gr) ?_ (.inr (own_blk_ne Hv2.out Hr2.out (by decide)))
    rw [← hWf]
    repeat (refine only_set ?_ _ _)
    exact World.grownBy.refl _ _
  clear hWf z0 z1 z2 z3 z4 z5 z6 e0 e1 e2 e3 e4 e5 e6 fq
  have y0 := hrF.cell 0
  have y1 := hrF.cell 1
  have y2 := hrF.cell 2
  have y3 := hrF.cell 3
  have y4 := hrF.cell 4
  have y5 := hrF.cell 5
  have y6 := hrF.cell 6
  simp at y0 y1 y2 y3 y4 y5 y6
  exact bodyPost_ret (v := .tuple #[.agg (optC o2 A c), .bool true]) (by simp [results, Try.results82, go_sem, optC, y0, y1, y2, y3, y4, y5, y6]) rfl ⟨o2, A, c, true, rfl, hvF, houtF, Hrow2.out, Htk.out⟩
set_option maxRecDepth 100000 in
set_option maxHeartbeats 2000000 in
theorem take_8 (base : Nat) (w : World) (o : Op) (A : Option Addr) (c : Nat) (k : Nat) (S : ByteArray) (B : List UInt8) (hSB : S.data.toList = B) (hl : longB k (B.length + 2) = true) (hBl : B.length ≤ 253)
    (hv : w.ownsRow base 92 2 (.slice A o.bl.length c) o.bl.length (o.bl.flatMap blkC)) (hb : base ≤ w.heap.size) (hn : o.bl.length ≤ 2000) (h8 : k = 8) :
    Calls Try.prog 82 #[.agg (optC o A c), .int .i64 (k : Int), .string S] w (TakePost base w o A c k B) := by
  have hsz : S.size = B.length := by rw [← hSB]; simp
  have u2 : ((k : Int) == 2) = false := by simp; omega
  have u3 : ((k : Int) == 3) = false := by simp; omega
  have u4 : ((k : Int) == 4) = false := by simp; omega
  have u5 : ((k : Int) == 5) = false := by simp; omega
  have u8 : ((k : Int) == 8) = true := by simp; omega
  have hB8 : B.length = 8 := by rw [h8] at hl; exact long8 hl
  have e1 : (S.extract 0 4).data.toList = B.take 4 := by
    rw [ByteArray.data_extract, Array.toList_extract, List.extract_eq_take_drop, hSB]
    simp
  have e2 : (S.extract 4 8).data.toList = B.drop 4 := by
    rw [ByteArray.data_extract, Array.toList_extract, List.extract_eq_take_drop, hSB]
    exact List.take_of_length_le (by rw [List.length_drop]; omega)
  obtain ⟨q1, hq1⟩ : ∃ q, q = numL (B.take 4) := ⟨_, rfl⟩
  obtain ⟨q2, hq2⟩ : ∃ q, q = numL (B.drop 4) := ⟨_, rfl⟩
  have hsz8 : S.size = 8 := by rw [hsz, hB8]
  have hn1 : ∀ W, Calls Try.prog 54 #[.string (S.extract 0 4)] W fun e w' => e = .returned (.int .u32 (q1 : Int)) ∧ W = w' := fun W => by
    have := ref_num (S.extract 0 4) W (by simp [maxLen]; omega)
    rw [e1, ← hq1] at this
    exact this
  have hn2 : ∀ W, Calls Try.prog 54 #[.string (S.extract 4 8)] W fun e w' => e = .returned (.int .u32 (q2 : Int)) ∧ W = w' := fun W => by
    have := ref_num (S.extract 4 8) W (by simp [maxLen]; omega)
    rw [e2, ← hq2] at this
    exact this
  obtain ⟨o2, ho2⟩ : ∃ z, z = ({ o with time := true, val := q1, echo := q2 } : Op) := ⟨_, rfl⟩
  have htk : takeI o k B = if true then some o2 else none := by
    unfold takeI
    rw [if_neg (by omega), if_neg (by omega), if_neg (by omega), if_pos h8, ← hq1, ← hq2, ← ho2]
    rfl
  have HB8 := Lib.hid hB8
  clear hB8
  have Hq1 := Lib.hid hq1
  clear hq1
  have Hq2 := Lib.hid hq2
  clear hq2
  have H8 := Lib.hid h8
  clear h8
  have Ho2 := Lib.hid ho2
  clear ho2
  have Htk := Lib.hid htk
  clear htk
  have E1 := Lib.hid e1
  clear e1
  have E2 := Lib.hid e2
  clear e2
  have Hn1 := Lib.hid hn1
  clear hn1
  have Hn2 := Lib.hid hn2
  clear hn2
  have hb0 : Below w.heap.size w w := Below.refl _ _
  have HB := Lib.hid hb0
  clear hb0
  have hv1 := (hv.alloc (.cells #[.int .u16 (o.mss : Int), .int .i64 o.scale, .bool o.sack, .slice A o.bl.length c, .bool o.time, .int .u32 (o.val : Int), .int .u32 (o.echo : Int)] 28)).alloc (.cells #[.int .u16 0, .int .i64 0, .bool false, .slice none 0 0, .bool false, .int .u32 0, .int .u32 0] 28)
  have HSB := Lib.hid hSB
  clear hSB
  have Hl := Lib.hid hl
  clear hl
  have Hv := Lib.hid hv
  clear hv
  have Hb := Lib.hid hb
  clear hb
  have Hn := Lib.hid hn
  clear hn
  have HBl := Lib.hid hBl
  clear hBl
  have Hsz := Lib.hid hsz
  clear hsz
  unfold optC
  go_enter Try.func82, Try.ntmps82
  go_upto_region 1 with fail
  have hx := Blk.alloc (Blk.new w 28 #[.int .u16 (o.mss : Int), .int .i64 o.scale, .bool o.sack, .slice A o.bl.length c, .bool o.time, .int .u32 (o.val : Int), .int .u32 (o.echo : Int)]) (.cells #[.int .u16 0, .int .i64 0, .bool false, .slice none 0 0, .bool false, .int .u32 0, .int .u32 0] 28)
  have hr := Blk.new (w.alloc (.cells #[.int .u16 (o.mss : Int), .int .i64 o.scale, .bool o.sack, .slice A o.bl.length c, .bool o.time, .int .u32 (o.val : Int), .int .u32 (o.echo : Int)] 28)) 28 #[.int .u16 0, .int .i64 0, .bool false, .slice none 0 0, .bool false, .int .u32 0, .int .u32 0]
  rw [show (w.alloc (.cells #[.int .u16 (o.mss : Int), .int .i64 o.scale, .bool o.sack, .slice A o.bl.length c, .bool o.time, .int .u32 (o.val : Int), .int .u32 (o.echo : Int)] 28)).heap.size = w.heap.size + 1 by simp] at hr
  have hB := Below.alloc (Below.alloc (HB.out) (Nat.le_trans HB.out.size (by simp <;> omega)) (.cells #[.int .u16 (o.mss : Int), .int .i64 o.scale, .bool o.sack, .slice A o.bl.length c, .bool o.time, .int .u32 (o.val : Int), .int .u32 (o.echo : Int)] 28)) (Nat.le_trans HB.out.size (by simp <;> omega)) (.cells #[.int .u16 0, .int .i64 0, .bool false, .slice none 0 0, .bool false, .int .u32 0, .int .u32 0] 28)
  clear HB
  obtain ⟨gr, hger⟩ : ∃ g, g = w.heap.size + 1 := ⟨_, rfl⟩
  rw [← hger] at hr ⊢
  obtain ⟨gx, hgex⟩ : ∃ g, g = w.heap.size := ⟨_, rfl⟩
  rw [← hgex] at hx ⊢
  have hne_x_r : gx ≠ gr := by omega
  have hle_x : w.heap.size ≤ gx := by omega
  have hle_r : w.heap.size ≤ gr := by omega
  clear hgex hger
  generalize (w.alloc _).alloc _ = wn5 at *
  have Hx := Lib.hid hx
  clear hx
  have Hr := Lib.hid hr
  clear hr
  have HB := Lib.hid hB
  clear hB
  obtain ⟨W1, hW1⟩ : ∃ W, W = wn5 := ⟨_, rfl⟩
  rw [← hW1] at Hx Hr HB hv1 ⊢
  clear hW1
  have hx1 : Blk W1 gx 28 (optC o A c) := Hx.out
  have hx1' := Hx.out
  have c0 := hx1'.cell 0
  have c1 := hx1'.cell 1
  have c2 := hx1'.cell 2
  have c3 := hx1'.cell 3
  have c4 := hx1'.cell 4
  have c5 := hx1'.cell 5
  have c6 := hx1'.cell 6
  simp at c0 c1 c2 c3 c4 c5 c6
  have fr := hx1'.frozen
  have Hx1 := Lib.hid hx1
  have Hv1 := Lib.hid hv1
  have hout1 : Out (fun i => rowOf A o.bl.length c = some i) w W1 := Out.of_below HB.out
  have Hout1 := Lib.hid hout1
  clear hx1 hx1' hv1 hout1
  clear Hsz
  go_wp2_with fail
  with_reducible refine (Hn1.out _).mono ?_
  rintro e w' ⟨rfl, rfl⟩
  go_wp2_with fail
  with_reducible refine (Hn2.out _).mono ?_
  rintro e w' ⟨rfl, rfl⟩
  go_upto_region 18 with fail
  generalize hWf : World.setCell _ _ _ = W2
  have hx2 : Blk W2 gx 28 (optC o2 A c) := by
    rw [← hWf]
    have := ((Hx1.out.set_ 4 (.bool true)).set_ 5 (.int .u32 (q1 : Int))).set_ 6 (.int .u32 (q2 : Int))
    rw [Ho2.out]
    simpa [optC] using this
  have hg2 : W1.grownBy W2 (some gx) := by
    rw [← hWf]
    repeat (refine only_set ?_ _ _)
    exact World.grownBy.refl _ _
  have hr2 := Hr.out.grown hg2 (fun e => hne_x_r (Option.some.inj e).symm)
  have hout2 : Out (fun i => rowOf A o.bl.length c = some i) w W2 := by
    rw [← hWf]
    repeat (refine out_new ?_ hle_x _ _)
    exact Hout1.out
  have Hrow2 := Lib.hid (show rowOf A o2.bl.length c = rowOf A o.bl.length c ∨ ∃ g, w.heap.size ≤ g ∧ rowOf A o2.bl.length c = some g from .inl (by rw [Ho2.out]))
  have hv2 : W2.ownsRow base 92 2 (.slice A o2.bl.length c) o2.bl.length (o2.bl.flatMap blkC) := by
    have := Hv1.out.kept hg2 (.inr (own_blk_ne Hv1.out Hx1.out (by decide)))
    rw [Ho2.out]
    exact this
  clear hWf hg2 c0 c1 c2 c3 c4 c5 c6 fr hsz8
  have Hx2 := Lib.hid hx2
  clear hx2
  have Hr2 := Lib.hid hr2
  clear hr2
  have Hout2 := Lib.hid hout2
  clear hout2
  have Hv2 := Lib.hid hv2
  clear hv2
  have hx2' := Hx2.out
  unfold optC at hx2'
  have z0 := hx2'.cell 0
  have z1 := hx2'.cell 1
  have z2 := hx2'.cell 2
  have z3 := hx2'.cell 3
  have z4 := hx2'.cell 4
  have z5 := hx2'.cell 5
  have z6 := hx2'.cell 6
  simp at z0 z1 z2 z3 z4 z5 z6
  have fq := Hr2.out.frozen
  have e0 := Hr2.out.cell 0
  have e1 := Hr2.out.cell 1
  have e2 := Hr2.out.cell 2
  have e3 := Hr2.out.cell 3
  have e4 := Hr2.out.cell 4
  have e5 := Hr2.out.cell 5
  have e6 := Hr2.out.cell 6
  simp at e0 e1 e2 e3 e4 e5 e6
  clear hx2'
  go_wp2_with fail
  generalize hWf : World.setCell _ _ _ = Wf
  have hrF : Blk Wf gr 28 #[.int .u16 (o2.mss : Int), .int .i64 o2.scale, .bool o2.sack, .slice A o2.bl.length c, .bool o2.time, .int .u32 (o2.val : Int), .int .u32 (o2.echo : Int)] := by
    rw [← hWf]
    have := ((((((Hr2.out.set_ 0 (.int .u16 (o2.mss : Int))).set_ 1 (.int .i64 o2.scale)).set_ 2 (.bool o2.sack)).set_ 3 (.slice A o2.bl.length c)).set_ 4 (.bool o2.time)).set_ 5 (.int .u32 (o2.val : Int))).set_ 6 (.int .u32 (o2.echo : Int))
    simpa using this
  have houtF : Out (fun i => rowOf A o.bl.length c = some i) w Wf := by
    rw [← hWf]
    repeat (refine out_new ?_ hle_r _ _)
    exact Hout2.out
  have hvF : Wf.ownsRow base 92 2 (.slice A o2.bl.length c) o2.bl.length (o2.bl.flatMap blkC) := by
    refine Hv2.out.kept (row := some gr) ?_ (.inr (own_blk_ne Hv2.out Hr2.out (by decide)))
    rw [← hWf]
    repeat (refine only_set ?_ _ _)
    exact World.grownBy.refl _ _
  clear hWf z0 z1 z2 z3 z4 z5 z6 e0 e1 e2 e3 e4 e5 e6 fq
  have y0 := hrF.cell 0
  have y1 := hrF.cell 1
  have y2 := hrF.cell 2
  have y3 := hrF.cell 3
  have y4 := hrF.cell 4
  have y5 := hrF.cell 5
  have y6 := hrF.cell 6
  simp at y0 y1 y2 y3 y4 y5 y6
  exact bodyPost_ret (v := .tuple #[.agg (optC o2 A c), .bool true]) (by simp [results, Try.results82, go_sem, optC, y0, y1, y2, y3, y4, y5, y6]) rfl ⟨o2, A, c, true, rfl, hvF, houtF, Hrow2.out, Htk.out⟩
end Go.Proofs.Ytengegcnocdkoaa
end
