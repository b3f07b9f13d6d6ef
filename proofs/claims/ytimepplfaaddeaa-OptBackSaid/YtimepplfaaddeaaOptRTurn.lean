/- Layer 7 (opt): the reference's Turn, of any bytes. -/
import Derived.Test.YtimepplfaaddeaaOptRDec
set_option linter.unusedVariables false
set_option linter.unusedSimpArgs false
namespace Go.Proofs.Ytimepplfaaddeaa
open Go.RowKit Go.BigFrame

def turnR (bl va ec : Nat) (L : List UInt8) : List UInt8 × Int := if (decR L).2 = 0 then (turnL bl va ec L, 0) else ([], (decR L).2)
def TurnPost (bl va ec : Nat) (w : World) (L : List UInt8) (e : Ending) (w' : World) : Prop := e = .returned (.tuple #[.string ⟨(turnR bl va ec L).1.toArray⟩, .int .i64 (turnR bl va ec L).2]) ∧ Below w.heap.size w w'
theorem decR_ok {L : List UInt8} (h : (decR L).2 = 0) : L.length ≤ 40 ∧ ∃ o, decL L = some o ∧ decR L = (o, 0) := by
  unfold decR at h ⊢
  split at h
  · cases h
  · rename_i hl
    rw [if_neg hl]
    cases hd : decL L with
    | none => rw [hd] at h; cases h
    | some o => exact ⟨by omega, o, rfl, rfl⟩
theorem decR_good {L : List UInt8} (h : (decR L).2 = 0) : goodR L (placesAt L 0) [] = true := by
  rw [dec_same] at h
  unfold rdecR at h
  split at h
  · cases h
  split at h
  · assumption
  · cases h
set_option maxRecDepth 100000 in
set_option maxHeartbeats 8000000 in
theorem rturn_any (x : ByteArray) (L : List UInt8) (hx : x.data.toList = L) (hm : L.length ≤ 1024) (bl va ec : Nat) (hbl : bl < 4294967296) (hva : va < 4294967296) (hec : ec < 4294967296) (w : World) :
    Calls Try.prog 20 #[.string x, .int .u32 (bl : Int), .int .u32 (va : Int), .int .u32 (ec : Int)] w (TurnPost bl va ec w L) := by
  have hsz : x.size = L.length := by rw [← hx]; simp
  have hdec := rdec_any x
  rw [hx] at hdec
  obtain ⟨N, hN⟩ : ∃ N, N = L.length := ⟨_, rfl⟩
  rw [← hN] at hsz
  have hb0 : Below w.heap.size w w := Below.refl _ _
  have HB := Lib.hid hb0
  clear hb0
  have Hx := Lib.hid hx
  clear hx
  have HN := Lib.hid hN
  clear hN
  have Hdec := Lib.hid hdec
  clear hdec
  have Hm := Lib.hid hm
  clear hm
  go_enter Try.func20, Try.ntmps20
  go_wp2_with fail
  with_reducible refine (Hdec.out _).mono ?_
  rintro e w1 ⟨r, A, c, code, rfl, hbr, hbq, hre⟩
  have hB := HB.out.trans (hbq.mono HB.out.size)
  clear HB
  have HB := Lib.hid hB
  clear hB
  clear hbq hbr
  unfold optC
  by_cases hc : code = 0
  · have hc1 : (code != 0) = false := by simp [hc]
    have hd2 : (decR L).2 = 0 := by rw [← hre]; exact hc
    obtain ⟨h40, o, hdl, hdo⟩ := decR_ok hd2
    have hgood := decR_good hd2
    have hTR : turnR bl va ec L = (turnL bl va ec L, 0) := by unfold turnR; rw [if_pos hd2]
    have hfine := places_fine hdl
    have hpla := places_any x L Hx.out (by omega)
    have hpll : (placesAt L 0).length ≤ 41 := by
      have := places_len L (L.length - 0 + 1) 0
      unfold placesAt
      omega
    have Hc := Lib.hid hc
    clear hc
    have Hre := Lib.hid hre
    clear hre
    have Hd2 := Lib.hid hd2
    clear hd2
    have H40 := Lib.hid h40
    clear h40
    have Hdl := Lib.hid hdl
    clear hdl
    have Hdo := Lib.hid hdo
    clear hdo
    have Hgood := Lib.hid hgood
    clear hgood
    have HTR := Lib.hid hTR
    clear hTR
    have Hfine := Lib.hid hfine
    clear hfine
    have Hpla := Lib.hid hpla
    clear hpla
    have Hpll := Lib.hid hpll
    clear hpll
    go_upto_region 4 with fail
    have hq := Blk.new w1 26 #[.int .u16 (r.mss : Int), .int .i64 r.scale, .bool r.sack, .slice A r.bl.length c, .bool r.time, .int .u32 (r.val : Int), .int .u32 (r.echo : Int)]
    have hB := HB.out.alloc HB.out.size (.cells #[.int .u16 (r.mss : Int), .int .i64 r.scale, .bool r.sack, .slice A r.bl.length c, .bool r.time, .int .u32 (r.val : Int), .int .u32 (r.echo : Int)] 26)
    clear HB
    obtain ⟨gq, hge⟩ : ∃ g, g = w1.heap.size := ⟨_, rfl⟩
    rw [← hge] at hq ⊢
    have hle_q : w1.heap.size ≤ gq := by omega
    clear hge
    generalize w1.alloc _ = wn1 at *
    have Hq := Lib.hid hq
    clear hq
    have HB := Lib.hid hB
    clear hB
    obtain ⟨W1, hW1⟩ : ∃ W, W = wn1 := ⟨_, rfl⟩
    rw [← hW1] at Hq HB ⊢
    clear hW1
    go_wp2_with fail
    with_reducible refine (Hpla.out _).mono ?_
    rintro e w2 hpost
    unfold PlacesPost at hpost
    rw [Hgood.out, if_pos rfl] at hpost
    obtain ⟨Al, cl, rfl, hbq, hl⟩ := hpost
    have hq := Hq.out.below hbq Hq.out.lt
    clear Hq
    have Hq := Lib.hid hq
    clear hq
    have hB := HB.out.trans (hbq.mono HB.out.size)
    clear HB
    have HB := Lib.hid hB
    clear hB
    clear hbq Hq
    obtain ⟨pl, hpl⟩ : ∃ pl, pl = placesAt L 0 := ⟨_, rfl⟩
    rw [← hpl] at hl ⊢
    obtain ⟨n, hn⟩ : ∃ n, n = pl.length := ⟨_, rfl⟩
    rw [← hn] at hl ⊢
    have hn41 : (n : Int) ≤ 41 := by have := Hpll.out; rw [← hpl, ← hn] at this; omega
    have hN40 : (N : Int) ≤ 40 := by have := H40.out; have := HN.out; omega
    obtain ⟨Bl, hBl⟩ : ∃ B, B = W1.heap.size := ⟨_, rfl⟩
    rw [← hBl] at hl
    clear hBl
    have Hl := Lib.hid hl
    clear hl
    have Hpl := Lib.hid hpl
    clear hpl
    have Hn := Lib.hid hn
    clear hn
    go_wp2_with fail
    go_loopw [0, 14] (fun s i wr => ∃ (j : Nat) (T : ByteArray), s = .string T ∧ i = .int .i64 (j : Int) ∧ j ≤ n ∧ T.data.toList = (pl.take j).foldl (stepT bl va ec) L ∧ wr.ownsRow Bl 3 1 (.slice Al n cl) n (pl.map fun p => .int .i64 (p.1 : Int)) ∧ Below w.heap.size w wr)
      (fun _ i _ => n - (intOf i).toNat)
    case atStart => exact ⟨0, x, rfl, rfl, Nat.zero_le _, Hx.out, Hl.out, HB.out⟩
    case round =>
      obtain ⟨j, T, rfl, rfl, hj, hT, hl, hb⟩ := hrel
      by_cases hjn : j < n
      · have i1 : (j : Int) < (n : Int) := by omega
        obtain ⟨p, hp⟩ : ∃ p, pl[j]? = some p := ⟨_, List.getElem?_eq_getElem (by have := Hn.out; omega)⟩
        have hpm : p ∈ placesAt L 0 := by rw [← Hpl.out]; exact List.mem_of_getElem? hp
        have hcut : placesAt L 0 = pl.take j ++ p :: pl.drop (j + 1) := by
          rw [← Hpl.out]
          have hlt : j < pl.length := by have := Hn.out; omega
          rw [List.getElem?_eq_getElem hlt] at hp
          injection hp with hp
          rw [← hp, List.getElem_cons_drop, List.take_append_drop]
        obtain ⟨hTl, hTb⟩ := preT_byte L bl va ec Hfine.out hcut
        obtain ⟨q1, q2, q3, q4⟩ := places_ok L _ 0 p hpm
        have q5 := Hfine.out p hpm
        obtain ⟨at_, c2⟩ := p
        dsimp only at q1 q2 q3 q4 q5 hTb
        obtain ⟨r1, r2, r3, r4, r5⟩ := stepN_pos (L := L) (i := at_) (by rw [← q4]; exact q5)
        rw [← q4] at r3 r4 r5
        obtain ⟨k, hk⟩ : ∃ k, k = byteN L at_ := ⟨_, rfl⟩
        rw [← hk, ← r4] at r2
        obtain ⟨M, hM⟩ : ∃ M, M = (pl.take j).foldl (stepT bl va ec) L := ⟨_, rfl⟩
        rw [← hM] at hT hTl hTb
        have b0 : byteN M at_ = k := by have := hTb 0; rw [Nat.add_zero] at this; rw [this, hk]
        have b1 : byteN M (at_ + 1) = c2 := by rw [hTb 1, ← r4]
        have k256 : k < 256 := by rw [hk]; exact byteN_lt _ _
        have c256 : c2 < 256 := by rw [r4]; exact byteN_lt _ _
        have hnext : (pl.take (j + 1)).foldl (stepT bl va ec) L = stepT bl va ec M (at_, c2) := by
          rw [List.take_add_one, hp, List.foldl_append, ← hM]
          rfl
        have hTs : T.size = N := by
          have : T.data.toList.length = L.length := by rw [hT]; exact hTl
          rw [HN.out, ← this]
          simp
        obtain ⟨gl, capl, hAl, _, hlt⟩ := hl.form (by omega)
        have hAl' : Al = some ⟨gl, 0, none⟩ := by injection hAl
        subst hAl'
        have cl0 : wr.cell? ⟨gl, j, none⟩ = some (.int .i64 (at_ : Int)) := by
          have := hl.cells (g := gl) rfl j (.int .i64 (at_ : Int)) (by rw [List.getElem?_map, hp]; rfl)
          have had : (⟨gl, 0, none⟩ : Addr).add j = ⟨gl, j, none⟩ := by unfold Addr.add; split <;> simp_all
          rwa [had] at this
        have i2 : (at_ : Int) + 1 < (N : Int) := by have := HN.out; omega
        have i2' : (at_ : Int) < (N : Int) := by have := HN.out; omega
        have i4 : (at_ : Int) + (c2 : Int) ≤ (N : Int) := by have := HN.out; omega
        have hix := fun W => index_at T at_ (by rw [hT, hTl]; exact q1) W
        have hix2 := fun W => index_at T (at_ + 1) (by rw [hT, hTl]; exact r1) W
        rw [hT, b0] at hix
        rw [hT, b1, show ((at_ + 1 : Nat) : Int) = (at_ : Int) + 1 by omega] at hix2
        have HT := Lib.hid hT
        clear hT
        have HM := Lib.hid hM
        clear hM
        have Hb := Lib.hid hb
        clear hb
        have Hp := Lib.hid hp
        clear hp
        have Hpm := Lib.hid hpm
        clear hpm
        have Hcut := Lib.hid hcut
        clear hcut
        have HTl := Lib.hid hTl
        clear hTl
        have HTb := Lib.hid hTb
        clear hTb
        have Q1 := Lib.hid q1
        clear q1
        have Q2 := Lib.hid q2
        clear q2
        have Q3 := Lib.hid q3
        clear q3
        have Q4 := Lib.hid q4
        clear q4
        have Q5 := Lib.hid q5
        clear q5
        have R1 := Lib.hid r1
        clear r1
        have R2 := Lib.hid r2
        clear r2
        have R3 := Lib.hid r3
        clear r3
        have R4 := Lib.hid r4
        clear r4
        have R5 := Lib.hid r5
        clear r5
        have Hk := Lib.hid hk
        clear hk
        have B0 := Lib.hid b0
        clear b0
        have B1 := Lib.hid b1
        clear b1
        have Hnext := Lib.hid hnext
        clear hnext
        have HAl := Lib.hid hAl
        clear hAl
        have Hlt := Lib.hid hlt
        clear hlt
        have Hjn := Lib.hid hjn
        clear hjn
        by_cases h8 : k = 8
        · have t1 : ((k : Int) == 8) = true := by rw [h8]; rfl
          have t2 : ((k : Int) == 5) = false := by rw [h8]; rfl
          have hc10 : c2 = 10 := by have := R2.out; rw [h8] at this; simpa [longB] using this
          have hst : stepT bl va ec M (at_, c2) = addL (addL M (at_ + 2) va) (at_ + 6) ec := by
            unfold stepT
            simp only [B0.out]
            rw [if_pos h8]
          have l1 : at_ + 10 ≤ M.length := by have := R3.out; have := HTl.out; omega
          have hM1 : M.length ≤ 1000 := by have := H40.out; have := HTl.out; omega
          have l2 : (addL M (at_ + 2) va).length = M.length := addL_len (by omega)
          have l3 : (addL (addL M (at_ + 2) va) (at_ + 6) ec).length = M.length := by rw [addL_len (by omega), l2]
          obtain ⟨T1, hT1⟩ : ∃ T1 : ByteArray, T1 = ⟨(addL M (at_ + 2) va).toArray⟩ := ⟨_, rfl⟩
          obtain ⟨T2, hT2⟩ : ∃ T1 : ByteArray, T1 = ⟨(addL (addL M (at_ + 2) va) (at_ + 6) ec).toArray⟩ := ⟨_, rfl⟩
          have d1 : T1.data.toList = addL M (at_ + 2) va := by rw [hT1]
          have d2 : T2.data.toList = addL (addL M (at_ + 2) va) (at_ + 6) ec := by rw [hT2]
          have a1 : ∀ W, Calls Try.prog 32 #[.string T, .int .i64 ((at_ : Int) + 2), .int .u32 (va : Int)] W fun e w' => e = .returned (.string T1) ∧ Below W.heap.size W w' := fun W => by
            have := add_any T M HT.out (at_ + 2) va (by omega) hM1 hva W
            rwa [← hT1, show ((at_ + 2 : Nat) : Int) = (at_ : Int) + 2 by omega] at this
          have a2 : ∀ W, Calls Try.prog 32 #[.string T1, .int .i64 ((at_ : Int) + 6), .int .u32 (ec : Int)] W fun e w' => e = .returned (.string T2) ∧ Below W.heap.size W w' := fun W => by
            have := add_any T1 _ d1 (at_ + 6) ec (by omega) (by omega) hec W
            rwa [← hT2, show ((at_ + 6 : Nat) : Int) = (at_ : Int) + 6 by omega] at this
          have hx1 := fun W => index_at T2 at_ (by rw [d2, l3]; omega) W
          have hx2 := fun W => index_at T2 (at_ + 1) (by rw [d2, l3]; omega) W
          rw [d2, addL_low (by omega) (by omega), addL_low (by omega) (by omega), B0.out] at hx1
          rw [d2, addL_low (by omega) (by omega), addL_low (by omega) (by omega), B1.out, show ((at_ + 1 : Nat) : Int) = (at_ : Int) + 1 by omega] at hx2
          have hT2s : T2.size = N := by
            have : T2.data.toList.length = L.length := by rw [d2, l3]; exact HTl.out
            rw [HN.out, ← this]
            simp
          clear hix2
          have H8 := Lib.hid h8
          clear h8
          have Hc10 := Lib.hid hc10
          clear hc10
          have Hst := Lib.hid hst
          clear hst
          have L1 := Lib.hid l1
          clear l1
          have HM1 := Lib.hid hM1
          clear hM1
          have L2 := Lib.hid l2
          clear l2
          have L3 := Lib.hid l3
          clear l3
          have HT1 := Lib.hid hT1
          clear hT1
          have HT2 := Lib.hid hT2
          clear hT2
          have D1 := Lib.hid d1
          clear d1
          have D2 := Lib.hid d2
          clear d2
          have A1 := Lib.hid a1
          clear a1
          have A2 := Lib.hid a2
          clear a2
          have Hl := Lib.hid hl
          clear hl
          go_wp2_with fail
          with_reducible refine (A1.out _).mono ?_
          rintro e w3 ⟨rfl, hb3⟩
          go_wp2_with fail
          with_reducible refine (A2.out _).mono ?_
          rintro e w4 ⟨rfl, hb4⟩
          have hl2 := own_low (own_low Hl.out hb3) hb4
          have hb2 := (Hb.out.trans (hb3.mono Hb.out.size)).trans (hb4.mono (Nat.le_trans Hb.out.size hb3.size))
          clear hb3 hb4 cl0
          have Hl2 := Lib.hid hl2
          clear hl2
          have Hb2 := Lib.hid hb2
          clear hb2
          go_wp2_with fail
          go_loopw [0, 17] (fun s kk wr' => s = .string T2 ∧ kk = .int .i64 ((at_ : Int) + 2) ∧ wr' = w4) (fun _ _ _ => 0)
          case atStart => exact ⟨rfl, rfl, rfl⟩
          case round =>
            obtain ⟨rfl, rfl, rfl⟩ := hrel
            go_wp2_with fail
            go_roundw
            case rel => exact ⟨j + 1, T2, rfl, by go_num, by have := Hjn.out; omega, (by rw [D2.out, Hnext.out, Hst.out]), Hl2.out, Hb2.out⟩
            case measure => simp [intOf]; have := Hjn.out; omega
        by_cases h5 : k = 5
        · have t1 : ((k : Int) == 8) = false := by rw [h5]; rfl
          have t2 : ((k : Int) == 5) = true := by rw [h5]; rfl
          have hc4 : (c2 - 2) % 4 = 0 := by
            have := R2.out
            rw [h5] at this
            simp [longB] at this
            omega
          have hst : stepT bl va ec M (at_, c2) = addsL bl ((c2 - 2) / 4) (at_ + 2) M := by
            unfold stepT
            simp only [B0.out]
            rw [if_neg h8, if_pos h5]
          have c2' : 2 ≤ c2 := R5.out
          have hend : (at_ + c2 - (at_ + 2)) / 4 = (c2 - 2) / 4 := by rw [show at_ + c2 - (at_ + 2) = c2 - 2 by omega]
          have hM1 : M.length ≤ 1000 := by have := H40.out; have := HTl.out; omega
          have b05 : byteN M at_ = 5 := B0.out.trans h5
          clear h8 h5
          have Hc4 := Lib.hid hc4
          clear hc4
          have Hst := Lib.hid hst
          clear hst
          have Hend := Lib.hid hend
          clear hend
          have HM1 := Lib.hid hM1
          clear hM1
          have B05 := Lib.hid b05
          clear b05
          have Hl := Lib.hid hl
          clear hl
          go_wp2_with fail
          go_loopw [0, 17] (fun s kk wr' => ∃ (u : Nat) (T' : ByteArray) (M' : List UInt8), s = .string T' ∧ kk = .int .i64 (u : Int) ∧ at_ + 2 ≤ u ∧ u ≤ at_ + c2 ∧ (at_ + c2 - u) % 4 = 0 ∧ T'.data.toList = M' ∧ addsL bl ((at_ + c2 - u) / 4) u M' = addsL bl ((c2 - 2) / 4) (at_ + 2) M ∧ M'.length = L.length ∧ byteN M' at_ = 5 ∧
              wr'.ownsRow Bl 3 1 (.slice (some ⟨gl, 0, none⟩) n cl) n (pl.map fun p => .int .i64 (p.1 : Int)) ∧ Below w.heap.size w wr')
            (fun _ kk _ => at_ + c2 - (intOf kk).toNat)
          case atStart => exact ⟨at_ + 2, T, M, rfl, by go_num, Nat.le_refl _, by omega, by have := Hc4.out; omega, HT.out, by rw [Hend.out], HTl.out, B05.out, Hl.out, Hb.out⟩
          case round =>
            obtain ⟨u, T', M', rfl, rfl, u1, u2, u4, hT', hadd, hM'l, hb5, hl', hb'⟩ := hrel
            have hT's : T'.size = N := by
              have : T'.data.toList.length = L.length := by rw [hT']; exact hM'l
              rw [HN.out, ← this]
              simp
            have hx1 := fun W => index_at T' at_ (by rw [hT', hM'l]; exact Q1.out) W
            rw [hT', hb5] at hx1
            by_cases hu : u < at_ + c2
            · have i5 : (u : Int) < (at_ : Int) + (c2 : Int) := by omega
              have hadd' : addsL bl ((at_ + c2 - (u + 4)) / 4) (u + 4) (addL M' u bl) = addsL bl ((c2 - 2) / 4) (at_ + 2) M := by
                rw [← hadd, show (at_ + c2 - u) / 4 = (at_ + c2 - (u + 4)) / 4 + 1 by omega]
                rfl
              have u5 : u + 4 ≤ M'.length := by have := R3.out; omega
              have a1 : ∀ W, Calls Try.prog 32 #[.string T', .int .i64 (u : Int), .int .u32 (bl : Int)] W fun e w' => e = .returned (.string ⟨(addL M' u bl).toArray⟩) ∧ Below W.heap.size W w' := fun W => add_any T' M' hT' u bl u5 (by have := HM1.out; have := HTl.out; omega) hbl W
              have hlow : byteN (addL M' u bl) at_ = 5 := by rw [addL_low u5 (by omega), hb5]
              have hlen : (addL M' u bl).length = L.length := by rw [addL_len u5, hM'l]
              have iu : (u : Int) + 4 ≤ 100 := by omega
              have u6 : (at_ + c2 - (u + 4)) % 4 = 0 := by omega
              have u7 : at_ + 2 ≤ u + 4 := by omega
              have u8 : u + 4 ≤ at_ + c2 := by omega
              have Hadd := Lib.hid hadd
              clear hadd
              have Hadd' := Lib.hid hadd'
              clear hadd'
              have Hlow := Lib.hid hlow
              clear hlow
              have Hlen := Lib.hid hlen
              clear hlen
              have A1 := Lib.hid a1
              clear a1
              have Hl' := Lib.hid hl'
              clear hl'
              have Hb' := Lib.hid hb'
              clear hb'
              have U5 := Lib.hid u5
              clear u5
              have U4 := Lib.hid u4
              clear u4
              have U1 := Lib.hid u1
              clear u1
              have U2 := Lib.hid u2
              clear u2
              have U6 := Lib.hid u6
              clear u6
              have U7 := Lib.hid u7
              clear u7
              have U8 := Lib.hid u8
              clear u8
              have HT' := Lib.hid hT'
              clear hT'
              have HM'l := Lib.hid hM'l
              clear hM'l
              have Hb5 := Lib.hid hb5
              clear hb5
              go_wp2_with fail
              with_reducible refine (A1.out _).mono ?_
              rintro e w3 ⟨rfl, hb3⟩
              have hl2 := own_low Hl'.out hb3
              have hb2 := Hb'.out.trans (hb3.mono Hb'.out.size)
              clear hb3 cl0
              have Hl2 := Lib.hid hl2
              clear hl2
              have Hb2 := Lib.hid hb2
              clear hb2
              go_wp2_with fail
              go_roundw
              case rel => exact ⟨u + 4, _, addL M' u bl, rfl, by go_num, U7.out, U8.out, U6.out, rfl, Hadd'.out, Hlen.out, Hlow.out, Hl2.out, Hb2.out⟩
              case measure => simp [intOf]; omega
            · have i5 : ¬ (u : Int) < (at_ : Int) + (c2 : Int) := by omega
              have hue : u = at_ + c2 := by omega
              have hfin : M' = stepT bl va ec M (at_, c2) := by
                rw [Hst.out, ← hadd, hue, Nat.sub_self]
                rfl
              clear hue hu
              have Hadd := Lib.hid hadd
              clear hadd
              have Hfin := Lib.hid hfin
              clear hfin
              have Hl' := Lib.hid hl'
              clear hl'
              have Hb' := Lib.hid hb'
              clear hb'
              have HT' := Lib.hid hT'
              clear hT'
              have HM'l := Lib.hid hM'l
              clear hM'l
              have Hb5 := Lib.hid hb5
              clear hb5
              go_wp2_with fail
              go_roundw
              case rel => exact ⟨j + 1, T', rfl, by go_num, by have := Hjn.out; omega, by rw [HT'.out, Hfin.out, Hnext.out], Hl'.out, Hb'.out⟩
              case measure => simp [intOf]; have := Hjn.out; omega
        have t1 : ((k : Int) == 8) = false := by simp; omega
        have t2 : ((k : Int) == 5) = false := by simp; omega
        have hst : stepT bl va ec M (at_, c2) = M := by
          unfold stepT
          simp only [B0.out]
          rw [if_neg h8, if_neg h5]
        clear h8 h5
        have Hl2 := Lib.hid hl
        have Hb2 := Hb
        have Hst := Lib.hid hst
        clear hst
        have Hl := Lib.hid hl
        clear hl
        go_wp2_with fail
        go_loopw [0, 17] (fun s kk wr' => s = .string T ∧ kk = .int .i64 ((at_ : Int) + 2) ∧ wr' = wr) (fun _ _ _ => 0)
        case atStart => exact ⟨rfl, rfl, rfl⟩
        case round =>
          obtain ⟨rfl, rfl, rfl⟩ := hrel
          go_wp2_with fail
          go_roundw
          case rel => exact ⟨j + 1, T, rfl, by go_num, by have := Hjn.out; omega, (by rw [HT.out, Hnext.out, Hst.out]), Hl2.out, Hb2.out⟩
          case measure => simp [intOf]; have := Hjn.out; omega
      · have i1 : ¬ (j : Int) < (n : Int) := by omega
        have hTe : T = ⟨(turnR bl va ec L).1.toArray⟩ := by
          rw [HTR.out]
          rw [List.take_of_length_le (by have := Hn.out; omega), Hpl.out, stepsT L bl va ec Hfine.out] at hT
          apply ByteArray.ext
          rw [← hT]
        have HTe := Lib.hid hTe
        clear hTe
        have HT := Lib.hid hT
        clear hT
        have Hl := Lib.hid hl
        clear hl
        have Hb := Lib.hid hb
        clear hb
        go_wp2_with fail
        go_ret2
        have h := HTe.out
        rw [HTR.out] at h
        unfold TurnPost
        rw [HTR.out, h]
        exact ⟨rfl, Hb.out⟩
  · have hc1 : (code != 0) = true := by simp [hc]
    have hTR : turnR bl va ec L = ([], code) := by
      have : (decR L).2 = code := by rw [← hre]
      unfold turnR
      rw [this, if_neg hc]
    have Hc := Lib.hid hc
    clear hc
    have Hre := Lib.hid hre
    clear hre
    have HTR := Lib.hid hTR
    clear hTR
    go_upto_region 2 with fail
    have hq := Blk.new w1 26 #[.int .u16 (r.mss : Int), .int .i64 r.scale, .bool r.sack, .slice A r.bl.length c, .bool r.time, .int .u32 (r.val : Int), .int .u32 (r.echo : Int)]
    have hB := HB.out.alloc HB.out.size (.cells #[.int .u16 (r.mss : Int), .int .i64 r.scale, .bool r.sack, .slice A r.bl.length c, .bool r.time, .int .u32 (r.val : Int), .int .u32 (r.echo : Int)] 26)
    clear HB
    obtain ⟨gq, hge⟩ : ∃ g, g = w1.heap.size := ⟨_, rfl⟩
    rw [← hge] at hq ⊢
    have hle_q : w1.heap.size ≤ gq := by omega
    clear hge
    generalize w1.alloc _ = wn2 at *
    have Hq := Lib.hid hq
    clear hq
    have HB := Lib.hid hB
    clear hB
    go_wp2_with fail
    go_ret2
    unfold TurnPost
    rw [HTR.out]
    exact ⟨rfl, HB.out⟩
end Go.Proofs.Ytimepplfaaddeaa
