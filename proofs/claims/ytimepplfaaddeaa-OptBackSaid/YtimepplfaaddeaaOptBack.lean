/- The statement OptBack: what was written is read; what is turned is read as what was there, turned; turned back, it is what it was, byte by byte; for any options, any bytes, any three numbers. -/
import Derived.Test.YtimepplfaaddeaaOptTurned
import Derived.Test.YtimepplfaaddeaaOptOpen
import Derived.Test.YtimepplfaaddeaaFlowV
set_option linter.unusedVariables false
set_option linter.unusedSimpArgs false
namespace Go.Proofs.Ytimepplfaaddeaa.optBack
open Go.ChangeShapes Go.WideShapes Go.ChangeAt Go.RowKit Go.BigFrame
open Go.ChangeMaps (open_string shut_string)

/-- what is read is as options are -/
theorem blocksF_bd : ∀ (f : Nat) (B : List UInt8), ∀ p ∈ blocksF f B, (0 ≤ p.1 ∧ p.1 ≤ 4294967295) ∧ 0 ≤ p.2 ∧ p.2 ≤ 4294967295 := by
  intro f
  induction f with
  | zero => intro B p h; cases h
  | succ f ih =>
    intro B p h
    rw [blocksF] at h
    split at h
    · cases h
    · rcases List.mem_cons.1 h with rfl | h
      · have h1 := numL_lt (B.take 4)
        have h2 := numL_lt ((B.drop 4).take 4)
        dsimp only
        omega
      · exact ih _ p h
def OpG (o : Op) : Prop := o.val < 4294967296 ∧ o.echo < 4294967296 ∧ ∀ p ∈ o.bl, (0 ≤ p.1 ∧ p.1 ≤ 4294967295) ∧ 0 ≤ p.2 ∧ p.2 ≤ 4294967295
theorem takeP_good {L : List UInt8} {o o2 : Op} {p : Nat × Nat} (h : takeP L o p = some o2) (hg : OpG o) : OpG o2 := by
  obtain ⟨g1, g2, g3⟩ := hg
  unfold takeP at h
  simp only at h
  split at h
  · split at h
    · cases h
    · cases h; exact ⟨g1, g2, g3⟩
  split at h
  · cases h; exact ⟨g1, g2, g3⟩
  split at h
  · cases h; exact ⟨g1, g2, g3⟩
  split at h
  · cases h; exact ⟨numL_lt _, numL_lt _, g3⟩
  split at h
  · cases h
    refine ⟨g1, g2, fun q hq => ?_⟩
    rcases List.mem_append.1 hq with hq | hq
    · exact g3 q hq
    · exact blocksF_bd _ _ q hq
  · cases h; exact ⟨g1, g2, g3⟩
theorem foldT_good (L : List UInt8) : ∀ (l : List (Nat × Nat)) (o o2 : Op), foldT L l o = some o2 → OpG o → OpG o2 := by
  intro l
  induction l with
  | nil => intro o o2 h hg; cases h; exact hg
  | cons p l ih =>
    intro o o2 h hg
    have h1 : (takeP L o p).bind (fun q => foldT L l q) = some o2 := by
      unfold foldT at h
      rw [List.foldlM_cons] at h
      exact h
    cases ht : takeP L o p with
    | none => rw [ht] at h1; cases h1
    | some q =>
      rw [ht] at h1
      exact ih q o2 h1 (takeP_good ht hg)
theorem decR_good2 {L : List UInt8} (h : (decR L).2 = 0) : OpG (decR L).1 ∧ (decR L).1.bl.length ≤ 2000 := by
  obtain ⟨h40, o, hdl, hdo⟩ := decR_ok h
  have hs := dec_same L
  rw [hdo] at hs ⊢
  unfold rdecR at hs
  rw [if_neg (by omega)] at hs
  split at hs
  · cases hf : (placesAt L 0).foldlM (takeP L) noneO with
    | none => rw [hf] at hs; cases hs
    | some q =>
      rw [hf] at hs
      injection hs with hs _
      subst hs
      refine ⟨foldT_good L (placesAt L 0) noneO o hf ⟨by decide, by decide, fun p hp => by cases hp⟩, ?_⟩
      have h1 := foldT_bl L (placesAt L 0) noneO o hf
      have h2 := places_len L (L.length - 0 + 1) 0
      have h3 : L.length * (placesAt L 0).length ≤ 40 * 41 := Nat.mul_le_mul h40 (by unfold placesAt; omega)
      simp only [noneO, List.length_nil] at h1
      dsimp only
      omega
  · cases hs
def tupT (bl va ec : Nat) (o : Op) (l : List Value) (W : World) : Prop := ∃ A c, l = [.agg (optC (turnO bl va ec o) A c)] ∧ BlR W A (turnO bl va ec o).bl
theorem tupT.of {bl va ec : Nat} {o : Op} (l : List Value) (w w' : World) (hb : Below w.heap.size w w') (h : tupT bl va ec o l w) : tupT bl va ec o l w' := by
  obtain ⟨A, c, h1, h2⟩ := h
  exact ⟨A, c, h1, h2.below hb⟩
set_option maxRecDepth 100000 in
set_option maxHeartbeats 8000000 in
theorem walk (o : Op) (A : Option Addr) (c : Nat) (x : ByteArray) (b1 b2 b3 : Int) (w : World) (w0 : OptF w o A c) (w1 : x.size ≤ maxLen) (v1 : (Lit.int .u32 b1).wf = true) (v2 : (Lit.int .u32 b2).wf = true) (v3 : (Lit.int .u32 b3).wf = true) :
    Calls Try.prog 5 #[.agg (optC o A c), .string x, .int .u32 b1, .int .u32 b2, .int .u32 b3] w fun e w' => e = .returned (.bool true) ∧ Below w.heap.size w w' := by
  obtain ⟨bl, rfl, hbl⟩ := wf_u32 v1
  obtain ⟨va, rfl, hva⟩ := wf_u32 v2
  obtain ⟨ec, rfl, hec⟩ := wf_u32 v3
  clear v1 v2 v3
  have hal := alive07
  have hlo := fun W => long07_any W (o.mss : Int) o.scale (o.val : Int) (o.echo : Int) o.sack o.time A o.bl.length c
  have hb0 : Below w.heap.size w w := Below.refl _ _
  have HB := Lib.hid hb0
  clear hb0
  unfold optC
  by_cases h1 : o.bl.length > 100
  · have j1 : decide ((o.bl.length : Int) > 100) = true := by simp; omega
    rw [j1] at hlo
    clear j1
    have Hal := Lib.hid hal
    clear hal
    have Hlo := Lib.hid hlo
    clear hlo
    go_enter Try.func5, Try.ntmps5
    go_upto_region 1 with fail
    have ho := Blk.new w 26 #[.int .u16 (o.mss : Int), .int .i64 o.scale, .bool o.sack, .slice A o.bl.length c, .bool o.time, .int .u32 (o.val : Int), .int .u32 (o.echo : Int)]
    have hB := Below.alloc (HB.out) (Nat.le_trans HB.out.size (by simp <;> omega)) (.cells #[.int .u16 (o.mss : Int), .int .i64 o.scale, .bool o.sack, .slice A o.bl.length c, .bool o.time, .int .u32 (o.val : Int), .int .u32 (o.echo : Int)] 26)
    clear HB
    obtain ⟨go, hgeo⟩ : ∃ g, g = w.heap.size := ⟨_, rfl⟩
    rw [← hgeo] at ho ⊢
    have hle_o : w.heap.size ≤ go := by omega
    clear hgeo
    generalize w.alloc _ = wn1 at *
    have Ho := Lib.hid ho
    clear ho
    have HB := Lib.hid hB
    clear hB
    obtain ⟨W1, hwnW1⟩ : ∃ W, W = wn1 := ⟨_, rfl⟩
    rw [← hwnW1] at Ho HB ⊢
    clear hwnW1
    have d0 := Ho.out.cell 0
    have d1 := Ho.out.cell 1
    have d2 := Ho.out.cell 2
    have d3 := Ho.out.cell 3
    have d4 := Ho.out.cell 4
    have d5 := Ho.out.cell 5
    have d6 := Ho.out.cell 6
    simp at d0 d1 d2 d3 d4 d5 d6
    go_wp2_with fail
    (with_reducible refine (Hlo.out _).mono ?_)
    rintro e w2 ⟨rfl, hbq⟩
    have ho := Ho.out.below hbq Ho.out.lt
    clear Ho
    have Ho := Lib.hid ho
    clear ho
    have hB := HB.out.trans (hbq.mono HB.out.size)
    clear HB
    have HB := Lib.hid hB
    clear hB
    clear hbq
    clear d0 d1 d2 d3 d4 d5 d6
    go_wp2_with fail
    (with_reducible refine (Hal.out _).mono ?_)
    rintro e w9 ⟨rfl, hbq⟩
    have ho := Ho.out.below hbq Ho.out.lt
    clear Ho
    have Ho := Lib.hid ho
    clear ho
    have hB := HB.out.trans (hbq.mono HB.out.size)
    clear HB
    have HB := Lib.hid hB
    clear hB
    clear hbq
    go_wp2
    go_ret
    exact ⟨rfl, HB.out⟩
  have j1 : decide ((o.bl.length : Int) > 100) = false := by simp; omega
  rw [j1] at hlo
  clear j1
  by_cases h3 : 1024 < x.size
  · have j3 : (1024 : Int) < (x.size : Int) := by omega
    have Hal := Lib.hid hal
    clear hal
    have Hlo := Lib.hid hlo
    clear hlo
    go_enter Try.func5, Try.ntmps5
    go_upto_region 1 with fail
    have ho := Blk.new w 26 #[.int .u16 (o.mss : Int), .int .i64 o.scale, .bool o.sack, .slice A o.bl.length c, .bool o.time, .int .u32 (o.val : Int), .int .u32 (o.echo : Int)]
    have hB := Below.alloc (HB.out) (Nat.le_trans HB.out.size (by simp <;> omega)) (.cells #[.int .u16 (o.mss : Int), .int .i64 o.scale, .bool o.sack, .slice A o.bl.length c, .bool o.time, .int .u32 (o.val : Int), .int .u32 (o.echo : Int)] 26)
    clear HB
    obtain ⟨go, hgeo⟩ : ∃ g, g = w.heap.size := ⟨_, rfl⟩
    rw [← hgeo] at ho ⊢
    have hle_o : w.heap.size ≤ go := by omega
    clear hgeo
    generalize w.alloc _ = wn4 at *
    have Ho := Lib.hid ho
    clear ho
    have HB := Lib.hid hB
    clear hB
    obtain ⟨W1, hwnW1⟩ : ∃ W, W = wn4 := ⟨_, rfl⟩
    rw [← hwnW1] at Ho HB ⊢
    clear hwnW1
    have d0 := Ho.out.cell 0
    have d1 := Ho.out.cell 1
    have d2 := Ho.out.cell 2
    have d3 := Ho.out.cell 3
    have d4 := Ho.out.cell 4
    have d5 := Ho.out.cell 5
    have d6 := Ho.out.cell 6
    simp at d0 d1 d2 d3 d4 d5 d6
    go_wp2_with fail
    (with_reducible refine (Hlo.out _).mono ?_)
    rintro e w2 ⟨rfl, hbq⟩
    have ho := Ho.out.below hbq Ho.out.lt
    clear Ho
    have Ho := Lib.hid ho
    clear ho
    have hB := HB.out.trans (hbq.mono HB.out.size)
    clear HB
    have HB := Lib.hid hB
    clear hB
    clear hbq
    clear d0 d1 d2 d3 d4 d5 d6
    go_wp2_with fail
    (with_reducible refine (Hal.out _).mono ?_)
    rintro e w9 ⟨rfl, hbq⟩
    have ho := Ho.out.below hbq Ho.out.lt
    clear Ho
    have Ho := Lib.hid ho
    clear ho
    have hB := HB.out.trans (hbq.mono HB.out.size)
    clear HB
    have HB := Lib.hid hB
    clear hB
    clear hbq
    go_wp2
    go_ret
    exact ⟨rfl, HB.out⟩
  have j3 : ¬ (1024 : Int) < (x.size : Int) := by omega
  obtain ⟨ow, obr, ob1, ob2⟩ := w0
  have oe := fun W (hW : Below w.heap.size w W) => enc_any W o A c ow (obr.below hW) (by omega)
  have hc1 : (encR o).2 = if mayB o = true then 0 else 2 := by unfold encR; split <;> rfl
  have hdt : mayB o = true → decR (encR o).1.data.toList = (o, 0) ∧ (encR o).1.size % 4 = 0 ∧ (encR o).1.size ≤ 40 := fun h => by
    unfold encR
    rw [if_pos h]
    have h40 := (mayB_parts h).2.2.2
    refine ⟨?_, raw_four o, h40⟩
    show decR (rawL o) = _
    unfold decR
    rw [if_neg (by omega), dec_raw o ow h]
  generalize encR o = E at *
  obtain ⟨t, ce⟩ := E
  dsimp only at *
  unfold optC at oe
  obtain ⟨nb, hnbe⟩ : ∃ n, n = (4294967296 - bl) % 4294967296 := ⟨_, rfl⟩
  obtain ⟨nv, hnve⟩ : ∃ n, n = (4294967296 - va) % 4294967296 := ⟨_, rfl⟩
  obtain ⟨nc, hnce⟩ : ∃ n, n = (4294967296 - ec) % 4294967296 := ⟨_, rfl⟩
  have hnb : (bl + nb) % 4294967296 = 0 := by omega
  have hnv : (va + nv) % 4294967296 = 0 := by omega
  have hnc : (ec + nc) % 4294967296 = 0 := by omega
  have hnb2 : nb < 4294967296 := by omega
  have hnv2 : nv < 4294967296 := by omega
  have hnc2 : nc < 4294967296 := by omega
  have hib : (-(bl : Int)) % 4294967296 = (nb : Int) := by omega
  have hiv : (-(va : Int)) % 4294967296 = (nv : Int) := by omega
  have hic : (-(ec : Int)) % 4294967296 = (nc : Int) := by omega
  clear hnbe hnve hnce w1
  have Oe := Lib.hid oe
  clear oe
  have Hdt := Lib.hid hdt
  clear hdt
  have H1 := Lib.hid h1
  clear h1
  have H3 := Lib.hid h3
  clear h3
  have Ow := Lib.hid ow
  clear ow
  have Obr := Lib.hid obr
  clear obr
  have Ob1 := Lib.hid ob1
  clear ob1
  have Ob2 := Lib.hid ob2
  clear ob2
  have Hc1 := Lib.hid hc1
  clear hc1
  have Hal := Lib.hid hal
  clear hal
  have Hlo := Lib.hid hlo
  clear hlo
  go_enter Try.func5, Try.ntmps5
  go_upto_region 1 with fail
  have ho := Blk.new w 26 #[.int .u16 (o.mss : Int), .int .i64 o.scale, .bool o.sack, .slice A o.bl.length c, .bool o.time, .int .u32 (o.val : Int), .int .u32 (o.echo : Int)]
  have hB := Below.alloc (HB.out) (Nat.le_trans HB.out.size (by simp <;> omega)) (.cells #[.int .u16 (o.mss : Int), .int .i64 o.scale, .bool o.sack, .slice A o.bl.length c, .bool o.time, .int .u32 (o.val : Int), .int .u32 (o.echo : Int)] 26)
  clear HB
  obtain ⟨go, hgeo⟩ : ∃ g, g = w.heap.size := ⟨_, rfl⟩
  rw [← hgeo] at ho ⊢
  have hle_o : w.heap.size ≤ go := by omega
  clear hgeo
  generalize w.alloc _ = wn7 at *
  have Ho := Lib.hid ho
  clear ho
  have HB := Lib.hid hB
  clear hB
  obtain ⟨W1, hwnW1⟩ : ∃ W, W = wn7 := ⟨_, rfl⟩
  rw [← hwnW1] at Ho HB ⊢
  clear hwnW1
  have d0 := Ho.out.cell 0
  have d1 := Ho.out.cell 1
  have d2 := Ho.out.cell 2
  have d3 := Ho.out.cell 3
  have d4 := Ho.out.cell 4
  have d5 := Ho.out.cell 5
  have d6 := Ho.out.cell 6
  simp at d0 d1 d2 d3 d4 d5 d6
  go_wp2_with fail
  (with_reducible refine (Hlo.out _).mono ?_)
  rintro e w2 ⟨rfl, hbq⟩
  have ho := Ho.out.below hbq Ho.out.lt
  clear Ho
  have Ho := Lib.hid ho
  clear ho
  have hB := HB.out.trans (hbq.mono HB.out.size)
  clear HB
  have HB := Lib.hid hB
  clear hB
  clear hbq
  clear d0 d1 d2 d3 d4 d5 d6
  have d0 := Ho.out.cell 0
  have d1 := Ho.out.cell 1
  have d2 := Ho.out.cell 2
  have d3 := Ho.out.cell 3
  have d4 := Ho.out.cell 4
  have d5 := Ho.out.cell 5
  have d6 := Ho.out.cell 6
  simp at d0 d1 d2 d3 d4 d5 d6
  go_wp2_with fail
  (with_reducible refine (Oe.out _ HB.out).mono ?_)
  rintro e w3 ⟨rfl, hbq⟩
  have ho := Ho.out.below hbq Ho.out.lt
  clear Ho
  have Ho := Lib.hid ho
  clear ho
  have hB := HB.out.trans (hbq.mono HB.out.size)
  clear HB
  have HB := Lib.hid hB
  clear hB
  clear hbq
  clear d0 d1 d2 d3 d4 d5 d6
  go_upto_if 38 with fail
  go_cut [] from 13 to 62 (fun wx => Below w.heap.size w wx)
  case first =>
    cases hmo : mayB o with
    | false =>
      have q0 : (ce == 0) = false := by rw [Hc1.out, hmo]; rfl
      clear hmo
      go_wp2_with fail
      go_meet
      case rel => exact HB.out
    | true =>
      have q0 : (ce == 0) = true := by rw [Hc1.out, hmo]; rfl
      obtain ⟨k1, k2, k3⟩ := Hdt.out hmo
      have hdd := dec_any t
      obtain ⟨N, hN⟩ : ∃ N, N = t.size := ⟨_, rfl⟩
      rw [← hN] at k2 k3
      have k4 : ((N : Int) % 4 != 0) = false := by simp; omega
      have k5 : ¬ (40 : Int) < (N : Int) := by omega
      have k6 : (0 : Int) ≤ (N : Int) := by omega
      have hN' : t.size = N := hN.symm
      clear hN k2 k3
      have Hmo := Lib.hid hmo
      clear hmo
      have K1 := Lib.hid k1
      clear k1
      have Hdd := Lib.hid hdd
      clear hdd
      go_wp2_with fail
      with_reducible refine (Hdd.out _).mono ?_
      rintro e1 w4 ⟨r, A1, c1, code, rfl, hbr, hbq, hre⟩
      rw [K1.out] at hre
      injection hre with hr1 hr2
      subst hr1 hr2
      have ho := Ho.out.below hbq Ho.out.lt
      clear Ho
      have Ho := Lib.hid ho
      clear ho
      have hB := HB.out.trans (hbq.mono HB.out.size)
      clear HB
      have HB := Lib.hid hB
      clear hB
      clear hbq
      unfold optC
      go_upto_region 6 with fail
      have hbr4 := hbr.below ((Below.refl _ w4).alloc (Nat.le_refl _) (.cells #[.int .u16 (r.mss : Int), .int .i64 r.scale, .bool r.sack, .slice A1 r.bl.length c1, .bool r.time, .int .u32 (r.val : Int), .int .u32 (r.echo : Int)] 26))
      have hq := Blk.new w4 26 #[.int .u16 (r.mss : Int), .int .i64 r.scale, .bool r.sack, .slice A1 r.bl.length c1, .bool r.time, .int .u32 (r.val : Int), .int .u32 (r.echo : Int)]
      have ho := Blk.alloc Ho.out (.cells #[.int .u16 (r.mss : Int), .int .i64 r.scale, .bool r.sack, .slice A1 r.bl.length c1, .bool r.time, .int .u32 (r.val : Int), .int .u32 (r.echo : Int)] 26)
      clear Ho
      have hB := HB.out.alloc HB.out.size (.cells #[.int .u16 (r.mss : Int), .int .i64 r.scale, .bool r.sack, .slice A1 r.bl.length c1, .bool r.time, .int .u32 (r.val : Int), .int .u32 (r.echo : Int)] 26)
      clear HB
      obtain ⟨gq, hge⟩ : ∃ g, g = w4.heap.size := ⟨_, rfl⟩
      rw [← hge] at hq ⊢
      have hle_q : w4.heap.size ≤ gq := by omega
      clear hge
      generalize w4.alloc _ = wn10 at *
      have Ho := Lib.hid ho
      clear ho
      have Hq := Lib.hid hq
      clear hq
      have HB := Lib.hid hB
      clear hB
      obtain ⟨W9, hwnW9⟩ : ∃ W, W = wn10 := ⟨_, rfl⟩
      rw [← hwnW9] at Ho Hq HB hbr4 ⊢
      clear hwnW9
      have hsm := same_any W9 r r A A1 c c1 (Obr.out.below HB.out) hbr4 (by have := H1.out; simp only [maxLen]; omega) (by have := H1.out; simp only [maxLen]; omega)
      rw [sameB_self] at hsm
      unfold optC at hsm
      clear hbr4 hbr
      have d0 := Ho.out.cell 0
      have d1 := Ho.out.cell 1
      have d2 := Ho.out.cell 2
      have d3 := Ho.out.cell 3
      have d4 := Ho.out.cell 4
      have d5 := Ho.out.cell 5
      have d6 := Ho.out.cell 6
      simp at d0 d1 d2 d3 d4 d5 d6
      have f0 := Hq.out.cell 0
      have f1 := Hq.out.cell 1
      have f2 := Hq.out.cell 2
      have f3 := Hq.out.cell 3
      have f4 := Hq.out.cell 4
      have f5 := Hq.out.cell 5
      have f6 := Hq.out.cell 6
      simp at f0 f1 f2 f3 f4 f5 f6
      have Hsm := Lib.hid hsm
      clear hsm
      go_wp2_with fail
      (with_reducible refine (Hsm.out).mono ?_)
      rintro e w10 ⟨rfl, hbq⟩
      have ho := Ho.out.below hbq Ho.out.lt
      clear Ho
      have Ho := Lib.hid ho
      clear ho
      have hq := Hq.out.below hbq Hq.out.lt
      clear Hq
      have Hq := Lib.hid hq
      clear hq
      have hB := HB.out.trans (hbq.mono HB.out.size)
      clear HB
      have HB := Lib.hid hB
      clear hB
      clear hbq
      go_wp2_with fail
      go_meet
      case rel => exact HB.out
  case rest =>
    clear HB
    have HB := Lib.hid hcut
    clear hcut
    go_wp2_with fail
    go_loopw [1, 15] (fun s i wr => ((i = .int .i64 0 ∧ s = .string x) ∨ (i = .int .i64 1 ∧ s = .string x) ∨ (i = .int .i64 2 ∧ s = .string t)) ∧ Below w.heap.size w wr) (fun _ i _ => 2 - (intOf i).toNat)
    case atStart => exact ⟨.inl ⟨rfl, rfl⟩, HB.out⟩
    case round =>
      obtain ⟨hi, hrel⟩ := hrel
      rcases hi with ⟨rfl, rfl⟩ | ⟨rfl, rfl⟩ | ⟨rfl, rfl⟩
      · obtain ⟨U, hU⟩ : ∃ T : ByteArray, T = ⟨(turnR bl va ec x.data.toList).1.toArray⟩ := ⟨_, rfl⟩
        obtain ⟨cd, hcd⟩ : ∃ cd, cd = (turnR bl va ec x.data.toList).2 := ⟨_, rfl⟩
        have ht1 : ∀ W, Calls Try.prog 19 #[.string x, .int .u32 (bl : Int), .int .u32 (va : Int), .int .u32 (ec : Int)] W fun e w' => e = .returned (.tuple #[.string U, .int .i64 cd]) ∧ Below W.heap.size W w' := fun W => by
          have := turn_any x _ rfl bl va ec hbl hva hec W
          unfold TurnPost at this
          rw [← hU, ← hcd] at this
          exact this
        have hcd2 : (decR x.data.toList).2 = cd := by
          rw [hcd]
          unfold turnR
          split
          · assumption
          · rfl
        have hd1 := dec_any x
        have Ht1 := Lib.hid ht1
        clear ht1
        have Hd1 := Lib.hid hd1
        clear hd1
        have Hrel := Lib.hid hrel
        clear hrel
        go_wp2_with fail
        with_reducible refine (Hd1.out _).mono ?_
        rintro e1 w3 ⟨r, A1, c1, code, rfl, hbr, hbq, hre⟩
        have hb3 := Hrel.out.trans (Below.mono hbq Hrel.out.size)
        have hcode : code = cd := by rw [← hcd2, ← hre]
        subst hcode
        clear hbq
        unfold optC
        by_cases hc0 : code = 0
        · have q1 : (code != 0) = false := by rw [hc0]; rfl
          have hd0 : (decR x.data.toList).2 = 0 := hcd2.trans hc0
          obtain ⟨h40, p, hdl, hdo⟩ := decR_ok hd0
          rw [hdo] at hre
          injection hre with hr1 _
          subst hr1
          obtain ⟨hg, hbl2⟩ := decR_good2 hd0
          rw [hdo] at hg hbl2
          have hUl : U.data.toList = turnL bl va ec x.data.toList := by
            rw [hU]
            unfold turnR
            rw [if_pos hd0]
          have hUd : decR U.data.toList = (turnO bl va ec r, 0) := by
            rw [hUl]
            unfold decR
            rw [if_neg (by rw [turnL_len]; omega), dec_turn, hdl]
            rfl
          have hUs : U.size = x.size := by
            have h1 : U.data.toList.length = x.data.toList.length := by rw [hUl, turnL_len]
            simpa using h1
          have hback : (⟨(turnR nb nv nc U.data.toList).1.toArray⟩ : ByteArray) = x ∧ (turnR nb nv nc U.data.toList).2 = 0 := by
            have h2 : (decR U.data.toList).2 = 0 := by rw [hUd]
            unfold turnR
            rw [if_pos h2, hUl, turn_back hnb hnv hnc]
            exact ⟨rfl, rfl⟩
          have ht2 : ∀ W, Calls Try.prog 19 #[.string U, .int .u32 (nb : Int), .int .u32 (nv : Int), .int .u32 (nc : Int)] W fun e w' => e = .returned (.tuple #[.string x, .int .i64 0]) ∧ Below W.heap.size W w' := fun W => by
            have := turn_any U _ rfl nb nv nc hnb2 hnv2 hnc2 W
            unfold TurnPost at this
            rw [hback.1, hback.2] at this
            exact this
          have hd2 := dec_any U
          clear hU hUl hback hdl hdo hd0 hcd hcd2
          subst hc0
          have hb4 := hb3.alloc hb3.size (.cells #[.int .u16 (r.mss : Int), .int .i64 r.scale, .bool r.sack, .slice A1 r.bl.length c1, .bool r.time, .int .u32 (r.val : Int), .int .u32 (r.echo : Int)] 26)
          have hq4 := Blk.new w3 26 #[.int .u16 (r.mss : Int), .int .i64 r.scale, .bool r.sack, .slice A1 r.bl.length c1, .bool r.time, .int .u32 (r.val : Int), .int .u32 (r.echo : Int)]
          have hbr4 := hbr.below ((Below.refl _ w3).alloc (Nat.le_refl _) (.cells #[.int .u16 (r.mss : Int), .int .i64 r.scale, .bool r.sack, .slice A1 r.bl.length c1, .bool r.time, .int .u32 (r.val : Int), .int .u32 (r.echo : Int)] 26))
          have Ht2 := Lib.hid ht2
          clear ht2
          have Hd2 := Lib.hid hd2
          clear hd2
          have HUd := Lib.hid hUd
          clear hUd
          have H40 := Lib.hid h40
          clear h40
          have Hg := Lib.hid hg
          clear hg
          have Hbl2 := Lib.hid hbl2
          clear hbl2
          have Hbr := Lib.hid hbr
          clear hbr
          go_upto_region 14 with fail
          obtain ⟨gq, hgq⟩ : ∃ g, g = w3.heap.size := ⟨_, rfl⟩
          rw [← hgq] at hq4 ⊢
          clear hgq
          generalize w3.alloc _ = w4 at *
          have Hb3 := Lib.hid hb3
          clear hb3
          have Hb4 := Lib.hid hb4
          clear hb4
          have Hq4 := Lib.hid hq4
          clear hq4
          have Hbr4 := Lib.hid hbr4
          clear hbr4
          go_wp2_with fail
          with_reducible refine (Ht1.out _).mono ?_
          rintro e1 w5 ⟨rfl, hbq⟩
          have hb5 := Hb4.out.trans (Below.mono hbq Hb4.out.size)
          have hq5 := Hq4.out.below hbq Hq4.out.lt
          have hbr5 := Hbr4.out.below hbq
          clear hbq Hb4 Hq4 Hbr4
          have Hb5 := Lib.hid hb5
          clear hb5
          have Hq5 := Lib.hid hq5
          clear hq5
          have Hbr5 := Lib.hid hbr5
          clear hbr5
          go_wp2_with fail
          with_reducible refine (Hd2.out _).mono ?_
          rintro e1 w6 ⟨r2, A2, c2, code2, rfl, hbr6, hbq, hre⟩
          rw [HUd.out] at hre
          injection hre with hr1 hr2
          subst hr1 hr2
          have hb6 := Hb5.out.trans (Below.mono hbq Hb5.out.size)
          have hq6 := Hq5.out.below hbq Hq5.out.lt
          have hbrq := Hbr5.out.below hbq
          clear hbq Hb5 Hq5 Hbr5
          unfold optC
          have hal6 : Below w6.heap.size w6 (w6.alloc (.cells #[.int .u16 ((turnO bl va ec r).mss : Int), .int .i64 (turnO bl va ec r).scale, .bool (turnO bl va ec r).sack, .slice A2 (turnO bl va ec r).bl.length c2, .bool (turnO bl va ec r).time, .int .u32 ((turnO bl va ec r).val : Int), .int .u32 ((turnO bl va ec r).echo : Int)] 26)) := (Below.refl _ _).alloc (Nat.le_refl _) _
          have hb7 := hb6.trans (hal6.mono hb6.size)
          have hq7 := hq6.below hal6 hq6.lt
          have hbrq7 := hbrq.below hal6
          have hbru7 := hbr6.below hal6
          have hu7 := Blk.new w6 26 #[.int .u16 ((turnO bl va ec r).mss : Int), .int .i64 (turnO bl va ec r).scale, .bool (turnO bl va ec r).sack, .slice A2 (turnO bl va ec r).bl.length c2, .bool (turnO bl va ec r).time, .int .u32 ((turnO bl va ec r).val : Int), .int .u32 ((turnO bl va ec r).echo : Int)]
          clear hb6 hq6 hbrq hbr6 hal6
          have Hb7 := Lib.hid hb7
          clear hb7
          have Hq7 := Lib.hid hq7
          clear hq7
          have Hbrq7 := Lib.hid hbrq7
          clear hbrq7
          have Hbru7 := Lib.hid hbru7
          clear hbru7
          go_upto_region 19 with fail
          obtain ⟨gu, hgu⟩ : ∃ g, g = w6.heap.size := ⟨_, rfl⟩
          rw [← hgu] at hu7 ⊢
          clear hgu
          generalize w6.alloc _ = w7 at *
          have Hu7 := Lib.hid hu7
          clear hu7
          go_wp2_with fail
          with_reducible refine (Ht2.out _).mono ?_
          rintro e1 w8 ⟨rfl, hbq⟩
          have hb8 := Hb7.out.trans (Below.mono hbq Hb7.out.size)
          have hq8 := Hq7.out.below hbq Hq7.out.lt
          have hu8 := Hu7.out.below hbq Hu7.out.lt
          have hbrq8 := Hbrq7.out.below hbq
          have hbru8 := Hbru7.out.below hbq
          clear hbq Hb7 Hq7 Hu7 Hbrq7 Hbru7
          have qq : ∀ y : Cls (Fresh w8), Blk y.w gq 26 #[.int .u16 (r.mss : Int), .int .i64 r.scale, .bool r.sack, .slice A1 r.bl.length c1, .bool r.time, .int .u32 (r.val : Int), .int .u32 (r.echo : Int)] := fun y => hq8.below y.h hq8.lt
          have qu : ∀ y : Cls (Fresh w8), Blk y.w gu 26 #[.int .u16 ((turnO bl va ec r).mss : Int), .int .i64 (turnO bl va ec r).scale, .bool (turnO bl va ec r).sack, .slice A2 (turnO bl va ec r).bl.length c2, .bool (turnO bl va ec r).time, .int .u32 ((turnO bl va ec r).val : Int), .int .u32 ((turnO bl va ec r).echo : Int)] := fun y => hu8.below y.h hu8.lt
          have hS0 : Fresh w8 w8.drew := Fresh.below (Below.refl _ _) (Below.drew (Below.refl _ _))
          have ne : Nonempty (Cls (Fresh w8)) := ⟨⟨w8, Below.refl _ _⟩⟩
          have k1 : ∀ y : Cls (Fresh w8), Calls Try.prog 21 #[.agg #[.int .u16 (r.mss : Int), .int .i64 r.scale, .bool r.sack, .slice A1 r.bl.length c1, .bool r.time, .int .u32 (r.val : Int), .int .u32 (r.echo : Int)], .int .u32 (bl : Int), .int .u32 (va : Int), .int .u32 (ec : Int)] y.w fun e w'' => ∃ v, e = .returned v ∧ tupT bl va ec r [v] w'' ∧ Fresh w8 w'' ∧ Below y.w.heap.size y.w w'' := fun y =>
            (turned_any07 y.w r A1 c1 bl va ec (hbrq8.below y.h) Hbl2.out Hg.out.2.2 Hg.out.1 Hg.out.2.1 hbl hva hec).mono fun e w' ⟨A', c', h1, h2, h3⟩ => ⟨_, h1, ⟨A', c', rfl, h2⟩, Fresh.below y.h h3, h3⟩
          have k2 : ∀ (y : Cls (Fresh w8)) (u : Value), tupT bl va ec r [u] y.w → Calls Try.prog 15 #[.agg #[.int .u16 ((turnO bl va ec r).mss : Int), .int .i64 (turnO bl va ec r).scale, .bool (turnO bl va ec r).sack, .slice A2 (turnO bl va ec r).bl.length c2, .bool (turnO bl va ec r).time, .int .u32 ((turnO bl va ec r).val : Int), .int .u32 ((turnO bl va ec r).echo : Int)], u] y.w fun e w'' => e = .returned (.bool true) ∧ Fresh w8 w'' ∧ Below y.w.heap.size y.w w'' := by
            rintro y u ⟨A', c', hu, hbu⟩
            injection hu with hu
            subst hu
            have hl2 : (turnO bl va ec r).bl.length ≤ maxLen := by have := Hbl2.out; simp only [turnO, List.length_map, maxLen]; omega
            have := same_any y.w (turnO bl va ec r) (turnO bl va ec r) A2 A' c2 c' (hbru8.below y.h) hbu hl2 hl2
            rw [sameB_self] at this
            exact this.mono fun e1 w1 ⟨he, hb⟩ => ⟨he, Fresh.below y.h hb, hb⟩
          have f1 : ∀ (vals : Array Value) (w : World), (callFunc 21 vals).run Try.prog w = .ok (.enter 21 vals) w := fun _ _ => by kernel_rfl
          have f2 : ∀ (vals : Array Value) (w : World), (callFunc 15 vals).run Try.prog w = .ok (.enter 15 vals) w := fun _ _ => by kernel_rfl
          clear hq8 hu8 hbrq8 hbru8
          have Hb8 := Lib.hid hb8
          clear hb8
          have Qq := Lib.hid qq
          clear qq
          have Qu := Lib.hid qu
          clear qu
          have HS0 := Lib.hid hS0
          clear hS0
          have K1 := Lib.hid k1
          clear k1
          have K2 := Lib.hid k2
          clear k2
          have F1 := Lib.hid f1
          clear f1
          have F2 := Lib.hid f2
          clear f2
          go_upto_region 20 with fail
          refine wp_region_flow 28 (Fresh w8) (fun w w' => Below w.heap.size w w') (by kernel_rfl) (by kernel_rfl) (by kernel_rfl) (fun w => Below.refl _ _) HS0.out ?_
          simp only [List.take_succ_cons, List.take_zero, List.drop_succ_cons, List.drop_zero]
          repeat (first
            | (refine flow_load gq _ Qq.out optsU optsI rfl (fun w => Below.refl _ _) rfl rfl rfl w8 ?_; intro K hK; go_big_quiet_op; go_big_quiet_on)
            | (refine flow_load gu _ Qu.out optsU optsI rfl (fun w => Below.refl _ _) rfl rfl rfl w8 ?_; intro K hK; go_big_quiet_op; go_big_quiet_on)
            | (refine flow_quiet (fun w => Below.refl _ _) rfl rfl rfl rfl ?_; intro K hK; go_big_quiet_op; go_big_quiet_on))
          refine flow_callF (tupT bl va ec r) tupT.of F1.out _ ?_ rfl K1.out rfl rfl w8 ?_
          focus (simp only [List.map_toArray, List.map_cons, List.map_nil]; rfl)
          intro K hK; go_big_quiet_op; go_big_quiet_on
          refine flow_callY F2.out (.bool true) (fun u => #[.agg #[.int .u16 ((turnO bl va ec r).mss : Int), .int .i64 (turnO bl va ec r).scale, .bool (turnO bl va ec r).sack, .slice A2 (turnO bl va ec r).bl.length c2, .bool (turnO bl va ec r).time, .int .u32 ((turnO bl va ec r).val : Int), .int .u32 ((turnO bl va ec r).echo : Int)], u]) 0 rfl rfl (fun f => by rfl) K2.out rfl rfl w8 ?_
          intro K hK; go_big_quiet_op; go_big_quiet_on
          repeat (first
            | (refine flow_quiet (fun w => Below.refl _ _) rfl rfl rfl rfl ?_; intro K hK; go_big_quiet_op; go_big_quiet_on))
          refine flow_nil ?_
          intro W5 f hW5 hF5
          clear hF5
          simp only [fillW, Act.put, List.setIfInBounds_toArray, List.set_cons_succ, List.set_cons_zero]
          generalize f 120 = v120
          have hB5 : Below w.heap.size w W5 := Hb8.out.trans (Below.mono hW5 Hb8.out.size)
          clear hW5 ne
          have HB5 := Lib.hid hB5
          clear hB5
          go_wp2_with fail
          go_roundw
          case rel => exact ⟨(.inr (.inl ⟨rfl, rfl⟩)), HB5.out⟩
          case measure => simp [intOf]
        · have q1 : (code != 0) = true := by simp [hc0]
          have hUe : U.toList = [] := by
            rw [hU, ByteArray.toList_eq]
            unfold turnR
            rw [if_neg (by rw [hcd2]; exact hc0)]
          have hb4 := hb3.alloc hb3.size (.cells #[.int .u16 (r.mss : Int), .int .i64 r.scale, .bool r.sack, .slice A1 r.bl.length c1, .bool r.time, .int .u32 (r.val : Int), .int .u32 (r.echo : Int)] 26)
          have hUe2 : (U.toList.isEmpty) = true := by rw [hUe]; rfl
          clear hU hcd hcd2 hre hc0
          have Hb3 := Lib.hid hb3
          clear hb3
          have Hb4 := Lib.hid hb4
          clear hb4
          have Hbr := Lib.hid hbr
          clear hbr
          go_upto_region 14 with fail
          generalize w3.alloc _ = w4 at *
          go_wp2_with fail
          with_reducible refine (Ht1.out _).mono ?_
          rintro e1 w5 ⟨rfl, hbq⟩
          have hb5 := Hb4.out.trans (Below.mono hbq Hb4.out.size)
          clear hbq
          have Hb5 := Lib.hid hb5
          clear hb5
          go_wp2_with fail
          go_roundw
          case rel => exact ⟨(.inr (.inl ⟨rfl, rfl⟩)), Hb5.out⟩
          case measure => simp [intOf]
      · obtain ⟨U, hU⟩ : ∃ T : ByteArray, T = ⟨(turnR bl va ec t.data.toList).1.toArray⟩ := ⟨_, rfl⟩
        obtain ⟨cd, hcd⟩ : ∃ cd, cd = (turnR bl va ec t.data.toList).2 := ⟨_, rfl⟩
        have ht1 : ∀ W, Calls Try.prog 19 #[.string t, .int .u32 (bl : Int), .int .u32 (va : Int), .int .u32 (ec : Int)] W fun e w' => e = .returned (.tuple #[.string U, .int .i64 cd]) ∧ Below W.heap.size W w' := fun W => by
          have := turn_any t _ rfl bl va ec hbl hva hec W
          unfold TurnPost at this
          rw [← hU, ← hcd] at this
          exact this
        have hcd2 : (decR t.data.toList).2 = cd := by
          rw [hcd]
          unfold turnR
          split
          · assumption
          · rfl
        have hd1 := dec_any t
        have Ht1 := Lib.hid ht1
        clear ht1
        have Hd1 := Lib.hid hd1
        clear hd1
        have Hrel := Lib.hid hrel
        clear hrel
        go_wp2_with fail
        with_reducible refine (Hd1.out _).mono ?_
        rintro e1 w3 ⟨r, A1, c1, code, rfl, hbr, hbq, hre⟩
        have hb3 := Hrel.out.trans (Below.mono hbq Hrel.out.size)
        have hcode : code = cd := by rw [← hcd2, ← hre]
        subst hcode
        clear hbq
        unfold optC
        by_cases hc0 : code = 0
        · have q1 : (code != 0) = false := by rw [hc0]; rfl
          have hd0 : (decR t.data.toList).2 = 0 := hcd2.trans hc0
          obtain ⟨h40, p, hdl, hdo⟩ := decR_ok hd0
          rw [hdo] at hre
          injection hre with hr1 _
          subst hr1
          obtain ⟨hg, hbl2⟩ := decR_good2 hd0
          rw [hdo] at hg hbl2
          have hUl : U.data.toList = turnL bl va ec t.data.toList := by
            rw [hU]
            unfold turnR
            rw [if_pos hd0]
          have hUd : decR U.data.toList = (turnO bl va ec r, 0) := by
            rw [hUl]
            unfold decR
            rw [if_neg (by rw [turnL_len]; omega), dec_turn, hdl]
            rfl
          have hUs : U.size = t.size := by
            have h1 : U.data.toList.length = t.data.toList.length := by rw [hUl, turnL_len]
            simpa using h1
          have hback : (⟨(turnR nb nv nc U.data.toList).1.toArray⟩ : ByteArray) = t ∧ (turnR nb nv nc U.data.toList).2 = 0 := by
            have h2 : (decR U.data.toList).2 = 0 := by rw [hUd]
            unfold turnR
            rw [if_pos h2, hUl, turn_back hnb hnv hnc]
            exact ⟨rfl, rfl⟩
          have ht2 : ∀ W, Calls Try.prog 19 #[.string U, .int .u32 (nb : Int), .int .u32 (nv : Int), .int .u32 (nc : Int)] W fun e w' => e = .returned (.tuple #[.string t, .int .i64 0]) ∧ Below W.heap.size W w' := fun W => by
            have := turn_any U _ rfl nb nv nc hnb2 hnv2 hnc2 W
            unfold TurnPost at this
            rw [hback.1, hback.2] at this
            exact this
          have hd2 := dec_any U
          clear hU hUl hback hdl hdo hd0 hcd hcd2
          subst hc0
          have hb4 := hb3.alloc hb3.size (.cells #[.int .u16 (r.mss : Int), .int .i64 r.scale, .bool r.sack, .slice A1 r.bl.length c1, .bool r.time, .int .u32 (r.val : Int), .int .u32 (r.echo : Int)] 26)
          have hq4 := Blk.new w3 26 #[.int .u16 (r.mss : Int), .int .i64 r.scale, .bool r.sack, .slice A1 r.bl.length c1, .bool r.time, .int .u32 (r.val : Int), .int .u32 (r.echo : Int)]
          have hbr4 := hbr.below ((Below.refl _ w3).alloc (Nat.le_refl _) (.cells #[.int .u16 (r.mss : Int), .int .i64 r.scale, .bool r.sack, .slice A1 r.bl.length c1, .bool r.time, .int .u32 (r.val : Int), .int .u32 (r.echo : Int)] 26))
          have Ht2 := Lib.hid ht2
          clear ht2
          have Hd2 := Lib.hid hd2
          clear hd2
          have HUd := Lib.hid hUd
          clear hUd
          have H40 := Lib.hid h40
          clear h40
          have Hg := Lib.hid hg
          clear hg
          have Hbl2 := Lib.hid hbl2
          clear hbl2
          have Hbr := Lib.hid hbr
          clear hbr
          go_upto_region 14 with fail
          obtain ⟨gq, hgq⟩ : ∃ g, g = w3.heap.size := ⟨_, rfl⟩
          rw [← hgq] at hq4 ⊢
          clear hgq
          generalize w3.alloc _ = w4 at *
          have Hb3 := Lib.hid hb3
          clear hb3
          have Hb4 := Lib.hid hb4
          clear hb4
          have Hq4 := Lib.hid hq4
          clear hq4
          have Hbr4 := Lib.hid hbr4
          clear hbr4
          go_wp2_with fail
          with_reducible refine (Ht1.out _).mono ?_
          rintro e1 w5 ⟨rfl, hbq⟩
          have hb5 := Hb4.out.trans (Below.mono hbq Hb4.out.size)
          have hq5 := Hq4.out.below hbq Hq4.out.lt
          have hbr5 := Hbr4.out.below hbq
          clear hbq Hb4 Hq4 Hbr4
          have Hb5 := Lib.hid hb5
          clear hb5
          have Hq5 := Lib.hid hq5
          clear hq5
          have Hbr5 := Lib.hid hbr5
          clear hbr5
          go_wp2_with fail
          with_reducible refine (Hd2.out _).mono ?_
          rintro e1 w6 ⟨r2, A2, c2, code2, rfl, hbr6, hbq, hre⟩
          rw [HUd.out] at hre
          injection hre with hr1 hr2
          subst hr1 hr2
          have hb6 := Hb5.out.trans (Below.mono hbq Hb5.out.size)
          have hq6 := Hq5.out.below hbq Hq5.out.lt
          have hbrq := Hbr5.out.below hbq
          clear hbq Hb5 Hq5 Hbr5
          unfold optC
          have hal6 : Below w6.heap.size w6 (w6.alloc (.cells #[.int .u16 ((turnO bl va ec r).mss : Int), .int .i64 (turnO bl va ec r).scale, .bool (turnO bl va ec r).sack, .slice A2 (turnO bl va ec r).bl.length c2, .bool (turnO bl va ec r).time, .int .u32 ((turnO bl va ec r).val : Int), .int .u32 ((turnO bl va ec r).echo : Int)] 26)) := (Below.refl _ _).alloc (Nat.le_refl _) _
          have hb7 := hb6.trans (hal6.mono hb6.size)
          have hq7 := hq6.below hal6 hq6.lt
          have hbrq7 := hbrq.below hal6
          have hbru7 := hbr6.below hal6
          have hu7 := Blk.new w6 26 #[.int .u16 ((turnO bl va ec r).mss : Int), .int .i64 (turnO bl va ec r).scale, .bool (turnO bl va ec r).sack, .slice A2 (turnO bl va ec r).bl.length c2, .bool (turnO bl va ec r).time, .int .u32 ((turnO bl va ec r).val : Int), .int .u32 ((turnO bl va ec r).echo : Int)]
          clear hb6 hq6 hbrq hbr6 hal6
          have Hb7 := Lib.hid hb7
          clear hb7
          have Hq7 := Lib.hid hq7
          clear hq7
          have Hbrq7 := Lib.hid hbrq7
          clear hbrq7
          have Hbru7 := Lib.hid hbru7
          clear hbru7
          go_upto_region 19 with fail
          obtain ⟨gu, hgu⟩ : ∃ g, g = w6.heap.size := ⟨_, rfl⟩
          rw [← hgu] at hu7 ⊢
          clear hgu
          generalize w6.alloc _ = w7 at *
          have Hu7 := Lib.hid hu7
          clear hu7
          go_wp2_with fail
          with_reducible refine (Ht2.out _).mono ?_
          rintro e1 w8 ⟨rfl, hbq⟩
          have hb8 := Hb7.out.trans (Below.mono hbq Hb7.out.size)
          have hq8 := Hq7.out.below hbq Hq7.out.lt
          have hu8 := Hu7.out.below hbq Hu7.out.lt
          have hbrq8 := Hbrq7.out.below hbq
          have hbru8 := Hbru7.out.below hbq
          clear hbq Hb7 Hq7 Hu7 Hbrq7 Hbru7
          have qq : ∀ y : Cls (Fresh w8), Blk y.w gq 26 #[.int .u16 (r.mss : Int), .int .i64 r.scale, .bool r.sack, .slice A1 r.bl.length c1, .bool r.time, .int .u32 (r.val : Int), .int .u32 (r.echo : Int)] := fun y => hq8.below y.h hq8.lt
          have qu : ∀ y : Cls (Fresh w8), Blk y.w gu 26 #[.int .u16 ((turnO bl va ec r).mss : Int), .int .i64 (turnO bl va ec r).scale, .bool (turnO bl va ec r).sack, .slice A2 (turnO bl va ec r).bl.length c2, .bool (turnO bl va ec r).time, .int .u32 ((turnO bl va ec r).val : Int), .int .u32 ((turnO bl va ec r).echo : Int)] := fun y => hu8.below y.h hu8.lt
          have hS0 : Fresh w8 w8.drew := Fresh.below (Below.refl _ _) (Below.drew (Below.refl _ _))
          have ne : Nonempty (Cls (Fresh w8)) := ⟨⟨w8, Below.refl _ _⟩⟩
          have k1 : ∀ y : Cls (Fresh w8), Calls Try.prog 21 #[.agg #[.int .u16 (r.mss : Int), .int .i64 r.scale, .bool r.sack, .slice A1 r.bl.length c1, .bool r.time, .int .u32 (r.val : Int), .int .u32 (r.echo : Int)], .int .u32 (bl : Int), .int .u32 (va : Int), .int .u32 (ec : Int)] y.w fun e w'' => ∃ v, e = .returned v ∧ tupT bl va ec r [v] w'' ∧ Fresh w8 w'' ∧ Below y.w.heap.size y.w w'' := fun y =>
            (turned_any07 y.w r A1 c1 bl va ec (hbrq8.below y.h) Hbl2.out Hg.out.2.2 Hg.out.1 Hg.out.2.1 hbl hva hec).mono fun e w' ⟨A', c', h1, h2, h3⟩ => ⟨_, h1, ⟨A', c', rfl, h2⟩, Fresh.below y.h h3, h3⟩
          have k2 : ∀ (y : Cls (Fresh w8)) (u : Value), tupT bl va ec r [u] y.w → Calls Try.prog 15 #[.agg #[.int .u16 ((turnO bl va ec r).mss : Int), .int .i64 (turnO bl va ec r).scale, .bool (turnO bl va ec r).sack, .slice A2 (turnO bl va ec r).bl.length c2, .bool (turnO bl va ec r).time, .int .u32 ((turnO bl va ec r).val : Int), .int .u32 ((turnO bl va ec r).echo : Int)], u] y.w fun e w'' => e = .returned (.bool true) ∧ Fresh w8 w'' ∧ Below y.w.heap.size y.w w'' := by
            rintro y u ⟨A', c', hu, hbu⟩
            injection hu with hu
            subst hu
            have hl2 : (turnO bl va ec r).bl.length ≤ maxLen := by have := Hbl2.out; simp only [turnO, List.length_map, maxLen]; omega
            have := same_any y.w (turnO bl va ec r) (turnO bl va ec r) A2 A' c2 c' (hbru8.below y.h) hbu hl2 hl2
            rw [sameB_self] at this
            exact this.mono fun e1 w1 ⟨he, hb⟩ => ⟨he, Fresh.below y.h hb, hb⟩
          have f1 : ∀ (vals : Array Value) (w : World), (callFunc 21 vals).run Try.prog w = .ok (.enter 21 vals) w := fun _ _ => by kernel_rfl
          have f2 : ∀ (vals : Array Value) (w : World), (callFunc 15 vals).run Try.prog w = .ok (.enter 15 vals) w := fun _ _ => by kernel_rfl
          clear hq8 hu8 hbrq8 hbru8
          have Hb8 := Lib.hid hb8
          clear hb8
          have Qq := Lib.hid qq
          clear qq
          have Qu := Lib.hid qu
          clear qu
          have HS0 := Lib.hid hS0
          clear hS0
          have K1 := Lib.hid k1
          clear k1
          have K2 := Lib.hid k2
          clear k2
          have F1 := Lib.hid f1
          clear f1
          have F2 := Lib.hid f2
          clear f2
          go_upto_region 20 with fail
          refine wp_region_flow 28 (Fresh w8) (fun w w' => Below w.heap.size w w') (by kernel_rfl) (by kernel_rfl) (by kernel_rfl) (fun w => Below.refl _ _) HS0.out ?_
          simp only [List.take_succ_cons, List.take_zero, List.drop_succ_cons, List.drop_zero]
          repeat (first
            | (refine flow_load gq _ Qq.out optsU optsI rfl (fun w => Below.refl _ _) rfl rfl rfl w8 ?_; intro K hK; go_big_quiet_op; go_big_quiet_on)
            | (refine flow_load gu _ Qu.out optsU optsI rfl (fun w => Below.refl _ _) rfl rfl rfl w8 ?_; intro K hK; go_big_quiet_op; go_big_quiet_on)
            | (refine flow_quiet (fun w => Below.refl _ _) rfl rfl rfl rfl ?_; intro K hK; go_big_quiet_op; go_big_quiet_on))
          refine flow_callF (tupT bl va ec r) tupT.of F1.out _ ?_ rfl K1.out rfl rfl w8 ?_
          focus (simp only [List.map_toArray, List.map_cons, List.map_nil]; rfl)
          intro K hK; go_big_quiet_op; go_big_quiet_on
          refine flow_callY F2.out (.bool true) (fun u => #[.agg #[.int .u16 ((turnO bl va ec r).mss : Int), .int .i64 (turnO bl va ec r).scale, .bool (turnO bl va ec r).sack, .slice A2 (turnO bl va ec r).bl.length c2, .bool (turnO bl va ec r).time, .int .u32 ((turnO bl va ec r).val : Int), .int .u32 ((turnO bl va ec r).echo : Int)], u]) 0 rfl rfl (fun f => by rfl) K2.out rfl rfl w8 ?_
          intro K hK; go_big_quiet_op; go_big_quiet_on
          repeat (first
            | (refine flow_quiet (fun w => Below.refl _ _) rfl rfl rfl rfl ?_; intro K hK; go_big_quiet_op; go_big_quiet_on))
          refine flow_nil ?_
          intro W5 f hW5 hF5
          clear hF5
          simp only [fillW, Act.put, List.setIfInBounds_toArray, List.set_cons_succ, List.set_cons_zero]
          generalize f 120 = v120
          have hB5 : Below w.heap.size w W5 := Hb8.out.trans (Below.mono hW5 Hb8.out.size)
          clear hW5 ne
          have HB5 := Lib.hid hB5
          clear hB5
          go_wp2_with fail
          go_roundw
          case rel => exact ⟨(.inr (.inr ⟨rfl, rfl⟩)), HB5.out⟩
          case measure => simp [intOf]
        · have q1 : (code != 0) = true := by simp [hc0]
          have hUe : U.toList = [] := by
            rw [hU, ByteArray.toList_eq]
            unfold turnR
            rw [if_neg (by rw [hcd2]; exact hc0)]
          have hb4 := hb3.alloc hb3.size (.cells #[.int .u16 (r.mss : Int), .int .i64 r.scale, .bool r.sack, .slice A1 r.bl.length c1, .bool r.time, .int .u32 (r.val : Int), .int .u32 (r.echo : Int)] 26)
          have hUe2 : (U.toList.isEmpty) = true := by rw [hUe]; rfl
          clear hU hcd hcd2 hre hc0
          have Hb3 := Lib.hid hb3
          clear hb3
          have Hb4 := Lib.hid hb4
          clear hb4
          have Hbr := Lib.hid hbr
          clear hbr
          go_upto_region 14 with fail
          generalize w3.alloc _ = w4 at *
          go_wp2_with fail
          with_reducible refine (Ht1.out _).mono ?_
          rintro e1 w5 ⟨rfl, hbq⟩
          have hb5 := Hb4.out.trans (Below.mono hbq Hb4.out.size)
          clear hbq
          have Hb5 := Lib.hid hb5
          clear hb5
          go_wp2_with fail
          go_roundw
          case rel => exact ⟨(.inr (.inr ⟨rfl, rfl⟩)), Hb5.out⟩
          case measure => simp [intOf]
      · have Hrel := Lib.hid hrel
        clear hrel
        go_wp2_with fail
        with_reducible refine (Hal.out _).mono ?_
        rintro e1 w3 ⟨rfl, hbq⟩
        go_wp2
        go_ret
        exact ⟨rfl, Hrel.out.trans (Below.mono hbq Hrel.out.size)⟩
theorem own : ownKnob Try.prog.godebug = none := by kernel_rfl
theorem laidOut : laidOutB Try.prog = true := by kernel_rfl
set_option maxRecDepth 100000 in
theorem lifted (os : Os) (started : os.Started) (H : Type) (enc : TypeId × Value → H) :
    ReturnsInHanded {} Try.checked os 5 .any (Rows.optBackSpec.pre6 enc Try.prog Try.f5 Rows.optBackRow.domain false) (Rows.optBackSpec.post enc Try.prog Try.f5 false true false false) := by
  refine returnsInHanded_of_change (C := Try.checked) own started (by kernel_rfl) Try.func5
    (ChangeSpec.witness6 (enc := enc) (C := Try.checked) false ⟨#[], #[.agg #[.int .u16 0, .int .i64 0, .bool false, .slice none 0 0, .bool false, .int .u32 0, .int .u32 0], .string ByteArray.empty, .int .u32 0, .int .u32 0, .int .u32 0], []⟩ 8 (by kernel_rfl) (by kernel_rfl) (by kernel_rfl) (by kernel_rfl)) ?_
  intro W base args ds gs before hval0 hW hcnd _
  have hval : ∀ (j : Nat) t v, Try.f5.params[j]? = some t → args[j]? = some v → Value.okWide Try.prog W .any base t v := hval0
  have hW' := hW
  obtain ⟨p, q, hA0, hV, rfl, hfz, hnd⟩ := hW
  have hA : DataW.TrodAll enc Try.prog W 0 (fun _ => true) true Try.f5.params.toList args.toList ds p := hA0
  rw [Try.params5] at hA hval
  obtain ⟨v0, vs0, d0, ds0, p0, q0, hargs, rfl, rfl, h0, r0⟩ := trodAll_cons hA
  obtain ⟨v1, vs1, d1, ds1, p1, q1, rfl, rfl, rfl, h1, r1⟩ := trodAll_cons r0
  obtain ⟨v2, vs2, d2, ds2, p2, q2, rfl, rfl, rfl, h2, r2⟩ := trodAll_cons r1
  obtain ⟨v3, vs3, d3, ds3, p3, q3, rfl, rfl, rfl, h3, r3⟩ := trodAll_cons r2
  obtain ⟨v4, vs4, d4, ds4, p4, q4, rfl, rfl, rfl, h4, r4⟩ := trodAll_cons r3
  obtain ⟨rfl, rfl, rfl⟩ := trodAll_nil r4
  obtain rfl : args = #[v0, v1, v2, v3, v4] := by cases args; simp_all
  obtain ⟨rfl, rfl⟩ := trodVars_none hV
  have k0 := h0
  have lt0 : ∀ x ∈ p0, x.block < W.heap.size := by obtain ⟨m, hm⟩ := k0; exact DataW.trod_lt m _ _ _ hm
  obtain ⟨a0_0, a0_1, a0_2, rfl, w0⟩ := open_opts (hval 0 26 v0 rfl rfl) h0
  obtain ⟨a1, rfl, rfl, rfl, w1⟩ := open_string Try.underlying9 (hval 1 9 v1 rfl rfl) h1
  obtain ⟨a2, rfl, rfl, rfl, w2⟩ := open_int Try.underlying24 (hval 2 24 v2 rfl rfl) h2
  obtain ⟨a3, rfl, rfl, rfl, w3⟩ := open_int Try.underlying24 (hval 3 24 v3 rfl rfl) h3
  obtain ⟨a4, rfl, rfl, rfl, w4⟩ := open_int Try.underlying24 (hval 4 24 v4 rfl rfl) h4
  clear hA0 hval0
  refine (walk a0_0 a0_1 a0_2 a1 a2 a3 a4 W w0 w1 w2 w3 w4).mono fun e W' ⟨he, bel⟩ => ?_
  subst he
  exact ⟨_, rfl, _, _, _, [], _, [], hW', trodAll_mk1 (shut_bool Try.underlying4 _), (trodAll_cons_mk (Below.trod laidOut (by kernel_rfl) (of_decide_eq_true (by kernel_rfl)) k0 bel lt0) (trodAll_cons_mk (shut_string Try.underlying9 w1) (trodAll_cons_mk (shut_int Try.underlying24 w2) (trodAll_cons_mk (shut_int Try.underlying24 w3) (trodAll_cons_mk (shut_int Try.underlying24 w4) trodAll_mk0))))), rfl, bel.frame _, fun h => by cases h⟩

theorem over : Rows.optBackRow.holds Try.pinned (OpenSpec.ofChange Rows.optBackSpec) :=
  OpenClaim.holds_of_wide 5 Try.f5 rfl rfl rfl rfl rfl rfl rfl ⟨rfl, rfl, rfl, rfl, rfl⟩ rfl rfl rfl rfl rfl (by kernel_rfl) Try.func5 (by kernel_rfl)
    (of_decide_eq_true (by kernel_rfl)) (by unfold Func.isWrapper; first | (rw [if_pos (by decide +kernel)]; kernel_rfl) | (rw [if_neg (by decide +kernel)]; exact ⟨rfl, rfl⟩))
    (fun os started H enc _ => lifted os started H enc)

/-- THE STATEMENT -/
theorem proved : Rows.OptBackSaid := over
#print axioms proved
end Go.Proofs.Ytimepplfaaddeaa.optBack
