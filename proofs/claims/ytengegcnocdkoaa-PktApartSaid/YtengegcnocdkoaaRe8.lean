/- Contracts and plain lemmas: OptDecW, OptDecA, OptPlaces, OptAdd, OptScan, PktPlain, PktDecP, OptTurnP. -/
import Derived.Deep.DeepCutAuto
import Derived.Test.YtengegcnocdkoaaRe7
import Derived.Test.YtengegcnocdkoaaRe4
import Derived.Test.YtengegcnocdkoaaRe3
set_option linter.unusedVariables false
set_option linter.unusedSimpArgs false
set_option linter.unusedSectionVars false
section
set_option maxRecDepth 20000
namespace Go.Proofs.Ytengegcnocdkoaa
open Go.RowKit Go.BigFrame Go.Shelf Go.Maps
attribute [local go_sem] Oper.semAt_some
def zeroO : Op := ⟨0, 0, false, [], false, 0, 0⟩
def decR (L : List UInt8) : Op × Int := if 40 < L.length then (zeroO, 4) else match decL L with
  | none => (zeroO, 70)
  | some o => (o, 0)
/-- a row that was not there before -/
def NewA (w : World) (A : Option Addr) : Prop := ∀ ad, A = some ad → w.heap.size ≤ ad.block
def DecPost (w : World) (L : List UInt8) (e : Ending) (w' : World) : Prop :=
  ∃ (r : Op) (A : Option Addr) (c : Nat) (code : Int), e = .returned (.tuple #[.agg (optC r A c), .int .i64 code]) ∧ (BlR w' A r.bl ∧ NewA w A) ∧ Below w.heap.size w w' ∧ (r, code) = decR L
theorem blkC_at (l : List (Int × Int)) : ∀ j p, l[j]? = some p → (l.flatMap blkC)[j * 2]? = some (.int .u32 p.1) ∧ (l.flatMap blkC)[j * 2 + 1]? = some (.int .u32 p.2) := by
  induction l with
  | nil => intro j p h; simp at h
  | cons q l ih =>
    intro j p h
    cases j with
    | zero => simp at h; subst h; simp [blkC]
    | succ j =>
      have h2 := ih j p (by simpa using h)
      rw [show (j + 1) * 2 = j * 2 + 1 + 1 by omega, show j * 2 + 1 + 1 + 1 = (j * 2 + 1) + 1 + 1 by omega]
      simpa [blkC] using h2
theorem own_newA {W : World} {base E k m n c : Nat} {A : Option Addr} {xs : List Value} (h : W.ownsRow base E k (.slice A n c) m xs) : ∀ ad, A = some ad → base ≤ ad.block := by
  rintro ad rfl
  exact (h.lt ad.block rfl).1
theorem own_blrC {w' : World} {base : Nat} {v : Value} {l : List (Int × Int)} (h : w'.ownsRow base 92 2 v l.length (l.flatMap blkC)) : ∃ A c, v = .slice A l.length c ∧ BlR w' A l := by
  rcases h.2 with ⟨h1, h2⟩ | ⟨g, cap, cur, h1, _, h2, _⟩
  · refine ⟨none, 0, ?_, .inl (List.length_eq_zero_iff.1 h2)⟩
    rw [h1, h2]
  · subst h1
    refine ⟨_, _, rfl, .inr ⟨g, 0, rfl, (Array.getElem?_eq_some_iff.1 h2).1, fun j p hj => ?_⟩⟩
    have hc := h.cells (g := g) rfl
    have had : ∀ k, (⟨g, 0, none⟩ : Addr).add k = ⟨g, 0 + k, none⟩ := by intro k; unfold Addr.add; split <;> simp_all
    obtain ⟨k1, k2⟩ := blkC_at l j p hj
    have a1 := hc _ _ k1
    have a2 := hc _ _ k2
    rw [had] at a1 a2
    exact ⟨a1, a2⟩
set_option maxRecDepth 100000 in
set_option maxHeartbeats 20000000 in
theorem dec_in (x : ByteArray) (L : List UInt8) (hx : x.data.toList = L) (hm : L.length ≤ 40) (w : World) :
    CallsIn Fence.wide 3 Try.prog 42 #[.string x] w (DecPost w L) := by
  have hsz : x.size = L.length := by rw [← hx]; simp
  have j1 : ¬ (40 : Int) < (L.length : Int) := by omega
  have hmk : ∀ W, (Instr.makeMap 107 none).run Try.prog W = .ok (.map (some W.heap.size)) (W.alloc (.map #[] 0)) := fun _ => by kernel_rfl
  refine callsIn_of_wp_marks Try.func42 rfl trivial ?_ rfl
  simp only [Try.ntmps42, List.size_toArray, List.length_cons, List.length_nil, Nat.reduceAdd, Nat.reduceSub, Array.replicate_succ, Array.replicate_zero, List.push_toArray, List.append_toArray, List.nil_append, List.cons_append]
  have hb0 : Below w.heap.size w w := Below.refl _ _
  have HB := Lib.hid hb0
  clear hb0
  gi_upto_region 3 with fail
  have hs := Blk.alloc (Blk.alloc (Blk.new w 9 #[.string x]) (.cells #[.int .u16 0, .int .i64 0, .bool false, .slice none 0 0, .bool false, .int .u32 0, .int .u32 0] 28)) (.cells #[.int .i64 0] 33)
  have ho := Blk.alloc (Blk.new (w.alloc (.cells #[.string x] 9)) 28 #[.int .u16 0, .int .i64 0, .bool false, .slice none 0 0, .bool false, .int .u32 0, .int .u32 0]) (.cells #[.int .i64 0] 33)
  rw [show (w.alloc (.cells #[.string x] 9)).heap.size = w.heap.size + 1 by simp] at ho
  have he := Blk.new ((w.alloc (.cells #[.string x] 9)).alloc (.cells #[.int .u16 0, .int .i64 0, .bool false, .slice none 0 0, .bool false, .int .u32 0, .int .u32 0] 28)) 33 #[.int .i64 0]
  rw [show ((w.alloc (.cells #[.string x] 9)).alloc (.cells #[.int .u16 0, .int .i64 0, .bool false, .slice none 0 0, .bool false, .int .u32 0, .int .u32 0] 28)).heap.size = w.heap.size + 2 by simp] at he
  have hB := Below.alloc (Below.alloc (Below.alloc (HB.out) (Nat.le_trans HB.out.size (by simp <;> omega)) (.cells #[.string x] 9)) (Nat.le_trans HB.out.size (by simp <;> omega)) (.cells #[.int .u16 0, .int .i64 0, .bool false, .slice none 0 0, .bool false, .int .u32 0, .int .u32 0] 28)) (Nat.le_trans HB.out.size (by simp <;> omega)) (.cells #[.int .i64 0] 33)
  clear HB
  obtain ⟨ge, hgee⟩ : ∃ g, g = w.heap.size + 2 := ⟨_, rfl⟩
  rw [← hgee] at he ⊢
  obtain ⟨go, hgeo⟩ : ∃ g, g = w.heap.size + 1 := ⟨_, rfl⟩
  rw [← hgeo] at ho ⊢
  obtain ⟨gs, hges⟩ : ∃ g, g = w.heap.size := ⟨_, rfl⟩
  rw [← hges] at hs ⊢
  have hne_s_o : gs ≠ go := by omega
  have hne_s_e : gs ≠ ge := by omega
  have hne_o_e : go ≠ ge := by omega
  have hle_s : w.heap.size ≤ gs := by omega
  have hle_o : w.heap.size ≤ go := by omega
  have hle_e : w.heap.size ≤ ge := by omega
  clear hges hgeo hgee
  generalize ((w.alloc _).alloc _).alloc _ = wn1 at *
  have Hs := Lib.hid hs
  clear hs
  have Ho := Lib.hid ho
  clear ho
  have He := Lib.hid he
  clear he
  have HB := Lib.hid hB
  clear hB
  gi_wp2_with fail
  refine ⟨trivial, ?_⟩
  refine (callsIn_wide.2 (none_any _)).mono ?_
  rintro e w1 ⟨rfl, hbq⟩
  have hs := Hs.out.below hbq Hs.out.lt
  clear Hs
  have Hs := Lib.hid hs
  clear hs
  have ho := Ho.out.below hbq Ho.out.lt
  clear Ho
  have Ho := Lib.hid ho
  clear ho
  have he := He.out.below hbq He.out.lt
  clear He
  have He := Lib.hid he
  clear he
  have hB := HB.out.trans (hbq.mono HB.out.size)
  clear HB
  have HB := Lib.hid hB
  clear hB
  clear hbq
  have d0 := Ho.out.cell 0
  have d1 := Ho.out.cell 1
  have d2 := Ho.out.cell 2
  have d3 := Ho.out.cell 3
  have d4 := Ho.out.cell 4
  have d5 := Ho.out.cell 5
  have d6 := Ho.out.cell 6
  simp at d0 d1 d2 d3 d4 d5 d6
  have fr := Ho.out.frozen
  gi_upto_region 4 with fail
  generalize hWf : World.setCell _ _ _ = W2
  have ho2 : Blk W2 go 28 #[.int .u16 0, .int .i64 (-1), .bool false, .slice none 0 0, .bool false, .int .u32 0, .int .u32 0] := by
    rw [← hWf]
    have := ((((((Ho.out.set_ 0 (.int .u16 0)).set_ 1 (.int .i64 (-1))).set_ 2 (.bool false)).set_ 3 (.slice none 0 0)).set_ 4 (.bool false)).set_ 5 (.int .u32 0)).set_ 6 (.int .u32 0)
    simpa using this
  have hg2 : w1.grownBy W2 (some go) := by
    rw [← hWf]
    repeat (refine only_set ?_ _ _)
    exact World.grownBy.refl _ _
  have hs2 := Hs.out.grown hg2 (fun e => hne_s_o (Option.some.inj e))
  have he2 := He.out.grown hg2 (fun e => hne_o_e (Option.some.inj e).symm)
  have hB2 := below_only HB.out hg2 hle_o HB.out.size
  clear d0 d1 d2 d3 d4 d5 d6 fr hWf hg2 Hs Ho He HB
  gi_upto_region 5 with fail
  have hM3 : MapIs Try.prog 5 ((W2.alloc (.map #[] 0)).alloc (.cells #[.map (some W2.heap.size)] 107)) W2.heap.size 0 (metM []) := ((MapIs.made Try.prog 5 W2).congr (by funext kl; cases kl with | int k i => cases k <;> simp [metM] | _ => rfl) rfl).alloc _
  have hb3 : Blk ((W2.alloc (.map #[] 0)).alloc (.cells #[.map (some W2.heap.size)] 107)) (W2.heap.size + 1) 107 #[.map (some W2.heap.size)] := by have := Blk.new (W2.alloc (.map #[] 0)) 107 #[.map (some W2.heap.size)]; rwa [World.size_alloc] at this
  have hs3 := Blk.alloc (Blk.alloc hs2 (.map #[] 0)) (.cells #[.map (some W2.heap.size)] 107)
  have ho3 := Blk.alloc (Blk.alloc ho2 (.map #[] 0)) (.cells #[.map (some W2.heap.size)] 107)
  have he3 := Blk.alloc (Blk.alloc he2 (.map #[] 0)) (.cells #[.map (some W2.heap.size)] 107)
  have hB3 := (hB2.alloc hB2.size (.map #[] 0)).alloc (Nat.le_trans hB2.size (by simp)) (.cells #[.map (some W2.heap.size)] 107)
  have hz3 : ((W2.alloc (.map #[] 0)).alloc (.cells #[.map (some W2.heap.size)] 107)).heap.size = W2.heap.size + 2 := by simp
  have hgs2 := hs2.lt
  have hgo2 := ho2.lt
  have hge2 := he2.lt
  have hwm : w.heap.size ≤ W2.heap.size := hB2.size
  obtain ⟨gm, hgm⟩ : ∃ g, g = W2.heap.size := ⟨_, rfl⟩
  obtain ⟨gb, hgb⟩ : ∃ g, g = W2.heap.size + 1 := ⟨_, rfl⟩
  clear hs2 ho2 he2 hB2
  rw [← hgb] at hb3 ⊢
  rw [← hgm] at hM3 hb3 hs3 ho3 he3 hB3 hz3 hgs2 hgo2 hge2 hwm hgb ⊢
  generalize (W2.alloc (.map #[] 0)).alloc _ = W3 at *
  clear hgm
  have cs3 := hs3.cell 0
  simp at cs3
  have HM3 := Lib.hid hM3
  clear hM3
  have Hb3 := Lib.hid hb3
  clear hb3
  have Hs3 := Lib.hid hs3
  clear hs3
  have Ho3 := Lib.hid ho3
  clear ho3
  have He3 := Lib.hid he3
  clear he3
  have HB3 := Lib.hid hB3
  clear hB3
  have Hgs2 := Lib.hid hgs2
  clear hgs2
  have Hgo2 := Lib.hid hgo2
  clear hgo2
  have Hge2 := Lib.hid hge2
  clear hge2
  have Hwm := Lib.hid hwm
  clear hwm
  have Hgb := Lib.hid hgb
  clear hgb
  have Hz3 := Lib.hid hz3
  clear hz3
  gi_wp2_with (refine ⟨trivial, ?_⟩; gi_at_call 75; refine (each_in _ _).mono ?_; rintro e w' ⟨rfl, rfl⟩)
  have hB4 := HB3.out.alloc HB3.out.size (.cells #[.string x] 9)
  have hz4 := Blk.new W3 9 #[.string x]
  have hs4 := Blk.alloc Hs3.out (.cells #[.string x] 9)
  have ho4 := Blk.alloc Ho3.out (.cells #[.string x] 9)
  have he4 := Blk.alloc He3.out (.cells #[.string x] 9)
  have hb4 := Blk.alloc Hb3.out (.cells #[.string x] 9)
  have hM4 := HM3.out.alloc (.cells #[.string x] 9)
  have hgz : W3.heap.size = gm + 2 := Hz3.out
  obtain ⟨gz, hgze⟩ : ∃ g, g = W3.heap.size := ⟨_, rfl⟩
  rw [← hgze] at hz4 hgz ⊢
  have hsz4 : (W3.alloc (.cells #[.string x] 9)).heap.size = gz + 1 := by rw [hgze]; simp
  clear Hz3 cs3 hgze
  generalize W3.alloc _ = W4 at *
  have hlg := hs4.lt
  have hlo := ho4.lt
  have hle := he4.lt
  have Hgz := Lib.hid hgz
  clear hgz
  have Hsz4 := Lib.hid hsz4
  clear hsz4
  refine wpIn_rangeFunc_ownG rfl (by omega) (gf := 94) (lb := #[.pointer (some ⟨gz, 0, none⟩)]) rfl trivial (enters_of Try.func94 (by kernel_rfl) rfl)
    (each_stops w.heap.size gz x L hx (by omega) _ hB4.size hz4) KeepsS.trans (KeepsS.putObj hB4.size) (Below.refl _ _) (fun _ => rfl)
    (DecI w gs go ge gb gm x L)
    (DecX w go ge L)
    (DecI.own (w0 := w) hB4.size (by have := Hgb.out; have := Hgz.out; have := Hsz4.out; omega)) (DecX.own hB4.size)
    ⟨hB4, hs4, he4, hb4, noneO, [], 0, rfl, ⟨.slice none 0 0, World.ownsRow_nil _ _ _ _, ho4⟩, hM4, Nat.le_refl _⟩
    (fun x1 => { tmps := #[.string x, .pointer (some ⟨gs, 0, none⟩), .pointer (some ⟨go, 0, none⟩), .pointer (some ⟨ge, 0, none⟩), .pointer (some ⟨gb, 0, none⟩), .int .i64 (x1.1.1 : Int), .int .i64 (x1.1.2 : Int), undef, undef, .string x, .int .i64 (L.length : Int), .bool false, undef, .agg #[.int .u16 0, .int .i64 (-1), .bool false, .slice none 0 0, .bool false, .int .u32 0, .int .u32 0], .map (some gm), .string x, .func (.func 94) #[] #[.pointer (some ⟨gz, 0, none⟩)], .int .i64 (x1.1.1 : Int), .int .i64 (x1.1.2 : Int), undef, undef, undef, undef, undef, undef, undef, undef, undef, undef, undef, undef, undef, undef, undef, undef, undef, undef, undef, undef, undef, undef, undef, undef, undef, undef, undef, undef, undef, undef, undef, undef, undef, undef, undef, undef, undef, undef, undef, undef, undef, undef, undef, undef, undef, undef, undef, undef, undef, undef, undef, undef, undef, undef, undef, undef, undef, undef, undef, undef, undef, undef, undef, undef, undef, undef, undef, undef, undef, undef, undef, undef, undef, undef, undef, undef, undef, undef, undef], defers := [] }) ?assign ?body ?done ?stop
  case assign =>
    intro l x1 W K hK
    gi_wp2
    exact hK

  case body =>
    rintro l pre ⟨⟨i, m⟩, ⟨hi, hk0, hk1, hst⟩, hin⟩ W ⟨hB, hs, he, hb, o, met, n, hf, ⟨v, hv, ho⟩, hM, hn⟩ hlt
    dsimp only at hi hk0 hk1 hst ⊢
    have hstep : foldD L ((pre ++ [(⟨(i, m), ⟨hi, hk0, hk1, hst⟩, hin⟩ : PV L)]).map (·.1)) (noneO, []) = stepD L (o, met) (i, m) := by
      rw [List.map_append, foldD_append, hf]
      simp [foldD, List.foldlM]
    obtain ⟨pre2, hpre⟩ : ∃ p, p = pre ++ [(⟨(i, m), ⟨hi, hk0, hk1, hst⟩, hin⟩ : PV L)] := ⟨_, rfl⟩
    have hpl : pre2.length = pre.length + 1 := by rw [hpre]; simp
    rw [← hpre] at hstep ⊢
    clear hpre hin
    have hpn : pre.length ≤ 41 := by
      have := places_len L (L.length - 0 + 1) 0
      unfold placesAt at hlt
      omega
    obtain ⟨b, hbe⟩ : ∃ b, b = byteN L i := ⟨_, rfl⟩
    have hb256 : b < 256 := by rw [hbe]; exact byteN_lt _ _
    have hix := fun W => index_at x i (by rw [hx]; exact hi) W
    rw [hx, ← hbe] at hix
    rw [← hbe] at hk0 hk1
    have cs0 := hs.cell 0
    have cb0 := hb.cell 0
    have ce0 := he.cell 0
    have fe := he.frozen 0
    try simp at cs0
    try simp at cb0
    try simp at ce0
    have ho' : Blk W go 28 (optV o v) := ho
    unfold optV at ho'
    have c0 := ho'.cell 0
    have c1 := ho'.cell 1
    have c2 := ho'.cell 2
    have c3 := ho'.cell 3
    have c4 := ho'.cell 4
    have c5 := ho'.cell 5
    have c6 := ho'.cell 6
    simp at c0 c1 c2 c3 c4 c5 c6
    have fr := ho'.frozen
    have hgmB : gm < W4.heap.size := by have := Hgz.out; have := Hsz4.out; omega
    have hB4s := hB4.size
    have hlg' : gs < W4.heap.size := hlg
    have Hf := Lib.hid hf
    clear hf
    have HB := Lib.hid hB
    clear hB
    have Hs := Lib.hid hs
    clear hs
    have He := Lib.hid he
    clear he
    have Hb := Lib.hid hb
    clear hb
    have Hv := Lib.hid hv
    clear hv
    have Ho := Lib.hid ho
    clear ho
    have HM := Lib.hid hM
    clear hM
    have Hn := Lib.hid hn
    clear hn
    have Hlt := Lib.hid hlt
    clear hlt
    have Hpl := Lib.hid hpl
    clear hpl
    have Hpn := Lib.hid hpn
    clear hpn
    have Hst := Lib.hid hst
    clear hst
    have Ho' := Lib.hid ho'
    clear ho'
    have HgmB := Lib.hid hgmB
    clear hgmB
    have HB4s := Lib.hid hB4s
    clear hB4s
    have Hstep := Lib.hid hstep
    clear hstep
    have Hbe := Lib.hid hbe
    clear hbe
    clear Hs3 Ho3 He3 Hb3 HM3 HB3 hlg'
    by_cases hm0 : m = 0
    · have t1 : ((m : Int) == 0) = true := by rw [hm0]; rfl
      have Hm0 := Lib.hid hm0
      clear hm0
      gi_wp2
      have hfin : foldD L (pre2.map (·.1)) (noneO, []) = none := Hstep.out.trans (by unfold stepD; rw [if_pos (.inl Hm0.out)])
      have hout0 : Out (DecO go gm v) W W := Out.refl _ _
      generalize hWf : World.setCell _ _ _ = Wf
      have hoF : Blk Wf go 28 zeroV := by
        rw [← hWf]
        have := (((((((Ho'.out.set_ 0 (.int .u16 0)).set_ 1 (.int .i64 0)).set_ 2 (.bool false)).set_ 3 (.slice none 0 0)).set_ 4 (.bool false)).set_ 5 (.int .u32 0)).set_ 6 (.int .u32 0)).far (p := ⟨ge, 0, none⟩) hne_o_e (.int .i64 70)
        simpa [zeroV] using this
      have heF : Blk Wf ge 33 #[.int .i64 70] := by
        rw [← hWf]
        have := (((((((He.out.far (p := ⟨go, 0, none⟩) (Ne.symm hne_o_e) (.int .u16 0)).far (p := ⟨go, 1, none⟩) (Ne.symm hne_o_e) (.int .i64 0)).far (p := ⟨go, 2, none⟩) (Ne.symm hne_o_e) (.bool false)).far (p := ⟨go, 3, none⟩) (Ne.symm hne_o_e) (.slice none 0 0)).far (p := ⟨go, 4, none⟩) (Ne.symm hne_o_e) (.bool false)).far (p := ⟨go, 5, none⟩) (Ne.symm hne_o_e) (.int .u32 0)).far (p := ⟨go, 6, none⟩) (Ne.symm hne_o_e) (.int .u32 0)).set_ 0 (.int .i64 70)
        simpa using this
      have hout : Out (fun i => DecO go gm v i ∨ i = ge) W Wf := by
        rw [← hWf]
        repeat (first | (refine Out.set_ ?_ (.inl (.inl rfl)) _ _) | (refine Out.set_ ?_ (.inr rfl) _ _))
        exact hout0.mono (fun _ _ h => .inl h)
      exact dec_stop HB.out Hv.out hle_o Hwm.out hle_e hlo HgmB.out hle hout hfin hoF heF
    have t1 : ((m : Int) == 0) = false := by simp; omega
    obtain ⟨h2, h3, h4, h5, h6⟩ := stepN_pos (L := L) (i := i) (by rw [← Hst.out]; exact hm0)
    rw [← Hst.out] at h4 h6
    have h7 : longB b m = true := by rw [Hst.out, h5, Hbe.out]; exact h3
    rw [← Hbe.out] at h3
    have hlk := HM.out.look lawU8o Try.underlying107 (zeroInt W) (keyU8o hb256)
    rw [metM_at] at hlk
    by_cases hmet : b ∈ met
    · rw [if_pos hmet] at hlk
      have hfin : foldD L (pre2.map (·.1)) (noneO, []) = none := Hstep.out.trans (by unfold stepD; rw [if_pos (.inr (by rw [← Hbe.out]; exact hmet))])
      have Hmet := Lib.hid hmet
      clear hmet
      have Hfin := Lib.hid hfin
      clear hfin
      have H7 := Lib.hid h7
      clear h7
      gi_wp2
      have hfin := Hfin.out
      have hout0 : Out (DecO go gm v) W W := Out.refl _ _
      generalize hWf : World.setCell _ _ _ = Wf
      have hoF : Blk Wf go 28 zeroV := by
        rw [← hWf]
        have := (((((((Ho'.out.set_ 0 (.int .u16 0)).set_ 1 (.int .i64 0)).set_ 2 (.bool false)).set_ 3 (.slice none 0 0)).set_ 4 (.bool false)).set_ 5 (.int .u32 0)).set_ 6 (.int .u32 0)).far (p := ⟨ge, 0, none⟩) hne_o_e (.int .i64 70)
        simpa [zeroV] using this
      have heF : Blk Wf ge 33 #[.int .i64 70] := by
        rw [← hWf]
        have := (((((((He.out.far (p := ⟨go, 0, none⟩) (Ne.symm hne_o_e) (.int .u16 0)).far (p := ⟨go, 1, none⟩) (Ne.symm hne_o_e) (.int .i64 0)).far (p := ⟨go, 2, none⟩) (Ne.symm hne_o_e) (.bool false)).far (p := ⟨go, 3, none⟩) (Ne.symm hne_o_e) (.slice none 0 0)).far (p := ⟨go, 4, none⟩) (Ne.symm hne_o_e) (.bool false)).far (p := ⟨go, 5, none⟩) (Ne.symm hne_o_e) (.int .u32 0)).far (p := ⟨go, 6, none⟩) (Ne.symm hne_o_e) (.int .u32 0)).set_ 0 (.int .i64 70)
        simpa using this
      have hout : Out (fun i => DecO go gm v i ∨ i = ge) W Wf := by
        rw [← hWf]
        repeat (first | (refine Out.set_ ?_ (.inl (.inl rfl)) _ _) | (refine Out.set_ ?_ (.inr rfl) _ _))
        exact hout0.mono (fun _ _ h => .inl h)
      exact dec_stop HB.out Hv.out hle_o Hwm.out hle_e hlo HgmB.out hle hout hfin hoF heF
    rw [if_neg hmet] at hlk
    have j2 : (0 : Int) ≤ (i : Int) + 2 := by omega
    have j3 : (i : Int) + 2 ≤ (i : Int) + (m : Int) := by omega
    have j4 : (i : Int) + (m : Int) ≤ (L.length : Int) := by omega
    have Hmet := Lib.hid hmet
    clear hmet
    have H2 := Lib.hid h2
    clear h2
    have H3 := Lib.hid h3
    clear h3
    have H5 := Lib.hid h5
    clear h5
    have H7 := Lib.hid h7
    clear h7
    gi_upto_region 12 with fail
    obtain ⟨S, hS⟩ : ∃ S, S = x.extract (i + 2) (i + m) := ⟨_, rfl⟩
    rw [← hS]
    have hSd : S.data.toList = bodyL L (i, m) := by
      rw [hS, ByteArray.data_extract]
      unfold bodyL
      simp only [Array.toList_extract, List.extract_eq_take_drop, hx]
      rw [show i + m - (i + 2) = m - 2 by omega]
    have hSz : S.size = m - 2 := by
      rw [hS]
      simp
      omega
    have hnot : ¬ ((m = 0) ∨ byteN L i ∈ met) := by
      rintro (h | h)
      · exact hm0 h
      · exact Hmet.out (by rw [Hbe.out]; exact h)
    have hstepD : stepD L (o, met) (i, m) = (takeP L o (i, m)).map fun o2 => (o2, if metB b = true then b :: met else met) := by
      unfold stepD
      rw [if_neg hnot, Hbe.out]
    have hfold := Hstep.out.trans hstepD
    have hbn : byteN L i = b := Hbe.out.symm
    clear hnot hstepD hix
    have HS := Lib.hid hS
    clear hS
    have HSd := Lib.hid hSd
    clear hSd
    have HSz := Lib.hid hSz
    clear hSz
    have Hfold := Lib.hid hfold
    clear hfold
    have Hbn := Lib.hid hbn
    clear hbn
    by_cases hmb : b ≤ 5 ∨ b = 8
    · have hmB : metB b = true := by unfold metB; rcases hmb with h | h <;> simp [h]
      obtain ⟨W1, hst1, hM1, ht1⟩ := HM.out.store lawU8o Try.underlying107 (by have := Hn.out; have := Hpn.out; simp only [maxLen]; omega) (keyU8o hb256) (val := .int .i64 1)
      rw [metM_upd] at hM1
      have hg1 := ht1.grown
      have hn1 : (if (metM met (.int .u8 (b : Int))).isSome then n else n + 1) ≤ pre2.length := by have := Hn.out; have := Hpl.out; split <;> omega
      have hgo := map_not_blk HM.out Ho'.out
      have hge := map_not_blk HM.out He.out
      have ho1 := Ho'.out.grown hg1 (fun e => hgo (Option.some.inj e))
      have he1 := He.out.grown hg1 (fun e => hge (Option.some.inj e))
      have hv1 := Hv.out.kept hg1 (.inr (fun e => by obtain ⟨_, c, hc⟩ := own_cells Hv.out e; obtain ⟨es, cl, h8, _⟩ := HM.out.size; rw [hc] at h8; cases h8))
      have hout1 : Out (DecO go gm v) W W1 := Out.grown hg1 (.inr (.inl rfl))
      clear c0 c1 c2 c3 c4 c5 c6 fr ht1 hg1 hgo hge
      have c0 := ho1.cell 0
      have c1 := ho1.cell 1
      have c2 := ho1.cell 2
      have c3 := ho1.cell 3
      have c4 := ho1.cell 4
      have c5 := ho1.cell 5
      have c6 := ho1.cell 6
      simp at c0 c1 c2 c3 c4 c5 c6
      have fr := ho1.frozen
      have ce1 := he1.cell 0
      try simp at ce1
      have fe1 := he1.frozen 0
      have HM1 := Lib.hid hM1
      clear hM1
      have Hn1 := Lib.hid hn1
      clear hn1
      have Ho1 := Lib.hid ho1
      clear ho1
      have He1 := Lib.hid he1
      clear he1
      have Hv1 := Lib.hid hv1
      clear hv1
      have Hout1 := Lib.hid hout1
      clear hout1
      have HmB := Lib.hid hmB
      clear hmB
      by_cases hb2 : b = 2
      · have v5 : (b : Int) ≤ 5 := by omega
        have u2 : ((b : Int) == 2) = true := by simp; omega
        have u3 : ((b : Int) == 3) = false := by simp; omega
        have u4 : ((b : Int) == 4) = false := by simp; omega
        have u5 : ((b : Int) == 5) = false := by simp; omega
        have u8 : ((b : Int) == 8) = false := by simp; omega
        clear hmb
        obtain ⟨q, hq⟩ : ∃ q, q = numL (bodyL L (i, m)) % 65536 := ⟨_, rfl⟩
        have hnum := number16 S W1 (by have := HSz.out; simp only [maxLen]; omega)
        rw [HSd.out, ← hq] at hnum
        by_cases hq0 : q = 0
        · have hk : takeP L o (i, m) = none := by
            unfold takeP
            simp only [Hbn.out, hb2, ← hq, hq0]
            rfl
          have hfin := Hfold.out
          rw [hk] at hfin
          have hfin : foldD L (pre2.map (·.1)) (noneO, []) = none := hfin
          have q1 : ((q : Int) == 0) = true := by rw [hq0]; rfl
          have Hfin := Lib.hid hfin
          clear hfin
          have Hq := Lib.hid hq
          clear hq
          have Hk := Lib.hid hk
          clear hk
          have Hb2 := Lib.hid hb2
          clear hb2
          have Hq0 := Lib.hid hq0
          clear hq0
          have Hnum := Lib.hid hnum
          clear hnum
          gi_wp2_with fail
          refine ⟨trivial, ?_⟩
          refine (CallsIn.inRound l (callsIn_wide.2 Hnum.out)).mono ?_
          rintro e w2 ⟨rfl, hbq⟩
          have hoA := Ho1.out.below hbq Ho1.out.lt
          have heA := He1.out.below hbq He1.out.lt
          have hv2 := Hv1.out.kept (only_of_below hbq none) (Classical.em _)
          have hM2 := HM1.out.below hbq HM1.out.lt
          have hout2 : Out (DecO go gm v) W w2 := Out.trans Hout1.out (Out.of_below (O := fun _ => False) hbq) (fun _ _ h => h.elim)
          clear c0 c1 c2 c3 c4 c5 c6 fr ce1 fe1 hbq
          have c0 := hoA.cell 0
          have c1 := hoA.cell 1
          have c2 := hoA.cell 2
          have c3 := hoA.cell 3
          have c4 := hoA.cell 4
          have c5 := hoA.cell 5
          have c6 := hoA.cell 6
          simp at c0 c1 c2 c3 c4 c5 c6
          have fr := hoA.frozen
          have ce1 := heA.cell 0
          try simp at ce1
          have fe1 := heA.frozen 0
          have HoA := Lib.hid hoA
          clear hoA
          have HeA := Lib.hid heA
          clear heA
          have Hv2 := Lib.hid hv2
          clear hv2
          have HM2 := Lib.hid hM2
          clear hM2
          have Hout2 := Lib.hid hout2
          clear hout2
          gi_wp2
          have hfin := Hfin.out
          have hout0 : Out (DecO go gm v) W w2 := Hout2.out
          have hoB := HoA.out.set_ 0 (.int .u16 (q : Int))
          have heB := HeA.out.far (p := ⟨go, 0, none⟩) (Ne.symm hne_o_e) (.int .u16 (q : Int))
          simp only [List.set_cons_zero, List.setIfInBounds_toArray] at hoB
          have HoB := Lib.hid hoB
          clear hoB
          have HeB := Lib.hid heB
          clear heB
          generalize hWf : World.setCell _ _ _ = Wf
          have hoF : Blk Wf go 28 zeroV := by
            rw [← hWf]
            have := (((((((HoB.out.set_ 0 (.int .u16 0)).set_ 1 (.int .i64 0)).set_ 2 (.bool false)).set_ 3 (.slice none 0 0)).set_ 4 (.bool false)).set_ 5 (.int .u32 0)).set_ 6 (.int .u32 0)).far (p := ⟨ge, 0, none⟩) hne_o_e (.int .i64 70)
            simpa [zeroV] using this
          have heF : Blk Wf ge 33 #[.int .i64 70] := by
            rw [← hWf]
            have := (((((((HeB.out.far (p := ⟨go, 0, none⟩) (Ne.symm hne_o_e) (.int .u16 0)).far (p := ⟨go, 1, none⟩) (Ne.symm hne_o_e) (.int .i64 0)).far (p := ⟨go, 2, none⟩) (Ne.symm hne_o_e) (.bool false)).far (p := ⟨go, 3, none⟩) (Ne.symm hne_o_e) (.slice none 0 0)).far (p := ⟨go, 4, none⟩) (Ne.symm hne_o_e) (.bool false)).far (p := ⟨go, 5, none⟩) (Ne.symm hne_o_e) (.int .u32 0)).far (p := ⟨go, 6, none⟩) (Ne.symm hne_o_e) (.int .u32 0)).set_ 0 (.int .i64 70)
            simpa using this
          have hout : Out (fun i => DecO go gm v i ∨ i = ge) W Wf := by
            rw [← hWf]
            repeat (first | (refine Out.set_ ?_ (.inl (.inl rfl)) _ _) | (refine Out.set_ ?_ (.inr rfl) _ _))
            exact hout0.mono (fun _ _ h => .inl h)
          exact dec_stop HB.out Hv.out hle_o Hwm.out hle_e hlo HgmB.out hle hout hfin hoF heF
        · have hk : takeP L o (i, m) = some { o with mss := q } := by
            unfold takeP
            simp only [Hbn.out, hb2, ← hq]
            rw [if_pos trivial, if_neg hq0]
          have hfold := Hfold.out
          rw [hk, Option.map_some, if_pos HmB.out] at hfold
          obtain ⟨o2, ho2⟩ : ∃ z, z = ({ o with mss := q } : Op) := ⟨_, rfl⟩
          rw [← ho2] at hfold
          have q1 : ((q : Int) == 0) = false := by simp; omega
          have Hfold := Lib.hid hfold
          clear hfold
          have Hq := Lib.hid hq
          clear hq
          have Hk := Lib.hid hk
          clear hk
          have Hb2 := Lib.hid hb2
          clear hb2
          have Ho2 := Lib.hid ho2
          clear ho2
          have Hnum := Lib.hid hnum
          clear hnum
          gi_wp2_with fail
          refine ⟨trivial, ?_⟩
          refine (CallsIn.inRound l (callsIn_wide.2 Hnum.out)).mono ?_
          rintro e w2 ⟨rfl, hbq⟩
          have hoA := Ho1.out.below hbq Ho1.out.lt
          have heA := He1.out.below hbq He1.out.lt
          have hv2 := Hv1.out.kept (only_of_below hbq none) (Classical.em _)
          have hM2 := HM1.out.below hbq HM1.out.lt
          have hout2 : Out (DecO go gm v) W w2 := Out.trans Hout1.out (Out.of_below (O := fun _ => False) hbq) (fun _ _ h => h.elim)
          clear c0 c1 c2 c3 c4 c5 c6 fr ce1 fe1 hbq
          have c0 := hoA.cell 0
          have c1 := hoA.cell 1
          have c2 := hoA.cell 2
          have c3 := hoA.cell 3
          have c4 := hoA.cell 4
          have c5 := hoA.cell 5
          have c6 := hoA.cell 6
          simp at c0 c1 c2 c3 c4 c5 c6
          have fr := hoA.frozen
          have ce1 := heA.cell 0
          try simp at ce1
          have fe1 := heA.frozen 0
          have HoA := Lib.hid hoA
          clear hoA
          have HeA := Lib.hid heA
          clear heA
          have Hv2 := Lib.hid hv2
          clear hv2
          have HM2 := Lib.hid hM2
          clear hM2
          have Hout2 := Lib.hid hout2
          clear hout2
          gi_wp2
          generalize hWf : World.setCell _ _ _ = Wf
          have hoF : Blk Wf go 28 (optV o2 v) := by
            rw [← hWf]
            have := HoA.out.set_ 0 (.int .u16 ((q : Nat) : Int))
            rw [Ho2.out]
            simpa [optV] using this
          have houtF : Out (DecO go gm v) W Wf := by
            rw [← hWf]
            repeat (refine Out.set_ ?_ (.inl rfl) _ _)
            exact Hout2.out
          have hgF : w2.grownBy Wf (some go) := by
            rw [← hWf]
            repeat (refine only_set ?_ _ _)
            exact World.grownBy.refl _ _
          have hgne := map_not_blk HM2.out HoA.out
          exact dec_next HB.out Hs.out He.out Hb.out Hv.out Ho'.out HM.out hle_o Hwm.out hlo HgmB.out houtF ⟨_, _, _, Hfold.out, ⟨v, (by rw [Ho2.out]; exact Hv2.out : w2.ownsRow w.heap.size 92 2 v o2.bl.length (o2.bl.flatMap blkC)).kept hgF (.inr (own_blk_ne Hv2.out HoA.out (by decide))), hoF⟩, HM2.out.kept hgF (fun e => hgne (Option.some.inj e).symm), Hn1.out⟩
      by_cases hb3 : b = 3
      · have v5 : (b : Int) ≤ 5 := by omega
        have u2 : ((b : Int) == 2) = false := by simp; omega
        have u3 : ((b : Int) == 3) = true := by simp; omega
        have u4 : ((b : Int) == 4) = false := by simp; omega
        have u5 : ((b : Int) == 5) = false := by simp; omega
        have u8 : ((b : Int) == 8) = false := by simp; omega
        clear hmb
        have hlen : S.size = 1 := by have h := H7.out; rw [hb3] at h; simp [longB] at h; rw [HSz.out, h]
        have hi0 : (Instr.index 9 (.string S) (.int .i64 0)).run Try.prog W1 = .ok (.int .u8 ((byteN (bodyL L (i, m)) 0 : Nat) : Int)) W1 := by
          have := index_at S 0 (by simp; omega) W1
          rw [HSd.out] at this
          exact this
        obtain ⟨q, hq⟩ : ∃ q, q = byteN (bodyL L (i, m)) 0 := ⟨_, rfl⟩
        have hq256 : q < 256 := by rw [hq]; exact byteN_lt _ _
        rw [← hq] at hi0
        have hk : takeP L o (i, m) = some { o with scale := min (q : Int) 14 } := by
          unfold takeP
          simp only [Hbn.out, hb3, ← hq]
          rfl
        have hfold := Hfold.out
        rw [hk, Option.map_some, if_pos HmB.out] at hfold
        obtain ⟨o2, ho2⟩ : ∃ z, z = ({ o with scale := min (q : Int) 14 } : Op) := ⟨_, rfl⟩
        rw [← ho2] at hfold
        have Hfold := Lib.hid hfold
        clear hfold
        have Hlen := Lib.hid hlen
        clear hlen
        have Hq := Lib.hid hq
        clear hq
        have Hk := Lib.hid hk
        clear hk
        have Hb3 := Lib.hid hb3
        clear hb3
        have Ho2 := Lib.hid ho2
        clear ho2
        gi_wp2
        generalize hWf : World.setCell _ _ _ = Wf
        have hoF : Blk Wf go 28 (optV o2 v) := by
          rw [← hWf]
          have := Ho1.out.set_ 1 (.int .i64 (min (q : Int) 14))
          rw [Ho2.out]
          simpa [optV] using this
        have houtF : Out (DecO go gm v) W Wf := by
          rw [← hWf]
          repeat (refine Out.set_ ?_ (.inl rfl) _ _)
          exact Hout1.out
        have hgF : W1.grownBy Wf (some go) := by
          rw [← hWf]
          repeat (refine only_set ?_ _ _)
          exact World.grownBy.refl _ _
        have hgne := map_not_blk HM1.out Ho1.out
        exact dec_next HB.out Hs.out He.out Hb.out Hv.out Ho'.out HM.out hle_o Hwm.out hlo HgmB.out houtF ⟨_, _, _, Hfold.out, ⟨v, (by rw [Ho2.out]; exact Hv1.out : W1.ownsRow w.heap.size 92 2 v o2.bl.length (o2.bl.flatMap blkC)).kept hgF (.inr (own_blk_ne Hv1.out Ho1.out (by decide))), hoF⟩, HM1.out.kept hgF (fun e => hgne (Option.some.inj e).symm), Hn1.out⟩
      by_cases hb4 : b = 4
      · have v5 : (b : Int) ≤ 5 := by omega
        have u2 : ((b : Int) == 2) = false := by simp; omega
        have u3 : ((b : Int) == 3) = false := by simp; omega
        have u4 : ((b : Int) == 4) = true := by simp; omega
        have u5 : ((b : Int) == 5) = false := by simp; omega
        have u8 : ((b : Int) == 8) = false := by simp; omega
        clear hmb
        have hk : takeP L o (i, m) = some { o with sack := true } := by
          unfold takeP
          simp only [Hbn.out, hb4]
          rfl
        have hfold := Hfold.out
        rw [hk, Option.map_some, if_pos HmB.out] at hfold
        obtain ⟨o2, ho2⟩ : ∃ z, z = ({ o with sack := true } : Op) := ⟨_, rfl⟩
        rw [← ho2] at hfold
        have Hfold := Lib.hid hfold
        clear hfold
        have Hk := Lib.hid hk
        clear hk
        have Hb4 := Lib.hid hb4
        clear hb4
        have Ho2 := Lib.hid ho2
        clear ho2
        gi_wp2
        generalize hWf : World.setCell _ _ _ = Wf
        have hoF : Blk Wf go 28 (optV o2 v) := by
          rw [← hWf]
          have := Ho1.out.set_ 2 (.bool true)
          rw [Ho2.out]
          simpa [optV] using this
        have houtF : Out (DecO go gm v) W Wf := by
          rw [← hWf]
          repeat (refine Out.set_ ?_ (.inl rfl) _ _)
          exact Hout1.out
        have hgF : W1.grownBy Wf (some go) := by
          rw [← hWf]
          repeat (refine only_set ?_ _ _)
          exact World.grownBy.refl _ _
        have hgne := map_not_blk HM1.out Ho1.out
        exact dec_next HB.out Hs.out He.out Hb.out Hv.out Ho'.out HM.out hle_o Hwm.out hlo HgmB.out houtF ⟨_, _, _, Hfold.out, ⟨v, (by rw [Ho2.out]; exact Hv1.out : W1.ownsRow w.heap.size 92 2 v o2.bl.length (o2.bl.flatMap blkC)).kept hgF (.inr (own_blk_ne Hv1.out Ho1.out (by decide))), hoF⟩, HM1.out.kept hgF (fun e => hgne (Option.some.inj e).symm), Hn1.out⟩
      by_cases hb8 : b = 8
      · have v5 : ¬ (b : Int) ≤ 5 := by omega
        have u2 : ((b : Int) == 2) = false := by simp; omega
        have u3 : ((b : Int) == 3) = false := by simp; omega
        have u4 : ((b : Int) == 4) = false := by simp; omega
        have u5 : ((b : Int) == 5) = false := by simp; omega
        have u8 : ((b : Int) == 8) = true := by simp; omega
        clear hmb
        have hS8 : S.size = 8 := by have h := H7.out; rw [hb8] at h; simp [longB] at h; rw [HSz.out, h]
        have hBl : (bodyL L (i, m)).length = 8 := by rw [← HSd.out]; simpa using hS8
        have e1 : (S.extract 0 4).data.toList = (bodyL L (i, m)).take 4 := by
          rw [ByteArray.data_extract, Array.toList_extract, List.extract_eq_take_drop, HSd.out]
          simp
        have e2 : (S.extract 4 8).data.toList = (bodyL L (i, m)).drop 4 := by
          rw [ByteArray.data_extract, Array.toList_extract, List.extract_eq_take_drop, HSd.out]
          exact List.take_of_length_le (by rw [List.length_drop, hBl]; omega)
        obtain ⟨q1, hq1⟩ : ∃ q, q = numL ((bodyL L (i, m)).take 4) := ⟨_, rfl⟩
        obtain ⟨q2, hq2⟩ : ∃ q, q = numL ((bodyL L (i, m)).drop 4) := ⟨_, rfl⟩
        have hS0 : Fresh W1 W1 := Below.refl _ _
        have ne : Nonempty (Cls (Fresh W1)) := ⟨⟨W1, hS0⟩⟩
        have n1 : ∀ y : Cls (Fresh W1), Calls Try.prog 77 #[.string (S.extract 0 4)] y.w fun e w'' => e = .returned (.int .u32 (q1 : Int)) ∧ Fresh W1 w'' ∧ Below y.w.heap.size y.w w'' := fun y => (number_any _ y.w (by simp [maxLen]; omega)).mono fun e w' ⟨he, hb⟩ => ⟨by rw [he, e1, hq1], Fresh.below y.h hb, hb⟩
        have n2 : ∀ y : Cls (Fresh W1), Calls Try.prog 77 #[.string (S.extract 4 8)] y.w fun e w'' => e = .returned (.int .u32 (q2 : Int)) ∧ Fresh W1 w'' ∧ Below y.w.heap.size y.w w'' := fun y => (number_any _ y.w (by simp [maxLen]; omega)).mono fun e w' ⟨he, hb⟩ => ⟨by rw [he, e2, hq2], Fresh.below y.h hb, hb⟩
        have cf : ∀ (vals : Array Value) (w : World), (callFunc 77 vals).run Try.prog w = .ok (.enter 77 vals) w := fun _ _ => by kernel_rfl
        have hk : takeP L o (i, m) = some { o with time := true, val := q1, echo := q2 } := by
          unfold takeP
          simp only [Hbn.out, hb8, ← hq1, ← hq2]
          rfl
        have hfold := Hfold.out
        rw [hk, Option.map_some, if_pos HmB.out] at hfold
        obtain ⟨o2, ho2⟩ : ∃ z, z = ({ o with time := true, val := q1, echo := q2 } : Op) := ⟨_, rfl⟩
        rw [← ho2] at hfold
        have Hfold := Lib.hid hfold
        clear hfold
        have Hk := Lib.hid hk
        clear hk
        have Hb8 := Lib.hid hb8
        clear hb8
        have Ho2 := Lib.hid ho2
        clear ho2
        have E1 := Lib.hid e1
        clear e1
        have E2 := Lib.hid e2
        clear e2
        have Hq1 := Lib.hid hq1
        clear hq1
        have Hq2 := Lib.hid hq2
        clear hq2
        have N1 := Lib.hid n1
        clear n1
        have N2 := Lib.hid n2
        clear n2
        have Cf := Lib.hid cf
        clear cf
        have HBl := Lib.hid hBl
        clear hBl
        gi_upto_region 24 with fail
        clear c0 c1 c2 c3 c4 c5 c6 fr ce1 fe1
        refine wpIn_region_flow 7 (Fresh W1) (fun w w' => Below w.heap.size w w') (by kernel_rfl) (by rintro ⟨_, _, h⟩; exact h) (by kernel_rfl) (by kernel_rfl) (by kernel_rfl) (fun w => Below.refl _ _) (Fresh.below hS0 (Below.drew (Below.refl _ _))) ?_
        simp only [List.take_succ_cons, List.take_zero, List.drop_succ_cons, List.drop_zero]
        repeat (first
          | (refine flow_quiet (fun w => Below.refl _ _) rfl rfl rfl rfl ?_; intro K hK; go_big_quiet_op; go_big_quiet_on)
          | (refine flow_call Cf.out _ ?_ rfl rfl rfl _ N1.out W1 ?_; (focus (simp only [List.map_toArray, List.map_cons, List.map_nil]; rfl)); intro K hK; go_big_quiet_op; go_big_quiet_on)
          | (refine flow_call Cf.out _ ?_ rfl rfl rfl _ N2.out W1 ?_; (focus (simp only [List.map_toArray, List.map_cons, List.map_nil]; rfl)); intro K hK; go_big_quiet_op; go_big_quiet_on))
        refine flow_nil ?_
        intro w2 ff hbq hF5
        simp only [fillW]
        clear hF5
        have hbq : Below W1.heap.size W1 w2 := hbq
        have hoA := Ho1.out.below hbq Ho1.out.lt
        have heA := He1.out.below hbq He1.out.lt
        have hv2 := Hv1.out.kept (only_of_below hbq none) (Classical.em _)
        have hM2 := HM1.out.below hbq HM1.out.lt
        have hout2 : Out (DecO go gm v) W w2 := Out.trans Hout1.out (Out.of_below (O := fun _ => False) hbq) (fun _ _ h => h.elim)
        have c0 := hoA.cell 0
        have c1 := hoA.cell 1
        have c2 := hoA.cell 2
        have c3 := hoA.cell 3
        have c4 := hoA.cell 4
        have c5 := hoA.cell 5
        have c6 := hoA.cell 6
        simp at c0 c1 c2 c3 c4 c5 c6
        have fr := hoA.frozen
        have HoA := Lib.hid hoA
        clear hoA
        have HeA := Lib.hid heA
        clear heA
        have Hv2 := Lib.hid hv2
        clear hv2
        have HM2 := Lib.hid hM2
        clear hM2
        have Hout2 := Lib.hid hout2
        clear hout2
        clear hbq ne hS0
        go_wp2_with fail
        generalize hWf : World.setCell _ _ _ = Wf
        have hoF : Blk Wf go 28 (optV o2 v) := by
          rw [← hWf]
          have := ((HoA.out.set_ 4 (.bool true)).set_ 5 (.int .u32 (q1 : Int))).set_ 6 (.int .u32 (q2 : Int))
          rw [Ho2.out]
          simpa [optV] using this
        have houtF : Out (DecO go gm v) W Wf := by
          rw [← hWf]
          repeat (refine Out.set_ ?_ (.inl rfl) _ _)
          exact Hout2.out
        have hgF : w2.grownBy Wf (some go) := by
          rw [← hWf]
          repeat (refine only_set ?_ _ _)
          exact World.grownBy.refl _ _
        have hgne := map_not_blk HM2.out HoA.out
        exact dec_next HB.out Hs.out He.out Hb.out Hv.out Ho'.out HM.out hle_o Hwm.out hlo HgmB.out houtF ⟨_, _, _, Hfold.out, ⟨v, (by rw [Ho2.out]; exact Hv2.out : w2.ownsRow w.heap.size 92 2 v o2.bl.length (o2.bl.flatMap blkC)).kept hgF (.inr (own_blk_ne Hv2.out HoA.out (by decide))), hoF⟩, HM2.out.kept hgF (fun e => hgne (Option.some.inj e).symm), Hn1.out⟩
      have hb5 : b = 5 := by omega
      have v5 : (b : Int) ≤ 5 := by omega
      have u2 : ((b : Int) == 2) = false := by simp; omega
      have u3 : ((b : Int) == 3) = false := by simp; omega
      have u4 : ((b : Int) == 4) = false := by simp; omega
      have u5 : ((b : Int) == 5) = true := by simp; omega
      have u8 : ((b : Int) == 8) = false := by simp; omega
      clear hmb
      have hSm : S.size % 8 = 0 ∧ S.size ≤ 32 := by
        have h := H7.out
        rw [hb5] at h
        simp [longB] at h
        rw [HSz.out]
        omega
      have hk : takeP L o (i, m) = some { o with bl := o.bl ++ blocksL (bodyL L (i, m)) } := by
        unfold takeP
        simp only [Hbn.out, hb5]
        rfl
      have hfold := Hfold.out
      rw [hk, Option.map_some, if_pos HmB.out] at hfold
      have Hfold := Lib.hid hfold
      clear hfold
      have Hk := Lib.hid hk
      clear hk
      have Hb5 := Lib.hid hb5
      clear hb5
      have HSm := Lib.hid hSm
      clear hSm
      clear hb2 hb3 hb4 hb8
      clear c0 c1 c2 c3 c4 c5 c6 fr ce1 fe1
      have hobl : o.bl.length ≤ 1640 := by
        have h := fold_bl L _ _ _ _ Hf.out
        rw [List.length_map] at h
        have h1 : L.length * pre.length ≤ 40 * 41 := Nat.mul_le_mul hm Hpn.out
        simp [noneO] at h
        omega
      gi_wp2_with fail
      gi_loopw [8] (fun s wr => ∃ (T : ByteArray) (bl2 : List (Int × Int)) (v2 : Value), s = .string T ∧ T.size % 8 = 0 ∧ T.size ≤ 32 ∧ bl2 ++ blocksL T.data.toList = o.bl ++ blocksL (bodyL L (i, m)) ∧ wr.ownsRow w.heap.size 92 2 v2 bl2.length (bl2.flatMap blkC) ∧ bl2.length + T.size ≤ o.bl.length + 32 ∧
        Blk wr go 28 (optV { o with bl := bl2 } v2) ∧ (v2.ownBlock = v.ownBlock ∨ ∃ g, W.heap.size ≤ g ∧ v2.ownBlock = some g) ∧ MapIs Try.prog 5 wr gm (if (metM met (.int .u8 (b : Int))).isSome then n else n + 1) (metM (b :: met)) ∧ Out (DecO go gm v) W wr)
        (fun s _ => match s with | .string t => t.size | _ => 0)
      case atStart => exact ⟨S, o.bl, v, rfl, HSm.out.1, HSm.out.2, by rw [HSd.out], Hv1.out, by have := HSm.out.2; omega, Ho1.out, .inl rfl, HM1.out, Hout1.out⟩
      case round =>
        obtain ⟨T, bl2, v2, rfl, hT8, hT32, hbl, hv2, hlen2, ho2, hrow2, hM2, hout2⟩ := hrel
        by_cases hT0 : T.size = 0
        · have hTe : T.toList.isEmpty = true := by
            rw [ByteArray.toList_eq]
            have : T.data.toList.length = 0 := by simpa using hT0
            rw [List.length_eq_zero_iff.1 this]
            rfl
          have hTn : T.data.toList = [] := List.length_eq_zero_iff.1 (by simpa using hT0)
          rw [hTn, blocksL_nil, List.append_nil] at hbl
          subst hbl
          have HTn := Lib.hid hTn
          clear hTn
          have Hv2 := Lib.hid hv2
          clear hv2
          have Hlen2 := Lib.hid hlen2
          clear hlen2
          have Ho2 := Lib.hid ho2
          clear ho2
          have Hrow2 := Lib.hid hrow2
          clear hrow2
          have HM2 := Lib.hid hM2
          clear hM2
          have Hout2 := Lib.hid hout2
          clear hout2
          gi_wp2
          exact dec_next HB.out Hs.out He.out Hb.out Hv.out Ho'.out HM.out hle_o Hwm.out hlo HgmB.out Hout2.out ⟨_, _, _, Hfold.out, ⟨v2, Hv2.out, Ho2.out⟩, HM2.out, Hn1.out⟩
        · have hTe : T.toList.isEmpty = false := by
            rw [ByteArray.toList_eq, List.isEmpty_eq_false_iff]
            intro h
            apply hT0
            have := congrArg List.length h
            simpa using this
          have hTn : T.data.toList ≠ [] := fun h => hT0 (by have := congrArg List.length h; simpa using this)
          obtain ⟨A0, k0, hv0, _⟩ := own_slice hv2
          subst hv0
          obtain ⟨row, hrw⟩ : ∃ row, (Value.slice A0 bl2.length k0).ownBlock = row := ⟨_, rfl⟩
          have t1 := own_blk_ne hv2 ho2 (by decide)
          rw [hrw] at t1
          have hT8' : 8 ≤ T.size := by omega
          have j5 : (8 : Int) ≤ (T.size : Int) := by omega
          have j6 : (4 : Int) ≤ (T.size : Int) := by omega
          obtain ⟨q1, hq1⟩ : ∃ q, q = numL (T.data.toList.take 4) := ⟨_, rfl⟩
          obtain ⟨q2, hq2⟩ : ∃ q, q = numL ((T.data.toList.drop 4).take 4) := ⟨_, rfl⟩
          have hstepB := blocksL_step hTn
          rw [← hq1, ← hq2] at hstepB
          have e1 : (T.extract 0 4).data.toList = T.data.toList.take 4 := by
            rw [ByteArray.data_extract, Array.toList_extract, List.extract_eq_take_drop]
            simp
          have e2 : (T.extract 4 8).data.toList = (T.data.toList.drop 4).take 4 := by
            rw [ByteArray.data_extract, Array.toList_extract, List.extract_eq_take_drop]
          have e3 : (T.extract 8 T.size).data.toList = T.data.toList.drop 8 := by
            rw [ByteArray.data_extract, Array.toList_extract, List.extract_eq_take_drop]
            exact List.take_of_length_le (by simp)
          have hS0 : Out (fun i => row = some i) wr wr.drew := Out.of_below (Below.drew (Below.refl _ _))
          have ne : Nonempty (Cls (fun W => Out (fun i => row = some i) wr W)) := ⟨⟨_, hS0⟩⟩
          have co : wr.cell? ⟨go, 3, none⟩ = some (.slice A0 bl2.length k0) := by simpa [optV] using ho2.cell 3
          have q3 : ∀ y : Cls (fun W => Out (fun i => row = some i) wr W), y.w.cell? ⟨go, 3, none⟩ = some (.slice A0 bl2.length k0) := fun y => (World.cell?_of_block (y.h.block go ho2.lt t1)).trans co
          have hSb : ∀ w w', Out (fun i => row = some i) wr w → Below w.heap.size w w' → Out (fun i => row = some i) wr w' := fun w w' h hb => Out.trans h (Out.of_below (O := fun _ => False) hb) (fun _ _ e => e.elim)
          have n1 : ∀ y : Cls (fun W => Out (fun i => row = some i) wr W), Calls Try.prog 77 #[.string (T.extract 0 4)] y.w fun e w'' => e = .returned (.int .u32 (q1 : Int)) ∧ Out (fun i => row = some i) wr w'' ∧ RApp 10 row 4 y.w w'' := fun y => (number_any _ y.w (by simp [maxLen]; omega)).mono fun e w' ⟨he, hb⟩ => ⟨by rw [he, e1, hq1], hSb _ _ y.h hb, RApp.of_below hb⟩
          have n2 : ∀ y : Cls (fun W => Out (fun i => row = some i) wr W), Calls Try.prog 77 #[.string (T.extract 4 8)] y.w fun e w'' => e = .returned (.int .u32 (q2 : Int)) ∧ Out (fun i => row = some i) wr w'' ∧ RApp 10 row 7 y.w w'' := fun y => (number_any _ y.w (by simp [maxLen]; omega)).mono fun e w' ⟨he, hb⟩ => ⟨by rw [he, e2, hq2], hSb _ _ y.h hb, RApp.of_below hb⟩
          have cf : ∀ (vals : Array Value) (w : World), (callFunc 77 vals).run Try.prog w = .ok (.enter 77 vals) w := fun _ _ => by kernel_rfl
          have rb1 : ∀ w : World, (Instr.buildSlice 26 1 #[(0, .agg #[.int .u32 (q1 : Int), .int .u32 (q2 : Int)])]).run Try.prog w = .ok (.slice (some ⟨w.heap.size, 0, none⟩) 1 1) (w.alloc (.cells #[.int .u32 (q1 : Int), .int .u32 (q2 : Int)] 92)) := fun _ => by kernel_rfl
          have hrl : ∀ q, row = some q → q < wr.heap.size := fun q hq => (hv2.lt q (hrw.trans hq)).2
          have hwle : w.heap.size ≤ wr.heap.size := Nat.le_trans HB.out.size hout2.size
          have hU0 : ∀ q ∈ ([(10, fun W => W.ownsRow w.heap.size 92 2 (.slice A0 bl2.length k0) bl2.length (bl2.flatMap blkC))] : List (Nat × (World → Prop))), q.2 wr.drew := by
            intro q hq
            obtain rfl := List.mem_singleton.1 hq
            exact hv2.kept (only_of_below (Below.drew (Below.refl _ _)) none) (Classical.em _)
          have hUs : ∀ q ∈ ([(10, fun W => W.ownsRow w.heap.size 92 2 (.slice A0 bl2.length k0) bl2.length (bl2.flatMap blkC))] : List (Nat × (World → Prop))), ∀ i w w', i ≠ q.1 → RApp 10 row i w w' → q.2 w → q.2 w' := by
            intro q hq i w w' hi hr hw
            obtain rfl := List.mem_singleton.1 hq
            exact hw.kept (only_of_below (hr.below hi) none) (Classical.em _)
          obtain ⟨i0, hi0, h0, h1, h22⟩ := info_parts_o infoBo
          have hnb60 : bl2.length ≤ 2000 := by omega
          have HTn := Lib.hid hTn
          clear hTn
          have Hv2 := Lib.hid hv2
          clear hv2
          have Hlen2 := Lib.hid hlen2
          clear hlen2
          have Ho2 := Lib.hid ho2
          clear ho2
          have Hrow2 := Lib.hid hrow2
          clear hrow2
          have HM2 := Lib.hid hM2
          clear hM2
          have Hout2 := Lib.hid hout2
          clear hout2
          have Hbl := Lib.hid hbl
          clear hbl
          have HstepB := Lib.hid hstepB
          clear hstepB
          have E1 := Lib.hid e1
          clear e1
          have E2 := Lib.hid e2
          clear e2
          have E3 := Lib.hid e3
          clear e3
          have Hq1 := Lib.hid hq1
          clear hq1
          have Hq2 := Lib.hid hq2
          clear hq2
          have N1 := Lib.hid n1
          clear n1
          have N2 := Lib.hid n2
          clear n2
          have Cf := Lib.hid cf
          clear cf
          have Rb1 := Lib.hid rb1
          clear rb1
          have Hrl := Lib.hid hrl
          clear hrl
          have Hwle := Lib.hid hwle
          clear hwle
          have HU0 := Lib.hid hU0
          clear hU0
          have HUs := Lib.hid hUs
          clear hUs
          have Hi0 := Lib.hid hi0
          clear hi0
          have H0 := Lib.hid h0
          clear h0
          have H1 := Lib.hid h1
          clear h1
          have H22 := Lib.hid h22
          clear h22
          have HS0 := Lib.hid hS0
          clear hS0
          have Hrw := Lib.hid hrw
          clear hrw
          have HSb := Lib.hid hSb
          clear hSb
          have T1 := Lib.hid t1
          clear t1
          gi_upto_region 28 with fail
          clear co
          refine wpIn_region_flowu 12 (fun W => Out (fun i => row = some i) wr W) (RApp 10 row) [(10, fun W => W.ownsRow w.heap.size 92 2 (.slice A0 bl2.length k0) bl2.length (bl2.flatMap blkC))] (by kernel_rfl) (by rintro ⟨_, _, h⟩; exact h) (by kernel_rfl) (by kernel_rfl) (by kernel_rfl) RApp.refl HUs.out HU0.out HS0.out ?_
          simp only [List.take_succ_cons, List.take_zero, List.drop_succ_cons, List.drop_zero]
          repeat (first
            | (refine flowu_quiet RApp.refl rfl rfl rfl rfl ?_; intro K hK; go_big_quiet_op; go_big_quiet_on)
            | (refine flowu_call Cf.out _ ?_ rfl rfl rfl _ N1.out wr ?_; (focus (simp only [List.map_toArray, List.map_cons, List.map_nil]; rfl)); intro K hK; go_big_quiet_op; go_big_quiet_on)
            | (refine flowu_call Cf.out _ ?_ rfl rfl rfl _ N2.out wr ?_; (focus (simp only [List.map_toArray, List.map_cons, List.map_nil]; rfl)); intro K hK; go_big_quiet_op; go_big_quiet_on))
          refine flowx_build wr.heap.size (E := 92) #[(0, .agg #[.int .u32 (q1 : Int), .int .u32 (q2 : Int)])] ?_ #[.int .u32 (q1 : Int), .int .u32 (q2 : Int)] Rb1.out HSb.out (fun w h => h.size) Hrl.out rfl rfl rfl wr ?_
          focus (simp only [List.map_toArray, List.map_cons, List.map_nil]; rfl)
          intro K hK; go_big_quiet_op; go_big_quiet_on
          refine flowx_append wr.heap.size w.heap.size i0 _ 2 8 Try.underlying26 Hi0.out H0.out H1.out H22.out rfl (by decide) (.slice A0 bl2.length k0) bl2.length (bl2.flatMap blkC) 1 #[.int .u32 (q1 : Int), .int .u32 (q2 : Int)] 0 rfl rfl rfl (of_decide_eq_true rfl) (fun f => rfl) Hrw.out rfl (fun w hw hut => hut _ List.mem_cons_self rfl) rfl (by intro u hu; simp at hu; rcases hu with rfl | rfl <;> rfl) (by simp only [maxLen]; omega) (by omega) (fun w h => Nat.le_trans Hwle.out h.size) (fun w h => h.size) (fun w w' h hg => Out.trans h (Out.mono (O := fun i => row = some i) ⟨hg.os, hg.tape, hg.output, hg.size, fun i hi hn => hg.block i hi (fun e => hn e.symm)⟩ (fun _ _ e => e)) (fun _ _ e => e)) rfl rfl wr ?_
          intro K hK; go_big_quiet_op; go_big_quiet_on
          repeat (refine flowu_quiet RApp.refl rfl rfl rfl rfl ?_; intro K hK; go_big_quiet_op; go_big_quiet_on)
          refine flowu_nil ?_
          intro W5 f hW5 hF5
          obtain ⟨v', hv', hrow5, hvb5⟩ := hF5 _ (List.mem_cons_self)
          clear hF5
          injection hv' with hv'
          simp only [fillW, Act.put, List.setIfInBounds_toArray, List.set_cons_succ, List.set_cons_zero]
          rw [hv']
          generalize f 94 = v94
          clear hv' q3 ne
          obtain ⟨A1, k1, hv1, _⟩ := own_slice hrow5
          subst hv1
          have hg5 : wr.grownBy W5 row := ⟨hW5.os, hW5.tape, hW5.output, hW5.size, fun i hi hn => hW5.block i hi (fun e => hn e.symm)⟩
          have hrm : some gm ≠ row := fun e => by
            obtain ⟨_, c, hc⟩ := own_cells Hv2.out (Hrw.out.trans e.symm)
            obtain ⟨es, cl, h8, _⟩ := HM2.out.size
            rw [hc] at h8
            cases h8
          have ho5 := Ho2.out.grown hg5 (fun e => T1.out e.symm)
          have hM5 := HM2.out.kept hg5 hrm
          have hgne := map_not_blk hM5 ho5
          have c3 := ho5.cell 3
          try simp [optV] at c3
          have fr3 := ho5.frozen 3
          have hv5 : W5.ownsRow w.heap.size 92 2 (.slice A1 (bl2.length + 1) k1) (bl2 ++ [((q1 : Int), (q2 : Int))]).length ((bl2 ++ [((q1 : Int), (q2 : Int))]).flatMap blkC) := by
            rw [List.length_append, List.flatMap_append]
            exact hrow5
          have hn5 := own_blk_ne hv5 ho5 (by decide)
          have ho6 : Blk (W5.setCell ⟨go, 3, none⟩ (.slice A1 (bl2.length + 1) k1)) go 28 (optV { o with bl := bl2 ++ [((q1 : Int), (q2 : Int))] } (.slice A1 (bl2.length + 1) k1)) := by
            have := ho5.set_ 3 (.slice A1 (bl2.length + 1) k1)
            simpa [optV] using this
          have hv6 := hv5.kept (only_set (World.grownBy.refl W5 (some go)) 3 (.slice A1 (bl2.length + 1) k1)) (.inr hn5)
          have hM6 := hM5.setCell (a := ⟨go, 3, none⟩) (fun e => hgne e.symm) (.slice A1 (bl2.length + 1) k1)
          have hout6 : Out (DecO go gm v) W (W5.setCell ⟨go, 3, none⟩ (.slice A1 (bl2.length + 1) k1)) := Out.set_ (Out.trans Hout2.out hW5 (fun i hi e => by
            rcases Hrow2.out with h | ⟨g, h1, h⟩
            · exact .inr (.inr (by rw [← h, Hrw.out]; exact e))
            · rw [Hrw.out, e] at h; injection h with h; omega)) (.inl rfl) 3 (.slice A1 (bl2.length + 1) k1)
          have hrow6 : (Value.slice A1 (bl2.length + 1) k1).ownBlock = v.ownBlock ∨ ∃ g, W.heap.size ≤ g ∧ (Value.slice A1 (bl2.length + 1) k1).ownBlock = some g := by
            rcases hvb5 with e | ⟨g, h1, e⟩
            · rw [e, ← Hrw.out]; exact Hrow2.out
            · exact .inr ⟨g, Nat.le_trans Hout2.out.size h1, e⟩
          have hbl6 : (bl2 ++ [((q1 : Int), (q2 : Int))]) ++ blocksL (T.extract 8 T.size).data.toList = o.bl ++ blocksL (bodyL L (i, m)) := by
            rw [E3.out, List.append_assoc, ← Hbl.out, HstepB.out]
            rfl
          have hT6 : (T.extract 8 T.size).size = T.size - 8 := by simp
          have hl6 : (bl2 ++ [((q1 : Int), (q2 : Int))]).length + (T.extract 8 T.size).size ≤ o.bl.length + 32 := by
            have := Hlen2.out
            rw [List.length_append, List.length_singleton, hT6]
            omega
          clear hrow5 hvb5 hW5 hg5 hrm ho5 hM5 hv5 hn5 hgne
          have Ho6 := Lib.hid ho6
          clear ho6
          have Hv6 := Lib.hid hv6
          clear hv6
          have HM6 := Lib.hid hM6
          clear hM6
          have Hout6 := Lib.hid hout6
          clear hout6
          have Hrow6 := Lib.hid hrow6
          clear hrow6
          have Hbl6 := Lib.hid hbl6
          clear hbl6
          have HT6 := Lib.hid hT6
          clear hT6
          have Hl6 := Lib.hid hl6
          clear hl6
          go_wp2_with fail
          gi_wp2
          go_roundw
          case rel => exact ⟨T.extract 8 T.size, bl2 ++ [((q1 : Int), (q2 : Int))], (.slice A1 (bl2.length + 1) k1), rfl, by rw [HT6.out]; omega, by rw [HT6.out]; omega, Hbl6.out, Hv6.out, Hl6.out, Ho6.out, Hrow6.out, HM6.out, Hout6.out⟩
          case measure => have := HT6.out; simp only []; omega
    · have hmB : metB b = false := by unfold metB; simp; omega
      have u1 : ¬ (b : Int) ≤ 5 := by omega
      have u2 : ((b : Int) == 2) = false := by simp; omega
      have u3 : ((b : Int) == 3) = false := by simp; omega
      have u4 : ((b : Int) == 4) = false := by simp; omega
      have u5 : ((b : Int) == 5) = false := by simp; omega
      have u8 : ((b : Int) == 8) = false := by simp; omega
      have hk : takeP L o (i, m) = some o := by
        unfold takeP
        simp only [Hbn.out]
        rw [if_neg (by omega), if_neg (by omega), if_neg (by omega), if_neg (by omega), if_neg (by omega)]
      have hfold := Hfold.out
      rw [hk, Option.map_some, hmB] at hfold
      have Hfold := Lib.hid hfold
      clear hfold
      have HmB := Lib.hid hmB
      clear hmB
      have Hk := Lib.hid hk
      clear hk
      clear hmb
      gi_wp2
      exact dec_next HB.out Hs.out He.out Hb.out Hv.out Ho'.out HM.out hle_o Hwm.out hlo HgmB.out (Out.refl _ _) ⟨o, met, n, Hfold.out, ⟨v, Hv.out, Ho'.out⟩, HM.out, by have := Hn.out; have := Hpl.out; omega⟩

  case done =>
    rintro D xs W hD hS ⟨hB, hs, he, hb, o, met, n, hf, ⟨v, hv, ho⟩, hM, hn⟩ hK
    obtain ⟨A, c, rfl, hbl⟩ := own_blrC hv
    have ho' : Blk W go 28 (optC o A c) := ho
    have hdec : decL L = some o := by
      unfold decL
      rw [← hS, hf]
      rfl
    unfold optC at ho'
    have c0 := ho'.cell 0
    have c1 := ho'.cell 1
    have c2 := ho'.cell 2
    have c3 := ho'.cell 3
    have c4 := ho'.cell 4
    have c5 := ho'.cell 5
    have c6 := ho'.cell 6
    simp at c0 c1 c2 c3 c4 c5 c6
    have fr := ho'.frozen
    have e0 := he.cell 0
    try simp at e0
    have fe := he.frozen 0
    clear Hs3 Ho3 He3 Hb3 HM3 HB3
    have Hf := Lib.hid hf
    clear hf
    have Hdec := Lib.hid hdec
    clear hdec
    have HM := Lib.hid hM
    clear hM
    have Hbl := Lib.hid hbl
    clear hbl
    have Hs := Lib.hid hs
    clear hs
    have Hb := Lib.hid hb
    clear hb
    have Ho := Lib.hid ho
    clear ho
    have HB := Lib.hid hB
    clear hB
    have He := Lib.hid he
    clear he
    have Ho' := Lib.hid ho'
    clear ho'
    have HS := Lib.hid hS
    clear hS
    have Hv := Lib.hid hv
    clear hv
    gi_wp2_with fail
    generalize hWf : World.setCell _ _ _ = Wf
    have hoF : Blk Wf go 28 #[.int .u16 (o.mss : Int), .int .i64 o.scale, .bool o.sack, .slice A o.bl.length c, .bool o.time, .int .u32 (o.val : Int), .int .u32 (o.echo : Int)] := by
      rw [← hWf]
      have := (((((((Ho'.out.set_ 0 (.int .u16 (o.mss : Int))).set_ 1 (.int .i64 o.scale)).set_ 2 (.bool o.sack)).set_ 3 (.slice A o.bl.length c)).set_ 4 (.bool o.time)).set_ 5 (.int .u32 (o.val : Int))).set_ 6 (.int .u32 (o.echo : Int))).far (p := ⟨ge, 0, none⟩) hne_o_e (.int .i64 0)
      simpa using this
    have heF : Blk Wf ge 33 #[.int .i64 0] := by
      rw [← hWf]
      have := ((((((((He.out.far (p := ⟨go, 0, none⟩) (Ne.symm hne_o_e) (.int .u16 (o.mss : Int))).far (p := ⟨go, 1, none⟩) (Ne.symm hne_o_e) (.int .i64 o.scale)).far (p := ⟨go, 2, none⟩) (Ne.symm hne_o_e) (.bool o.sack)).far (p := ⟨go, 3, none⟩) (Ne.symm hne_o_e) (.slice A o.bl.length c)).far (p := ⟨go, 4, none⟩) (Ne.symm hne_o_e) (.bool o.time)).far (p := ⟨go, 5, none⟩) (Ne.symm hne_o_e) (.int .u32 (o.val : Int))).far (p := ⟨go, 6, none⟩) (Ne.symm hne_o_e) (.int .u32 (o.echo : Int))).set_ 0 (.int .i64 0))
      simpa using this
    have hn1 := own_blk_ne Hv.out Ho'.out (by decide)
    have hn2 := own_blk_ne Hv.out He.out (by decide)
    have hvF : Wf.ownsRow w.heap.size 92 2 (.slice A o.bl.length c) o.bl.length (o.bl.flatMap blkC) := by
      rw [← hWf]
      refine World.ownsRow.kept (row := some ge) (World.ownsRow.kept (row := some go) Hv.out ?_ (.inr hn1)) (only_set (World.grownBy.refl _ _) _ _) (.inr hn2)
      repeat (refine only_set ?_ _ _)
      exact World.grownBy.refl _ _
    have hBF : Below w.heap.size w Wf := by
      rw [← hWf]
      repeat (first | (refine Below.setCell ?_ hle_e _) | (refine Below.setCell ?_ hle_o _))
      exact HB.out
    have hDo : D ≠ go := fun e => by subst e; have := Ho'.out; rw [show W.heap[D]? = _ from this] at hK; cases hK
    have hDe : D ≠ ge := fun e => by subst e; have := He.out; rw [show W.heap[D]? = _ from this] at hK; cases hK
    have hKF : Wf.heap[D]? = some (.deferred (some [])) := by
      rw [← hWf]
      rw [Below.heap_setCell _ _ _ D hDe, Below.heap_setCell _ _ _ D hDo, Below.heap_setCell _ _ _ D hDo, Below.heap_setCell _ _ _ D hDo, Below.heap_setCell _ _ _ D hDo, Below.heap_setCell _ _ _ D hDo, Below.heap_setCell _ _ _ D hDo, Below.heap_setCell _ _ _ D hDo]
      exact hK
    clear hWf
    have hg := grownBy_putObj' Wf D (.deferred none)
    have hnr : ∀ r, some D = some r → ∃ o : Obj, Wf.heap[r]? = some o ∧ o.isCells = false := fun r e => by cases e; exact ⟨_, hKF, rfl⟩
    have ho1 := blk_notrow hoF hg hnr
    have he1 := blk_notrow heF hg hnr
    have hv1 := own_notrow hvF hg hnr
    have hB1 := hBF.trans (belowK_b (w := w) (Nat.le_refl _) Wf D (.deferred (some [])) (.deferred none) (Nat.le_trans hB4.size hD) hKF rfl rfl)
    obtain ⟨A2, c2, hAc, hbl2⟩ := own_blrC hv1
    injection hAc with e1 _ e3
    subst e1 e3
    have z0 := ho1.cell 0
    have z1 := ho1.cell 1
    have z2 := ho1.cell 2
    have z3 := ho1.cell 3
    have z4 := ho1.cell 4
    have z5 := ho1.cell 5
    have z6 := ho1.cell 6
    simp at z0 z1 z2 z3 z4 z5 z6
    have y0 := he1.cell 0
    try simp at y0
    refine ⟨by simp, .inl ⟨_, _, rfl, run_takeDeferred hKF, ?_⟩⟩
    refine ⟨.tuple #[.agg (optC o A c), .int .i64 0], by simp [results, Try.results42, go_sem, optC, z0, z1, z2, z3, z4, z5, z6, y0], ?_⟩
    exact ⟨o, A, c, 0, rfl, ⟨hbl2, own_newA hv1⟩, hB1, by unfold decR; rw [if_neg (by omega), Hdec.out]⟩
  case stop =>
    rintro D c pre W hD hS ⟨rfl, hB, hf, ho, he⟩ hK
    gi_wp2_with fail
    have hg := grownBy_putObj' W D (.deferred none)
    have hnr : ∀ r, some D = some r → ∃ o : Obj, W.heap[r]? = some o ∧ o.isCells = false := fun r e => by cases e; exact ⟨_, hK, rfl⟩
    have ho1 := blk_notrow ho hg hnr
    have he1 := blk_notrow he hg hnr
    have hB1 := hB.trans (belowK_b (w := w) (Nat.le_refl _) W D (.deferred (some [])) (.deferred none) (Nat.le_trans hB4.size hD) hK rfl rfl)
    unfold zeroV at ho1
    have z0 := ho1.cell 0
    have z1 := ho1.cell 1
    have z2 := ho1.cell 2
    have z3 := ho1.cell 3
    have z4 := ho1.cell 4
    have z5 := ho1.cell 5
    have z6 := ho1.cell 6
    simp at z0 z1 z2 z3 z4 z5 z6
    have y0 := he1.cell 0
    try simp at y0
    have hdec : decL L = none := by
      obtain ⟨q, hq⟩ := hS
      unfold decL
      rw [← hq, foldD_append, hf]
      rfl
    refine ⟨by simp, .inl ⟨_, _, rfl, run_takeDeferred hK, ?_⟩⟩
    refine ⟨.tuple #[.agg #[.int .u16 0, .int .i64 0, .bool false, .slice none 0 0, .bool false, .int .u32 0, .int .u32 0], .int .i64 70], by simp [results, Try.results42, go_sem, z0, z1, z2, z3, z4, z5, z6, y0], ?_⟩
    exact ⟨zeroO, none, 0, 70, rfl, ⟨.inl rfl, fun _ e => by cases e⟩, hB1, by unfold decR; rw [if_neg (by omega), hdec]⟩
end Go.Proofs.Ytengegcnocdkoaa
end
section
set_option maxRecDepth 20000
namespace Go.Proofs.Ytengegcnocdkoaa
open Go.RowKit Go.BigFrame
set_option maxHeartbeats 2000000 in
theorem dec_long (x : ByteArray) (L : List UInt8) (hx : x.data.toList = L) (hm : 40 < L.length) (w : World) :
    Calls Try.prog 42 #[.string x] w (DecPost w L) := by
  have hsz : x.size = L.length := by rw [← hx]; simp
  have j1 : (40 : Int) < (L.length : Int) := by omega
  have hr : decR L = (zeroO, 4) := by unfold decR; rw [if_pos hm]
  have hb0 : Below w.heap.size w w := Below.refl _ _
  have HB := Lib.hid hb0
  clear hb0
  have Hr := Lib.hid hr
  clear hr
  go_enter Try.func42, Try.ntmps42
  go_upto_region 2 with fail
  have hs := Blk.alloc (Blk.alloc (Blk.new w 9 #[.string x]) (.cells #[.int .u16 0, .int .i64 0, .bool false, .slice none 0 0, .bool false, .int .u32 0, .int .u32 0] 28)) (.cells #[.int .i64 0] 33)
  have ho := Blk.alloc (Blk.new (w.alloc (.cells #[.string x] 9)) 28 #[.int .u16 0, .int .i64 0, .bool false, .slice none 0 0, .bool false, .int .u32 0, .int .u32 0]) (.cells #[.int .i64 0] 33)
  rw [show (w.alloc (.cells #[.string x] 9)).heap.size = w.heap.size + 1 by simp] at ho
  have he := Blk.new ((w.alloc (.cells #[.string x] 9)).alloc (.cells #[.int .u16 0, .int .i64 0, .bool false, .slice none 0 0, .bool false, .int .u32 0, .int .u32 0] 28)) 33 #[.int .i64 0]
  rw [show ((w.alloc (.cells #[.string x] 9)).alloc (.cells #[.int .u16 0, .int .i64 0, .bool false, .slice none 0 0, .bool false, .int .u32 0, .int .u32 0] 28)).heap.size = w.heap.size + 2 by simp] at he
  have hB := Below.alloc (Below.alloc (Below.alloc (HB.out) (Nat.le_trans HB.out.size (by simp <;> omega)) (.cells #[.string x] 9)) (Nat.le_trans HB.out.size (by simp <;> omega)) (.cells #[.int .u16 0, .int .i64 0, .bool false, .slice none 0 0, .bool false, .int .u32 0, .int .u32 0] 28)) (Nat.le_trans HB.out.size (by simp <;> omega)) (.cells #[.int .i64 0] 33)
  clear HB
  obtain ⟨ge, hgee⟩ : ∃ g, g = w.heap.size + 2 := ⟨_, rfl⟩
  rw [← hgee] at he ⊢
  obtain ⟨go, hgeo⟩ : ∃ g, g = w.heap.size + 1 := ⟨_, rfl⟩
  rw [← hgeo] at ho ⊢
  obtain ⟨gs, hges⟩ : ∃ g, g = w.heap.size := ⟨_, rfl⟩
  rw [← hges] at hs ⊢
  have hne_s_o : gs ≠ go := by omega
  have hne_s_e : gs ≠ ge := by omega
  have hne_o_e : go ≠ ge := by omega
  have hle_s : w.heap.size ≤ gs := by omega
  have hle_o : w.heap.size ≤ go := by omega
  have hle_e : w.heap.size ≤ ge := by omega
  clear hges hgeo hgee
  generalize ((w.alloc _).alloc _).alloc _ = wn1 at *
  have Hs := Lib.hid hs
  clear hs
  have Ho := Lib.hid ho
  clear ho
  have He := Lib.hid he
  clear he
  have HB := Lib.hid hB
  clear hB
  have d0 := Ho.out.cell 0
  have d1 := Ho.out.cell 1
  have d2 := Ho.out.cell 2
  have d3 := Ho.out.cell 3
  have d4 := Ho.out.cell 4
  have d5 := Ho.out.cell 5
  have d6 := Ho.out.cell 6
  simp at d0 d1 d2 d3 d4 d5 d6
  have fr := Ho.out.frozen
  have ce := He.out.cell 0
  try simp at ce
  have fe := He.out.frozen 0
  go_wp2
  generalize hWf : World.setCell _ _ _ = Wf
  have hoF : Blk Wf go 28 #[.int .u16 0, .int .i64 0, .bool false, .slice none 0 0, .bool false, .int .u32 0, .int .u32 0] := by
    rw [← hWf]
    have := (((((((Ho.out.set_ 0 (.int .u16 0)).set_ 1 (.int .i64 0)).set_ 2 (.bool false)).set_ 3 (.slice none 0 0)).set_ 4 (.bool false)).set_ 5 (.int .u32 0)).set_ 6 (.int .u32 0)).far (p := ⟨ge, 0, none⟩) hne_o_e (.int .i64 4)
    simpa using this
  have heF : Blk Wf ge 33 #[.int .i64 4] := by
    rw [← hWf]
    have := (((((((He.out.far (p := ⟨go, 0, none⟩) (Ne.symm hne_o_e) (.int .u16 0)).far (p := ⟨go, 1, none⟩) (Ne.symm hne_o_e) (.int .i64 0)).far (p := ⟨go, 2, none⟩) (Ne.symm hne_o_e) (.bool false)).far (p := ⟨go, 3, none⟩) (Ne.symm hne_o_e) (.slice none 0 0)).far (p := ⟨go, 4, none⟩) (Ne.symm hne_o_e) (.bool false)).far (p := ⟨go, 5, none⟩) (Ne.symm hne_o_e) (.int .u32 0)).far (p := ⟨go, 6, none⟩) (Ne.symm hne_o_e) (.int .u32 0)).set_ 0 (.int .i64 4)
    simpa using this
  have hBf : Below w.heap.size w Wf := by
    rw [← hWf]
    repeat (first | (refine Below.setCell ?_ hle_e _) | (refine Below.setCell ?_ hle_o _))
    exact HB.out
  clear hWf d0 d1 d2 d3 d4 d5 d6 fr ce fe
  have z0 := hoF.cell 0
  have z1 := hoF.cell 1
  have z2 := hoF.cell 2
  have z3 := hoF.cell 3
  have z4 := hoF.cell 4
  have z5 := hoF.cell 5
  have z6 := hoF.cell 6
  simp at z0 z1 z2 z3 z4 z5 z6
  have y0 := heF.cell 0
  try simp at y0
  exact bodyPost_ret (v := .tuple #[.agg #[.int .u16 0, .int .i64 0, .bool false, .slice none 0 0, .bool false, .int .u32 0, .int .u32 0], .int .i64 4]) (by simp [results, Try.results42, go_sem, z0, z1, z2, z3, z4, z5, z6, y0]) rfl ⟨zeroO, none, 0, 4, rfl, ⟨.inl rfl, fun _ e => by cases e⟩, hBf, Hr.out.symm⟩
theorem dec_any (x : ByteArray) (w : World) : Calls Try.prog 42 #[.string x] w (DecPost w x.data.toList) := by
  by_cases h : x.data.toList.length ≤ 40
  · exact callsIn_wide.1 (dec_in x _ rfl h w)
  · exact dec_long x _ rfl (by omega) w
end Go.Proofs.Ytengegcnocdkoaa
end
section
set_option maxRecDepth 20000
namespace Go.Proofs.Ytengegcnocdkoaa
open Go.RowKit Go.BigFrame
def MetAt (W : World) (g : Nat) (met : List Nat) : Prop := ∃ cs, Blk W g 4 cs ∧ cs.size = 256 ∧ ∀ j, j < 256 → cs[j]? = some (.bool (decide (j ∈ met)))
theorem MetAt.start (w : World) : MetAt (w.alloc (.cells (Array.replicate 256 (.bool false)) 4)) w.heap.size [] :=
  ⟨_, Blk.new _ _ _, by simp, fun j hj => by simp [hj]⟩
theorem MetAt.cell {W : World} {g : Nat} {met : List Nat} (h : MetAt W g met) {j : Nat} (hj : j < 256) : W.cell? ⟨g, j, none⟩ = some (.bool (decide (j ∈ met))) := by
  obtain ⟨cs, h1, _, h2⟩ := h
  rw [h1.cell j, h2 j hj]
theorem MetAt.frozen {W : World} {g : Nat} {met : List Nat} (h : MetAt W g met) (j : Nat) : W.frozen? ⟨g, j, none⟩ = false := by
  obtain ⟨cs, h1, _, h2⟩ := h
  exact h1.frozen j
theorem MetAt.grown {W W' : World} {row : Option Nat} {g : Nat} {met : List Nat} (h : MetAt W g met) (hg : W.grownBy W' row) (hne : row ≠ some g) : MetAt W' g met := by
  obtain ⟨cs, h1, h3, h2⟩ := h
  exact ⟨cs, h1.grown hg (fun e => hne e.symm), h3, h2⟩
theorem MetAt.lt {W : World} {g : Nat} {met : List Nat} (h : MetAt W g met) : g < W.heap.size := by
  obtain ⟨cs, h1, _⟩ := h
  exact h1.lt
theorem MetAt.set {W : World} {g : Nat} {met : List Nat} (h : MetAt W g met) {b : Nat} (hb : b < 256) : MetAt (W.setCell ⟨g, b, none⟩ (.bool true)) g (b :: met) := by
  obtain ⟨cs, h1, h3, h2⟩ := h
  refine ⟨_, h1.set_ b (.bool true), by simpa using h3, fun j hj => ?_⟩
  rw [Array.getElem?_setIfInBounds]
  by_cases e : b = j
  · subst e
    simp [h3, hb]
  · rw [if_neg e, h2 j hj]
    have : j ≠ b := fun h => e h.symm
    simp [this]
end Go.Proofs.Ytengegcnocdkoaa
end
section
set_option maxRecDepth 20000
namespace Go.Proofs.Ytengegcnocdkoaa
open Go.RowKit Go.BigFrame
theorem ext_list (x : ByteArray) (L : List UInt8) (hx : x.data.toList = L) (a b : Nat) : x.extract a b = ⟨((L.drop a).take (b - a)).toArray⟩ := by
  apply ByteArray.ext
  rw [ByteArray.data_extract]
  apply Array.ext'
  rw [Array.toList_extract, List.extract_eq_take_drop, hx]
end Go.Proofs.Ytengegcnocdkoaa
end
section
set_option maxRecDepth 20000
namespace Go.Proofs.Ytengegcnocdkoaa
/-- an option: its kind, its bytes (none: it may not be) -/
abbrev It := Nat × Option (List UInt8)
def scanF : Nat → List UInt8 → List It
  | 0, _ => []
  | _ + 1, [] => []
  | f + 1, k :: r => if k.toNat = 0 then [] else if k.toNat = 1 then scanF f r else
    match r with
    | [] => [(k.toNat, none)]
    | n :: b => if longB k.toNat n.toNat = true ∧ n.toNat ≤ b.length + 2 then (k.toNat, some (b.take (n.toNat - 2))) :: scanF f (b.drop (n.toNat - 2)) else [(k.toNat, none)]
theorem scanF_zero (f : Nat) {k : UInt8} (r : List UInt8) (h : k.toNat = 0) : scanF (f + 1) (k :: r) = [] := by cases r <;> simp [scanF, h]
theorem scanF_one (f : Nat) {k : UInt8} (r : List UInt8) (h : k.toNat = 1) : scanF (f + 1) (k :: r) = scanF f r := by cases r <;> simp [scanF, h]
theorem scanF_end (f : Nat) {k : UInt8} (h0 : k.toNat ≠ 0) (h1 : k.toNat ≠ 1) : scanF (f + 1) [k] = [(k.toNat, none)] := by simp only [scanF]; rw [if_neg h0, if_neg h1]
theorem scanF_opt (f : Nat) {k n : UInt8} {b : List UInt8} (h0 : k.toNat ≠ 0) (h1 : k.toNat ≠ 1) (hc : longB k.toNat n.toNat = true ∧ n.toNat ≤ b.length + 2) : scanF (f + 1) (k :: n :: b) = (k.toNat, some (b.take (n.toNat - 2))) :: scanF f (b.drop (n.toNat - 2)) := by simp only [scanF]; rw [if_neg h0, if_neg h1, if_pos hc]
theorem scanF_bad (f : Nat) {k n : UInt8} {b : List UInt8} (h0 : k.toNat ≠ 0) (h1 : k.toNat ≠ 1) (hc : ¬ (longB k.toNat n.toNat = true ∧ n.toNat ≤ b.length + 2)) : scanF (f + 1) (k :: n :: b) = [(k.toNat, none)] := by simp only [scanF]; rw [if_neg h0, if_neg h1, if_neg hc]
def itemOf (L : List UInt8) (p : Nat × Nat) : It := (byteN L p.1, if p.2 = 0 then none else some (bodyL L p))
theorem byteN_drop {L : List UInt8} {i : Nat} {k : UInt8} {r : List UInt8} (h : L.drop i = k :: r) : byteN L i = k.toNat := by
  have h1 : (L.drop i)[0]? = some k := by rw [h]; rfl
  rw [List.getElem?_drop] at h1
  unfold byteN
  rw [show i + 0 = i from rfl] at h1
  rw [h1]
  rfl
theorem drop_next {L : List UInt8} {i : Nat} {k : UInt8} {r : List UInt8} (h : L.drop i = k :: r) : L.drop (i + 1) = r := by
  have := congrArg List.tail h
  rwa [List.tail_drop] at this
theorem drop_lt {L : List UInt8} {i : Nat} {k : UInt8} {r : List UInt8} (h : L.drop i = k :: r) : L.length = i + r.length + 1 := by
  have := congrArg List.length h
  rw [List.length_drop, List.length_cons] at this
  omega
theorem drop_drop_ (L : List UInt8) (i j : Nat) : (L.drop i).drop j = L.drop (i + j) := by
  rw [List.drop_drop]
theorem stepN_drop2 {L : List UInt8} {i : Nat} {k n : UInt8} {b : List UInt8} (h : L.drop i = k :: n :: b) : stepN L i = if longB k.toNat n.toNat = true ∧ n.toNat ≤ b.length + 2 then n.toNat else 0 := by
  have h1 := byteN_drop h
  have h2 := byteN_drop (drop_next h)
  have h3 := drop_lt h
  rw [List.length_cons] at h3
  unfold stepN
  rw [h1, h2]
  by_cases hc : longB k.toNat n.toNat = true ∧ n.toNat ≤ b.length + 2
  · rw [if_pos hc, if_pos ⟨by omega, hc.1, by omega⟩]
  · rw [if_neg hc, if_neg (fun h => hc ⟨h.2.1, by omega⟩)]
theorem stepN_drop1 {L : List UInt8} {i : Nat} {k : UInt8} (h : L.drop i = [k]) : stepN L i = 0 := by
  have h3 := drop_lt h
  unfold stepN
  rw [if_neg]
  rintro ⟨h1, _⟩
  simp at h3
  omega
theorem scan_placesF : ∀ (f : Nat) (L : List UInt8) (i : Nat), (placesF f L i).map (itemOf L) = scanF f (L.drop i) := by
  intro f
  induction f with
  | zero => intro L i; rfl
  | succ f ih =>
    intro L i
    cases hd : L.drop i with
    | nil =>
      have : L.length ≤ i := List.drop_eq_nil_iff.1 hd
      rw [placesF, if_neg (fun h => by omega), scanF]
      rfl
    | cons k r =>
      have hk := byteN_drop hd
      have hr := drop_next hd
      have hl := drop_lt hd
      rw [placesF]
      by_cases h0 : k.toNat = 0
      · rw [if_neg (fun h => h.2 (hk.trans h0)), scanF_zero _ _ h0]
        rfl
      rw [if_pos ⟨by omega, by rw [hk]; exact h0⟩]
      by_cases h1 : k.toNat = 1
      · rw [if_pos (hk.trans h1), scanF_one _ _ h1, ih, hr]
      rw [if_neg (by rw [hk]; exact h1), List.map_cons]
      cases r with
      | nil =>
        have hs := stepN_drop1 hd
        rw [hs, if_pos rfl, scanF_end _ h0 h1]
        simp only [itemOf, hk, List.map_nil, if_true]
      | cons n b =>
        have hs := stepN_drop2 hd
        by_cases hc : longB k.toNat n.toNat = true ∧ n.toNat ≤ b.length + 2
        · rw [if_pos hc] at hs
          have h2 := longB_two hc.1
          rw [hs, if_neg (by omega), scanF_opt _ h0 h1 hc, ih]
          have hb : L.drop (i + 2) = b := drop_next hr
          congr 1
          · unfold itemOf bodyL
            simp only []
            rw [if_neg (by omega), hk, hb]
          · rw [← hb, drop_drop_, show i + 2 + (n.toNat - 2) = i + n.toNat by omega]
        · rw [if_neg hc] at hs
          rw [hs, if_pos rfl, scanF_bad _ h0 h1 hc]
          simp only [itemOf, hk, List.map_nil, if_true]
theorem scanF_eq : ∀ (f g : Nat) (L : List UInt8), L.length < f → L.length < g → scanF f L = scanF g L := by
  intro f
  induction f with
  | zero => intro g L h; omega
  | succ f ih =>
    intro g L hf hg
    cases g with
    | zero => omega
    | succ g =>
      match L with
      | [] => rfl
      | [k] =>
        simp only [scanF]
        rw [ih g [] (by simp at *; omega) (by simp at *; omega)]
      | k :: n :: b =>
        simp only [scanF]
        simp only [List.length_cons] at hf hg
        rw [ih g (n :: b) (by simp; omega) (by simp; omega), ih g (b.drop (n.toNat - 2)) (by rw [List.length_drop]; omega) (by rw [List.length_drop]; omega)]
def scan (L : List UInt8) : List It := scanF (L.length + 1) L
theorem scan_places (L : List UInt8) : (placesAt L 0).map (itemOf L) = scan L := by
  unfold placesAt scan
  rw [scan_placesF]
  rfl
theorem scan_nil : scan [] = [] := rfl
theorem scan_one {k : UInt8} (r : List UInt8) (h : k.toNat = 1) : scan (k :: r) = scan r := by
  unfold scan
  rw [scanF_one _ _ h]
  exact scanF_eq _ _ _ (by simp) (by simp)
theorem scan_opt {k n : UInt8} (b r : List UInt8) (h0 : k.toNat ≠ 0) (h1 : k.toNat ≠ 1) (hl : longB k.toNat n.toNat = true) (hn : n.toNat = b.length + 2) : scan (k :: n :: (b ++ r)) = (k.toNat, some b) :: scan r := by
  unfold scan
  rw [scanF_opt _ h0 h1 ⟨hl, by rw [List.length_append]; omega⟩, hn, Nat.add_sub_cancel, List.take_left, List.drop_left]
  congr 1
  exact scanF_eq _ _ _ (by simp; omega) (by simp)
/-- one option, read -/
def takeI (o : Op) (k : Nat) (B : List UInt8) : Option Op :=
  if k = 2 then (if numL B % 65536 = 0 then none else some { o with mss := numL B % 65536 })
  else if k = 3 then some { o with scale := min ((byteN B 0 : Nat) : Int) 14 }
  else if k = 4 then some { o with sack := true }
  else if k = 8 then some { o with time := true, val := numL (B.take 4), echo := numL (B.drop 4) }
  else if k = 5 then some { o with bl := o.bl ++ blocksF B.length B }
  else some o
theorem takeP_I (L : List UInt8) (o : Op) (p : Nat × Nat) : takeP L o p = takeI o (byteN L p.1) (bodyL L p) := rfl
def stepI (st : Op × List Nat) (x : It) : Option (Op × List Nat) := match x.2 with
  | none => none
  | some B => if x.1 ∈ st.2 then none else (takeI st.1 x.1 B).map fun o => (o, if metB x.1 = true then x.1 :: st.2 else st.2)
theorem stepD_I (L : List UInt8) (st : Op × List Nat) (p : Nat × Nat) : stepD L st p = stepI st (itemOf L p) := by
  unfold stepD stepI itemOf
  by_cases h : p.2 = 0
  · rw [if_pos (.inl h)]
    simp only [h, if_true]
  · simp only [h, if_false, false_or]
    rw [takeP_I]
def foldI (l : List It) (st : Op × List Nat) : Option (Op × List Nat) := l.foldlM stepI st
theorem foldI_nil (st : Op × List Nat) : foldI [] st = some st := rfl
theorem foldI_cons (x : It) (l : List It) (st : Op × List Nat) : foldI (x :: l) st = (stepI st x).bind fun s => foldI l s := by
  unfold foldI
  rw [List.foldlM_cons]
  rfl
theorem foldI_append (l m : List It) (st : Op × List Nat) : foldI (l ++ m) st = (foldI l st).bind fun s => foldI m s := by
  unfold foldI
  rw [List.foldlM_append]
  rfl
theorem foldD_I (L : List UInt8) : ∀ (l : List (Nat × Nat)) (st : Op × List Nat), foldD L l st = foldI (l.map (itemOf L)) st := by
  intro l
  induction l with
  | nil => intro st; rfl
  | cons p l ih =>
    intro st
    rw [List.map_cons, foldI_cons, ← stepD_I]
    unfold foldD
    rw [List.foldlM_cons]
    cases stepD L st p with
    | none => rfl
    | some s => exact ih s
theorem decL_I (L : List UInt8) : decL L = (foldI (scan L) (noneO, [])).map (·.1) := by
  unfold decL
  rw [foldD_I, scan_places]
/-! what was written is read -/
theorem numL4 (a b c d : UInt8) : numL [a, b, c, d] = a.toNat * 16777216 + b.toNat * 65536 + c.toNat * 256 + d.toNat := by
  have h1 := UInt8.toNat_lt a
  have h2 := UInt8.toNat_lt b
  have h3 := UInt8.toNat_lt c
  have h4 := UInt8.toNat_lt d
  simp only [numL, List.foldl_cons, List.foldl_nil]
  omega
theorem numL2 (a b : UInt8) : numL [a, b] = a.toNat * 256 + b.toNat := by
  have h1 := UInt8.toNat_lt a
  have h2 := UInt8.toNat_lt b
  simp only [numL, List.foldl_cons, List.foldl_nil]
  omega
theorem numL_be4 {x : Nat} (h : x < 4294967296) : numL (be4 x) = x := by
  unfold be4
  rw [numL4]
  simp only [UInt8.toNat_ofNat']
  omega
theorem numL_be2 {x : Nat} (h : x < 65536) : numL (be2 x) = x := by
  unfold be2
  rw [numL2]
  simp only [UInt8.toNat_ofNat']
  omega
theorem be4_numL {X : List UInt8} (h : X.length = 4) : be4 (numL X) = X := by
  match X, h with
  | [a, b, c, d], _ =>
    have h1 := UInt8.toNat_lt a
    have h2 := UInt8.toNat_lt b
    have h3 := UInt8.toNat_lt c
    have h4 := UInt8.toNat_lt d
    rw [numL4]
    unfold be4
    have e : ∀ (x : UInt8) (n : Nat), n % 256 = x.toNat → UInt8.ofNat n = x := fun x n hn => by
      apply UInt8.toNat_inj.1
      rw [UInt8.toNat_ofNat']
      exact hn
    rw [e a _ (by omega), e b _ (by omega), e c _ (by omega), e d _ (by omega)]
theorem be4_len (x : Nat) : (be4 x).length = 4 := rfl
theorem be2_len (x : Nat) : (be2 x).length = 2 := rfl
def mssI (o : Op) : List It := if o.mss = 0 then [] else [(2, some (be2 o.mss))]
def scaleI (o : Op) : List It := if o.scale < 0 then [] else [(3, some [UInt8.ofNat o.scale.toNat])]
def sackI (o : Op) : List It := if o.sack then [(4, some [])] else []
def timeI (o : Op) : List It := if o.time then [(8, some (be4 o.val ++ be4 o.echo))] else []
def blkI (o : Op) : List It := if o.bl.length = 0 then [] else [(5, some (blksL o.bl))]
def itemsO (o : Op) : List It := mssI o ++ scaleI o ++ sackI o ++ timeI o ++ blkI o
theorem scan_mss (o : Op) (r : List UInt8) : scan (mssL o ++ r) = mssI o ++ scan r := by
  unfold mssL mssI
  split
  · rfl
  · rw [show [2, 4] ++ be2 o.mss ++ r = (2 : UInt8) :: 4 :: (be2 o.mss ++ r) by simp, scan_opt _ _ (by decide) (by decide) (by decide) rfl]
    rfl
theorem scan_scale (o : Op) (r : List UInt8) : scan (scaleL o ++ r) = scaleI o ++ scan r := by
  unfold scaleL scaleI
  split
  · rfl
  · rw [show [1, 3, 3, UInt8.ofNat o.scale.toNat] ++ r = (1 : UInt8) :: 3 :: 3 :: ([UInt8.ofNat o.scale.toNat] ++ r) by simp, scan_one _ (by decide), scan_opt _ _ (by decide) (by decide) (by decide) rfl]
    rfl
theorem scan_sack (o : Op) (r : List UInt8) : scan (sackL o ++ r) = sackI o ++ scan r := by
  unfold sackL sackI
  split
  · rw [show [1, 1, 4, 2] ++ r = (1 : UInt8) :: 1 :: 4 :: 2 :: ([] ++ r) by simp, scan_one _ (by decide), scan_one _ (by decide), scan_opt _ _ (by decide) (by decide) (by decide) rfl]
    rfl
  · rfl
theorem scan_time (o : Op) (r : List UInt8) : scan (timeL o ++ r) = timeI o ++ scan r := by
  unfold timeL timeI
  split
  · rw [show [1, 1, 8, 10] ++ (be4 o.val ++ be4 o.echo) ++ r = (1 : UInt8) :: 1 :: 8 :: 10 :: ((be4 o.val ++ be4 o.echo) ++ r) by simp, scan_one _ (by decide), scan_one _ (by decide), scan_opt _ _ (by decide) (by decide) (by decide) rfl]
    rfl
  · rfl
theorem scan_blk (o : Op) (r : List UInt8) (h : o.bl.length ≤ 4) : scan (bheadL o.bl.length ++ blksL o.bl ++ r) = blkI o ++ scan r := by
  unfold bheadL blkI
  by_cases h0 : o.bl.length = 0
  · rw [if_pos h0, if_pos h0, List.length_eq_zero_iff.1 h0]
    rfl
  · rw [if_neg h0, if_neg h0]
    have hl := blks_len o.bl
    have hb : (UInt8.ofNat (2 + 8 * o.bl.length)).toNat = 2 + 8 * o.bl.length := by rw [UInt8.toNat_ofNat']; omega
    rw [show [1, 1, 5, UInt8.ofNat (2 + 8 * o.bl.length)] ++ blksL o.bl ++ r = (1 : UInt8) :: 1 :: 5 :: UInt8.ofNat (2 + 8 * o.bl.length) :: (blksL o.bl ++ r) by simp, scan_one _ (by decide), scan_one _ (by decide), scan_opt _ _ (by decide) (by decide) ?_ (by rw [hb, hl]; omega)]
    · rfl
    · rw [hb]
      have : o.bl.length = 1 ∨ o.bl.length = 2 ∨ o.bl.length = 3 ∨ o.bl.length = 4 := by omega
      rcases this with h | h | h | h <;> rw [h] <;> rfl
theorem scan_raw (o : Op) (r : List UInt8) (h : o.bl.length ≤ 4) : scan (rawL o ++ r) = itemsO o ++ scan r := by
  unfold rawL itemsO
  simp only [List.append_assoc]
  rw [scan_mss, scan_scale, scan_sack, scan_time, ← List.append_assoc (bheadL o.bl.length), scan_blk o r h]
theorem blocksF_blks : ∀ (l : List (Int × Int)) (f : Nat), (blksL l).length ≤ f → (∀ p ∈ l, (0 ≤ p.1 ∧ p.1 ≤ 4294967295) ∧ 0 ≤ p.2 ∧ p.2 ≤ 4294967295) → blocksF f (blksL l) = l := by
  intro l
  induction l with
  | nil =>
    intro f _ _
    cases f <;> simp [blocksF, blksL]
  | cons p l ih =>
    intro f hf hb
    have h1 : blksL (p :: l) = be4 p.1.toNat ++ (be4 p.2.toNat ++ blksL l) := by simp [blksL]
    have hp := hb p List.mem_cons_self
    rw [h1] at hf ⊢
    rw [List.length_append, List.length_append, be4_len, be4_len] at hf
    cases f with
    | zero => omega
    | succ f =>
      rw [blocksF, if_neg (by simp [be4])]
      rw [List.take_append_of_le_length (by rw [be4_len]; exact Nat.le_refl _), List.take_of_length_le (by rw [be4_len]; exact Nat.le_refl _)]
      rw [List.drop_append_of_le_length (by rw [be4_len]; exact Nat.le_refl _), List.drop_of_length_le (by rw [be4_len]; exact Nat.le_refl _), List.nil_append]
      rw [List.take_append_of_le_length (by rw [be4_len]; exact Nat.le_refl _), List.take_of_length_le (by rw [be4_len]; exact Nat.le_refl _)]
      rw [show (be4 p.1.toNat ++ (be4 p.2.toNat ++ blksL l)).drop 8 = blksL l by rw [← List.append_assoc]; exact List.drop_left' (by simp [be4])]
      rw [numL_be4 (by omega), numL_be4 (by omega), ih f (by omega) (fun q hq => hb q (List.mem_cons_of_mem _ hq))]
      congr 1
      apply Prod.ext <;> simp <;> omega
/-- what is read of options' own items: they, where the others were not met -/
theorem fold_items (o : Op) (hw : o.wf) (hm : mayB o = true) (met : List Nat) (hmet : ∀ k ∈ met, metB k = false) : ∃ met', foldI (itemsO o) (noneO, met) = some (o, met') ∧ ∀ k ∈ met', k ∈ met ∨ metB k = true := by
  obtain ⟨h1, h2, h3, h4⟩ := mayB_parts hm
  have hn : ∀ k, metB k = true → k ∉ met := fun k hk hin => by rw [hmet k hin] at hk; cases hk
  have n2 := hn 2 rfl
  have n3 := hn 3 rfl
  have n4 := hn 4 rfl
  have n5 := hn 5 rfl
  have n8 := hn 8 rfl
  have htv : o.time = false → o.val = 0 ∧ o.echo = 0 := by
    intro ht
    unfold mayB at hm
    rw [ht] at hm
    simp only [Bool.and_eq_true, decide_eq_true_eq, Bool.false_or, beq_iff_eq] at hm
    exact hm.2.2.2.1
  -- the five parts, one behind the other
  have p1 : ∃ m1, foldI (mssI o) (noneO, met) = some ({ noneO with mss := o.mss }, m1) ∧ ∀ k ∈ m1, k ∈ met ∨ k = 2 := by
    unfold mssI
    split
    · rename_i h; exact ⟨met, by rw [foldI_nil, h]; rfl, fun k hk => .inl hk⟩
    · rename_i h
      refine ⟨2 :: met, ?_, fun k hk => by rcases List.mem_cons.1 hk with rfl | hk; exact .inr rfl; exact .inl hk⟩
      rw [foldI_cons]
      unfold stepI takeI
      simp only [if_neg n2, if_true, numL_be2 hw.mss]
      rw [Nat.mod_eq_of_lt hw.mss, if_neg h]
      rfl
  obtain ⟨m1, q1, r1⟩ := p1
  have p2 : ∃ m2, foldI (scaleI o) ({ noneO with mss := o.mss }, m1) = some ({ noneO with mss := o.mss, scale := o.scale }, m2) ∧ ∀ k ∈ m2, k ∈ met ∨ k = 2 ∨ k = 3 := by
    unfold scaleI
    split
    · rename_i h
      exact ⟨m1, by rw [foldI_nil, show o.scale = -1 by omega]; rfl, fun k hk => (r1 k hk).imp id .inl⟩
    · rename_i h
      have n3' : 3 ∉ m1 := fun hk => by rcases r1 3 hk with hk | hk; exact n3 hk; omega
      refine ⟨3 :: m1, ?_, fun k hk => by rcases List.mem_cons.1 hk with rfl | hk; exact .inr (.inr rfl); exact (r1 k hk).imp id .inl⟩
      rw [foldI_cons]
      unfold stepI takeI
      have hb : byteN [UInt8.ofNat o.scale.toNat] 0 = o.scale.toNat := by
        show (UInt8.ofNat o.scale.toNat).toNat = _
        rw [UInt8.toNat_ofNat']
        omega
      simp only [if_neg n3', hb]
      rw [show min ((o.scale.toNat : Nat) : Int) 14 = o.scale by omega]
      rfl
  obtain ⟨m2, q2, r2⟩ := p2
  have p3 : ∃ m3, foldI (sackI o) ({ noneO with mss := o.mss, scale := o.scale }, m2) = some ({ noneO with mss := o.mss, scale := o.scale, sack := o.sack }, m3) ∧ ∀ k ∈ m3, k ∈ met ∨ k = 2 ∨ k = 3 ∨ k = 4 := by
    unfold sackI
    cases hs : o.sack with
    | false => exact ⟨m2, rfl, fun k hk => (r2 k hk).imp id (fun h => h.imp id .inl)⟩
    | true =>
      have n4' : 4 ∉ m2 := fun hk => by rcases r2 4 hk with hk | hk; exact n4 hk; omega
      refine ⟨4 :: m2, ?_, fun k hk => by rcases List.mem_cons.1 hk with rfl | hk; exact .inr (.inr (.inr rfl)); exact (r2 k hk).imp id (fun h => h.imp id .inl)⟩
      rw [if_pos rfl, foldI_cons]
      unfold stepI takeI
      simp only [if_neg n4']
      rfl
  obtain ⟨m3, q3, r3⟩ := p3
  have p4 : ∃ m4, foldI (timeI o) ({ noneO with mss := o.mss, scale := o.scale, sack := o.sack }, m3) = some ({ noneO with mss := o.mss, scale := o.scale, sack := o.sack, time := o.time, val := o.val, echo := o.echo }, m4) ∧ ∀ k ∈ m4, k ∈ met ∨ k = 2 ∨ k = 3 ∨ k = 4 ∨ k = 8 := by
    unfold timeI
    cases ht : o.time with
    | false =>
      obtain ⟨e1, e2⟩ := htv ht
      exact ⟨m3, by rw [e1, e2]; rfl, fun k hk => (r3 k hk).imp id (fun h => by omega)⟩
    | true =>
      have n8' : 8 ∉ m3 := fun hk => by rcases r3 8 hk with hk | hk; exact n8 hk; omega
      refine ⟨8 :: m3, ?_, fun k hk => by rcases List.mem_cons.1 hk with rfl | hk; exact .inr (.inr (.inr (.inr rfl))); exact (r3 k hk).imp id (fun h => by omega)⟩
      rw [if_pos rfl, foldI_cons]
      unfold stepI takeI
      have e1 : (be4 o.val ++ be4 o.echo).take 4 = be4 o.val := rfl
      have e2 : (be4 o.val ++ be4 o.echo).drop 4 = be4 o.echo := rfl
      simp only [if_neg n8', e1, e2, numL_be4 hw.val, numL_be4 hw.echo]
      rfl
  obtain ⟨m4, q4, r4⟩ := p4
  have p5 : ∃ m5, foldI (blkI o) ({ noneO with mss := o.mss, scale := o.scale, sack := o.sack, time := o.time, val := o.val, echo := o.echo }, m4) = some (o, m5) ∧ ∀ k ∈ m5, k ∈ met ∨ k = 2 ∨ k = 3 ∨ k = 4 ∨ k = 8 ∨ k = 5 := by
    unfold blkI
    by_cases h : o.bl.length = 0
    · rw [if_pos h]
      refine ⟨m4, ?_, fun k hk => (r4 k hk).imp id (fun h => by omega)⟩
      rw [foldI_nil]
      have := List.length_eq_zero_iff.1 h
      cases o
      simp only at this
      subst this
      rfl
    · rw [if_neg h]
      have n5' : 5 ∉ m4 := fun hk => by rcases r4 5 hk with hk | hk; exact n5 hk; omega
      refine ⟨5 :: m4, ?_, fun k hk => by rcases List.mem_cons.1 hk with rfl | hk; exact .inr (by omega); exact (r4 k hk).imp id (fun h => by omega)⟩
      rw [foldI_cons]
      unfold stepI takeI
      simp only [if_neg n5', blocksF_blks o.bl _ (Nat.le_refl _) hw.bl]
      rfl
  obtain ⟨m5, q5, r5⟩ := p5
  refine ⟨m5, ?_, fun k hk => (r5 k hk).imp id (fun h => by rcases h with rfl | rfl | rfl | rfl | rfl <;> rfl)⟩
  unfold itemsO
  simp only [List.append_assoc, foldI_append, q1, q2, q3, q4, q5, Option.bind_some]
theorem dec_raw (o : Op) (hw : o.wf) (hm : mayB o = true) : decL (rawL o) = some o := by
  obtain ⟨h1, h2, h3, h4⟩ := mayB_parts hm
  obtain ⟨m, hf, _⟩ := fold_items o hw hm [] (fun k hk => by cases hk)
  have := scan_raw o [] h3
  rw [List.append_nil, scan_nil, List.append_nil] at this
  rw [decL_I, this, hf]
  rfl
theorem raw_four (o : Op) : (rawL o).length % 4 = 0 := by
  unfold rawL
  simp only [List.length_append, blks_len]
  unfold mssL scaleL sackL timeL bheadL
  repeat' split
  all_goals simp [be2, be4]
  all_goals omega
end Go.Proofs.Ytengegcnocdkoaa
end
section
namespace Go.Proofs.Ytengegcnocdkoaa
open Go.RowKit
/-- a segment -/
structure Sg where
  s0 : Nat
  s1 : Nat
  s2 : Nat
  s3 : Nat
  s4 : Nat
  s5 : Nat
  f : Nat
  s7 : Nat
  o : Op
  d : ByteArray
structure Sg.wf (s : Sg) : Prop where
  b0 : s.s0 < 4294967296
  b1 : s.s1 < 65536
  b2 : s.s2 < 4294967296
  b3 : s.s3 < 65536
  b4 : s.s4 < 4294967296
  b5 : s.s5 < 4294967296
  f : s.f < 256
  b7 : s.s7 < 65536
  o : s.o.wf
def Sg.c (s : Sg) (A : Option Addr) (c : Nat) : Array Value := segO s.s0 s.s1 s.s2 s.s3 s.s4 s.s5 s.f s.s7 s.o A c s.d
def Sg.may (s : Sg) : Bool := pmayB s.f s.o s.d
def Sg.th (s : Sg) : T.TCPh := ⟨s.s1, s.s3, s.s4, s.s5, UInt8.ofNat s.f, s.s7, 0, ⟨(rawL s.o).toArray⟩⟩
def Sg.ih (s : Sg) : I.IPh := ⟨s.s0, s.s2, 6, 64, 0, 0, true⟩
def Sg.tl (s : Sg) : List UInt8 := T.encL s.s0 s.s2 s.th s.d.data.toList
def Sg.pl (s : Sg) : List UInt8 := I.encL s.ih s.tl
def pencR (s : Sg) : ByteArray × Int := if s.may = true then (⟨s.pl.toArray⟩, 0) else (⟨#[]⟩, 2)
section
variable {s : Sg}
theorem Sg.may_parts (h : s.may = true) : flagsB s.f = true ∧ mayB s.o = true ∧ s.d.size ≤ 1460 := by
  unfold Sg.may pmayB at h
  simp only [Bool.and_eq_true, decide_eq_true_eq] at h
  exact ⟨h.1.1, h.1.2, h.2⟩
theorem flagsB_lt {f : Nat} (h : flagsB f = true) : f < 32 := by
  unfold flagsB at h
  simp only [Bool.and_eq_true, decide_eq_true_eq] at h
  exact h.1
theorem Sg.enc_o (h : s.may = true) : encR s.o = (⟨(rawL s.o).toArray⟩, 0) := by
  unfold encR
  rw [if_pos (Sg.may_parts h).2.1]
theorem Sg.th_ok (h : s.wf) : s.th.ok := ⟨h.b1, h.b3, h.b4, h.b5, h.b7, by show 0 < 65536; omega⟩
theorem Sg.ih_ok (h : s.wf) : s.ih.ok := ⟨h.b0, h.b2, by show 0 < 65536; omega⟩
theorem Sg.th_size : s.th.opts.size = (rawL s.o).length := by
  show (rawL s.o).toArray.size = _
  simp
theorem Sg.th_flags (h : s.wf) : s.th.flags.toNat = s.f := by
  have := h.f
  show (UInt8.ofNat s.f).toNat = s.f
  rw [UInt8.toNat_ofNat']
  omega
theorem Sg.th_may (w : s.wf) (h : s.may = true) : s.th.may := by
  obtain ⟨h1, h2, h3⟩ := Sg.may_parts h
  have := flagsB_lt h1
  refine ⟨?_, ?_, ?_⟩
  · rw [Sg.th_size]; exact raw_four _
  · rw [Sg.th_size]; exact (mayB_parts h2).2.2.2
  · rw [Sg.th_flags w]; omega
theorem Sg.len (w : s.wf) (h : s.may = true) : s.th.opts.size ≤ 40 ∧ s.d.size ≤ 1460 ∧ s.tl.length = 20 + s.th.opts.size + s.d.size ∧ s.pl.length = 40 + s.th.opts.size + s.d.size := by
  have h1 : s.tl.length = 20 + s.th.opts.size + s.d.size := T.enc_len _ _ _ _
  refine ⟨(Sg.th_may w h).2.1, (Sg.may_parts h).2.2, h1, ?_⟩
  have : s.pl.length = 20 + s.tl.length := I.enc_len _ _
  omega
theorem Sg.enc_t (w : s.wf) (h : s.may = true) : T.encV s.s0 s.s2 s.th s.d = .tuple #[.string ⟨s.tl.toArray⟩, .int .i64 0] := by
  have hl := Sg.len w h
  have hm := Sg.th_may w h
  unfold T.encV T.encS T.encE
  rw [if_pos ⟨hm, by omega⟩, if_pos hm, if_pos (by omega)]
  rfl
theorem Sg.enc_i (w : s.wf) (h : s.may = true) : I.encV s.ih ⟨s.tl.toArray⟩ = .tuple #[.string ⟨s.pl.toArray⟩, .int .i64 0] := by
  have hl := Sg.len w h
  have : (⟨s.tl.toArray⟩ : ByteArray).size = s.tl.length := by
    show s.tl.toArray.size = _
    simp
  unfold I.encV
  rw [if_neg (by omega)]
  unfold Sg.pl
  simp
end
end Go.Proofs.Ytengegcnocdkoaa
end
section
namespace Go.Proofs.Ytengegcnocdkoaa
open Go.RowKit
def zeroSg : Sg := ⟨0, 0, 0, 0, 0, 0, 0, 0, zeroO, ⟨#[]⟩⟩
/-- a packet's heads, its options, what they say, its data -/
def hI (L : List UInt8) : I.IPh := I.decH L
def hT (L : List UInt8) : T.TCPh := T.decH (L.drop 20)
def oB (L : List UInt8) : List UInt8 := (hT L).opts.data.toList
def dB (L : List UInt8) : ByteArray := ⟨((L.drop 20).drop (T.endN (L.drop 20))).toArray⟩
def sgL (L : List UInt8) : Sg := ⟨(hI L).src, (hT L).src, (hI L).dst, (hT L).dst, (hT L).seq, (hT L).ack, (hT L).flags.toNat, (hT L).window, (decR (oB L)).1, dB L⟩
def pdecE (L : List UInt8) : Int :=
  if I.decE L ≠ 0 then (I.decE L : Int) else if (hI L).proto ≠ 6 then 80 else if T.decE (hI L).src (hI L).dst (L.drop 20) ≠ 0 then (T.decE (hI L).src (hI L).dst (L.drop 20) : Int)
  else if (decR (oB L)).2 ≠ 0 then (decR (oB L)).2 else if flagsB (hT L).flags.toNat = false then 81 else if 1460 < (dB L).size then 4 else 0
def pdecR (L : List UInt8) : Sg × Int := if pdecE L = 0 then (sgL L, 0) else (zeroSg, pdecE L)
/-- how Decode ends -/
def PDecPost (w : World) (L : List UInt8) (e : Ending) (w' : World) : Prop :=
  ∃ (s : Sg) (A : Option Addr) (c : Nat) (code : Int), e = .returned (.tuple #[.agg (s.c A c), .int .i64 code]) ∧ BlR w' A s.o.bl ∧ Below w.heap.size w w' ∧ (s, code) = pdecR L
section
variable {L : List UInt8}
theorem pdec_of {e : Int} (h : pdecE L = e) (h0 : e ≠ 0) : pdecR L = (zeroSg, e) := by
  unfold pdecR
  rw [h, if_neg h0]
theorem pdec_i {k : Nat} (h : I.decE L = k) (h0 : k ≠ 0) : pdecR L = (zeroSg, (k : Int)) := by
  refine pdec_of ?_ (by omega)
  unfold pdecE
  rw [h, if_pos h0]
theorem pdec_p (h : I.decE L = 0) (h1 : (hI L).proto ≠ 6) : pdecR L = (zeroSg, 80) := by
  refine pdec_of ?_ (by omega)
  unfold pdecE
  rw [if_neg (by simp [h]), if_pos h1]
theorem pdec_t {k : Nat} (h : I.decE L = 0) (h1 : (hI L).proto = 6) (h2 : T.decE (hI L).src (hI L).dst (L.drop 20) = k) (h0 : k ≠ 0) : pdecR L = (zeroSg, (k : Int)) := by
  refine pdec_of ?_ (by omega)
  unfold pdecE
  rw [if_neg (by simp [h]), if_neg (by simp [h1]), h2, if_pos h0]
theorem pdec_o (h : I.decE L = 0) (h1 : (hI L).proto = 6) (h2 : T.decE (hI L).src (hI L).dst (L.drop 20) = 0) (h3 : (decR (oB L)).2 ≠ 0) : pdecR L = (zeroSg, (decR (oB L)).2) := by
  refine pdec_of ?_ h3
  unfold pdecE
  rw [if_neg (by simp [h]), if_neg (by simp [h1]), if_neg (by simp [h2]), if_pos h3]
theorem pdec_f (h : I.decE L = 0) (h1 : (hI L).proto = 6) (h2 : T.decE (hI L).src (hI L).dst (L.drop 20) = 0) (h3 : (decR (oB L)).2 = 0) (h4 : flagsB (hT L).flags.toNat = false) : pdecR L = (zeroSg, 81) := by
  refine pdec_of ?_ (by omega)
  unfold pdecE
  rw [if_neg (by simp [h]), if_neg (by simp [h1]), if_neg (by simp [h2]), if_neg (by simp [h3]), if_pos h4]
theorem pdec_d (h : I.decE L = 0) (h1 : (hI L).proto = 6) (h2 : T.decE (hI L).src (hI L).dst (L.drop 20) = 0) (h3 : (decR (oB L)).2 = 0) (h4 : flagsB (hT L).flags.toNat = true) (h5 : 1460 < (dB L).size) : pdecR L = (zeroSg, 4) := by
  refine pdec_of ?_ (by omega)
  unfold pdecE
  rw [if_neg (by simp [h]), if_neg (by simp [h1]), if_neg (by simp [h2]), if_neg (by simp [h3]), if_neg (by simp [h4]), if_pos h5]
theorem pdec_ok (h : I.decE L = 0) (h1 : (hI L).proto = 6) (h2 : T.decE (hI L).src (hI L).dst (L.drop 20) = 0) (h3 : (decR (oB L)).2 = 0) (h4 : flagsB (hT L).flags.toNat = true) (h5 : (dB L).size ≤ 1460) : pdecR L = (sgL L, 0) := by
  have h : pdecE L = 0 := by
    unfold pdecE
    rw [if_neg (by simp [h]), if_neg (by simp [h1]), if_neg (by simp [h2]), if_neg (by simp [h3]), if_neg (by simp [h4]), if_neg (by omega)]
  unfold pdecR
  rw [if_pos h]
end
theorem numL_lt32 (l : List UInt8) : numL l < 4294967296 := by have := numL_lt l; omega
theorem hI_src (L : List UInt8) : (hI L).src < 4294967296 := numL_lt32 ((L.drop 12).take 4)
theorem hI_dst (L : List UInt8) : (hI L).dst < 4294967296 := numL_lt32 ((L.drop 16).take 4)
/-- what ip.Decode, tcp.Decode answer, in one form -/
structure PD (L : List UInt8) (h : I.IPh) (ld : ByteArray) (k : Nat) : Prop where
  v : I.decV L = .tuple #[.agg #[.int .u32 (h.src : Int), .int .u32 (h.dst : Int), .int .u8 (h.proto.toNat : Int), .int .u8 (h.ttl.toNat : Int), .int .u8 (h.tos.toNat : Int), .int .u16 (h.id : Int), .bool h.df], .string ld, .int .i64 (k : Int)]
  e : I.decE L = k
  ok : k = 0 → h = hI L ∧ ld = ⟨(L.drop 20).toArray⟩
  src : h.src < 4294967296
  dst : h.dst < 4294967296
  ld : ld.size ≤ L.length
theorem pd_of (L : List UInt8) : ∃ h ld k, PD L h ld k := by
  by_cases h : I.decE L = 0
  · refine ⟨hI L, ⟨(L.drop 20).toArray⟩, 0, I.decV_ok h, h, fun _ => ⟨rfl, rfl⟩, hI_src L, hI_dst L, ?_⟩
    show (L.drop 20).toArray.size ≤ _
    simp
  · exact ⟨⟨0, 0, 0, 0, 0, 0, false⟩, ⟨#[]⟩, I.decE L, I.decV_bad rfl h, rfl, fun e => absurd e h, by decide, by decide, by show 0 ≤ _; omega⟩
structure PT (s d : Nat) (l : List UInt8) (t : T.TCPh) (dd : ByteArray) (k : Nat) : Prop where
  v : T.decV s d l = .tuple #[.agg #[.int .u16 (t.src : Int), .int .u16 (t.dst : Int), .int .u32 (t.seq : Int), .int .u32 (t.ack : Int), .int .u8 (t.flags.toNat : Int), .int .u16 (t.window : Int), .int .u16 (t.urgent : Int), .string t.opts], .string dd, .int .i64 (k : Int)]
  e : T.decE s d l = k
  ok : k = 0 → t = T.decH l ∧ dd = ⟨(l.drop (T.endN l)).toArray⟩
  dd : dd.size ≤ l.length
theorem pt_of (s d : Nat) (l : List UInt8) : ∃ t dd k, PT s d l t dd k := by
  by_cases h : T.decE s d l = 0
  · refine ⟨T.decH l, ⟨(l.drop (T.endN l)).toArray⟩, 0, T.decV_ok h, h, fun _ => ⟨rfl, rfl⟩, ?_⟩
    show (l.drop (T.endN l)).toArray.size ≤ _
    simp
  · exact ⟨⟨0, 0, 0, 0, 0, 0, 0, ⟨#[]⟩⟩, ⟨#[]⟩, T.decE s d l, T.decV_bad rfl h, rfl, fun e => absurd e h, by show 0 ≤ _; omega⟩
section
variable {L : List UInt8} {h : I.IPh} {ld : ByteArray} {k : Nat} (p : PD L h ld k) {t : T.TCPh} {dd : ByteArray} {k2 : Nat} (q : PT h.src h.dst ld.data.toList t dd k2)
include p
theorem PD.bad (hk : k ≠ 0) : pdecR L = (zeroSg, (k : Int)) := pdec_i p.e hk
theorem PD.proto (hk : k = 0) (hp : h.proto.toNat ≠ 6) : pdecR L = (zeroSg, 80) := by
  obtain ⟨rfl, _⟩ := p.ok hk
  exact pdec_p (p.e.trans hk) (fun e => hp (by rw [e]; rfl))
include q
theorem PD.parts (hk : k = 0) (hp : h.proto.toNat = 6) : I.decE L = 0 ∧ (hI L).proto = 6 ∧ T.decE (hI L).src (hI L).dst (L.drop 20) = k2 ∧ h = hI L ∧ (k2 = 0 → t = hT L ∧ dd = dB L) := by
  obtain ⟨rfl, rfl⟩ := p.ok hk
  refine ⟨p.e.trans hk, UInt8.toNat_inj.1 (by rw [hp]; rfl), q.e, rfl, fun h2 => ?_⟩
  obtain ⟨h3, h4⟩ := q.ok h2
  exact ⟨h3, h4⟩
theorem PD.tcp (hk : k = 0) (hp : h.proto.toNat = 6) (h2 : k2 ≠ 0) : pdecR L = (zeroSg, (k2 : Int)) := by
  obtain ⟨a, b, c, d, e⟩ := PD.parts p q hk hp
  exact pdec_t a b c h2
theorem PD.opt (hk : k = 0) (hp : h.proto.toNat = 6) (h2 : k2 = 0) (r : Op) (code : Int) (hr : (r, code) = decR t.opts.data.toList) (hc : code ≠ 0) : pdecR L = (zeroSg, code) := by
  obtain ⟨a, b, c, d, e⟩ := PD.parts p q hk hp
  obtain ⟨rfl, rfl⟩ := e h2
  have h3 : (decR (oB L)).2 = code := by unfold oB; rw [← hr]
  rw [pdec_o a b (c.trans h2) (by rw [h3]; exact hc), h3]
theorem PD.flags (hk : k = 0) (hp : h.proto.toNat = 6) (h2 : k2 = 0) (r : Op) (hr : (r, (0 : Int)) = decR t.opts.data.toList) (hf : flagsB t.flags.toNat = false) : pdecR L = (zeroSg, 81) := by
  obtain ⟨a, b, c, d, e⟩ := PD.parts p q hk hp
  obtain ⟨rfl, rfl⟩ := e h2
  have h3 : (decR (oB L)).2 = 0 := by unfold oB; rw [← hr]
  exact pdec_f a b (c.trans h2) h3 hf
theorem PD.long (hk : k = 0) (hp : h.proto.toNat = 6) (h2 : k2 = 0) (r : Op) (hr : (r, (0 : Int)) = decR t.opts.data.toList) (hf : flagsB t.flags.toNat = true) (hd : 1460 < dd.size) : pdecR L = (zeroSg, 4) := by
  obtain ⟨a, b, c, d, e⟩ := PD.parts p q hk hp
  obtain ⟨rfl, rfl⟩ := e h2
  have h3 : (decR (oB L)).2 = 0 := by unfold oB; rw [← hr]
  exact pdec_d a b (c.trans h2) h3 hf hd
theorem PD.fine (hk : k = 0) (hp : h.proto.toNat = 6) (h2 : k2 = 0) (r : Op) (hr : (r, (0 : Int)) = decR t.opts.data.toList) (hf : flagsB t.flags.toNat = true) (hd : dd.size ≤ 1460) :
    pdecR L = (⟨h.src, t.src, h.dst, t.dst, t.seq, t.ack, t.flags.toNat, t.window, r, dd⟩, 0) := by
  obtain ⟨a, b, c, d, e⟩ := PD.parts p q hk hp
  obtain ⟨rfl, rfl⟩ := e h2
  have h3 : (decR (oB L)).2 = 0 := by unfold oB; rw [← hr]
  have h4 : (decR (oB L)).1 = r := by unfold oB; rw [← hr]
  rw [pdec_ok a b (c.trans h2) h3 hf hd, d]
  unfold sgL
  rw [h4]
end
end Go.Proofs.Ytengegcnocdkoaa
end
section
set_option maxRecDepth 20000
namespace Go.Proofs.Ytengegcnocdkoaa
def addWF (d : Nat) : Nat → List UInt8 → List UInt8
  | 0, _ => []
  | f + 1, B => if B = [] then [] else be4 ((numL (B.take 4) + d) % 4294967296) ++ addWF d f (B.drop 4)
def tb (bl va ec k : Nat) (B : List UInt8) : List UInt8 :=
  if k = 8 then be4 ((numL (B.take 4) + va) % 4294967296) ++ be4 ((numL (B.drop 4) + ec) % 4294967296)
  else if k = 5 then addWF bl B.length B else B
def turnF (t : Nat → List UInt8 → List UInt8) : Nat → List UInt8 → List UInt8
  | 0, L => L
  | _ + 1, [] => []
  | f + 1, k :: r => if k.toNat = 0 then k :: r else if k.toNat = 1 then k :: turnF t f r else
    match r with
    | [] => [k]
    | n :: b => if longB k.toNat n.toNat = true ∧ n.toNat ≤ b.length + 2 then k :: n :: (t k.toNat (b.take (n.toNat - 2)) ++ turnF t f (b.drop (n.toNat - 2))) else k :: n :: b
section
variable (t : Nat → List UInt8 → List UInt8) (f : Nat)
theorem turnF_zero {k : UInt8} (r : List UInt8) (h : k.toNat = 0) : turnF t (f + 1) (k :: r) = k :: r := by cases r <;> simp [turnF, h]
theorem turnF_one {k : UInt8} (r : List UInt8) (h : k.toNat = 1) : turnF t (f + 1) (k :: r) = k :: turnF t f r := by cases r <;> simp [turnF, h]
theorem turnF_end {k : UInt8} (h0 : k.toNat ≠ 0) (h1 : k.toNat ≠ 1) : turnF t (f + 1) [k] = [k] := by simp only [turnF]; rw [if_neg h0, if_neg h1]
theorem turnF_opt {k n : UInt8} {b : List UInt8} (h0 : k.toNat ≠ 0) (h1 : k.toNat ≠ 1) (hc : longB k.toNat n.toNat = true ∧ n.toNat ≤ b.length + 2) : turnF t (f + 1) (k :: n :: b) = k :: n :: (t k.toNat (b.take (n.toNat - 2)) ++ turnF t f (b.drop (n.toNat - 2))) := by simp only [turnF]; rw [if_neg h0, if_neg h1, if_pos hc]
theorem turnF_bad {k n : UInt8} {b : List UInt8} (h0 : k.toNat ≠ 0) (h1 : k.toNat ≠ 1) (hc : ¬ (longB k.toNat n.toNat = true ∧ n.toNat ≤ b.length + 2)) : turnF t (f + 1) (k :: n :: b) = k :: n :: b := by simp only [turnF]; rw [if_neg h0, if_neg h1, if_neg hc]
end
def LenT (t : Nat → List UInt8 → List UInt8) : Prop := ∀ k B, longB k (B.length + 2) = true → (t k B).length = B.length
/-- the bytes of an option that may be -/
theorem opt_body {k n : UInt8} {b : List UInt8} (hc : longB k.toNat n.toNat = true ∧ n.toNat ≤ b.length + 2) : (b.take (n.toNat - 2)).length + 2 = n.toNat := by
  have := longB_two hc.1
  rw [List.length_take]
  omega
theorem turnF_len {t : Nat → List UInt8 → List UInt8} (ht : LenT t) : ∀ (f : Nat) (L : List UInt8), (turnF t f L).length = L.length := by
  intro f
  induction f with
  | zero => intro L; rfl
  | succ f ih =>
    intro L
    match L with
    | [] => rfl
    | [k] =>
      by_cases h0 : k.toNat = 0
      · rw [turnF_zero _ _ _ h0]
      by_cases h1 : k.toNat = 1
      · rw [turnF_one _ _ _ h1, List.length_cons, ih]; rfl
      rw [turnF_end _ _ h0 h1]
    | k :: n :: b =>
      by_cases h0 : k.toNat = 0
      · rw [turnF_zero _ _ _ h0]
      by_cases h1 : k.toNat = 1
      · rw [turnF_one _ _ _ h1, List.length_cons, ih]; rfl
      by_cases hc : longB k.toNat n.toNat = true ∧ n.toNat ≤ b.length + 2
      · have hb := opt_body hc
        rw [turnF_opt _ _ h0 h1 hc, List.length_cons, List.length_cons, List.length_append, ih, ht _ _ (by rw [hb]; exact hc.1), List.length_cons, List.length_cons, List.length_take, List.length_drop]
        omega
      · rw [turnF_bad _ _ h0 h1 hc]
theorem scan_turnF {t : Nat → List UInt8 → List UInt8} (ht : LenT t) : ∀ (f : Nat) (L : List UInt8), scanF f (turnF t f L) = (scanF f L).map fun x => (x.1, x.2.map (t x.1)) := by
  intro f
  induction f with
  | zero => intro L; rfl
  | succ f ih =>
    intro L
    match L with
    | [] => rfl
    | [k] =>
      by_cases h0 : k.toNat = 0
      · rw [turnF_zero _ _ _ h0, scanF_zero _ _ h0]; rfl
      by_cases h1 : k.toNat = 1
      · rw [turnF_one _ _ _ h1, scanF_one _ _ h1, scanF_one _ _ h1, ih]
      rw [turnF_end _ _ h0 h1, scanF_end _ h0 h1]
      rfl
    | k :: n :: b =>
      by_cases h0 : k.toNat = 0
      · rw [turnF_zero _ _ _ h0, scanF_zero _ _ h0]; rfl
      by_cases h1 : k.toNat = 1
      · rw [turnF_one _ _ _ h1, scanF_one _ _ h1, scanF_one _ _ h1, ih]
      by_cases hc : longB k.toNat n.toNat = true ∧ n.toNat ≤ b.length + 2
      · have hb := opt_body hc
        have hl := ht k.toNat _ (by rw [hb]; exact hc.1)
        rw [turnF_opt _ _ h0 h1 hc, scanF_opt _ h0 h1 hc, scanF_opt _ h0 h1 ⟨hc.1, by rw [List.length_append, hl, turnF_len ht, List.length_drop]; omega⟩, List.map_cons]
        rw [List.take_left' (by rw [hl]; omega), List.drop_left' (by rw [hl]; omega), ih]
        rfl
      · rw [turnF_bad _ _ h0 h1 hc, scanF_bad _ h0 h1 hc]
        rfl
theorem scanF_ok : ∀ (f : Nat) (L : List UInt8), ∀ x ∈ scanF f L, ∀ B, x.2 = some B → longB x.1 (B.length + 2) = true := by
  intro f
  induction f with
  | zero => intro L x h; cases h
  | succ f ih =>
    intro L x hx B hB
    match L with
    | [] => cases hx
    | [k] =>
      simp only [scanF] at hx
      split at hx
      · cases hx
      split at hx
      · exact ih _ x hx B hB
      · simp at hx
        subst hx
        cases hB
    | k :: n :: b =>
      simp only [scanF] at hx
      split at hx
      · cases hx
      split at hx
      · exact ih _ x hx B hB
      split at hx
      · rename_i hc
        rcases List.mem_cons.1 hx with rfl | hx
        · injection hB with hB
          subst hB
          rw [opt_body hc]
          exact hc.1
        · exact ih _ x hx B hB
      · simp at hx
        subst hx
        cases hB
/-! the numbers in an option's bytes -/
theorem long8 {n : Nat} (h : longB 8 (n + 2) = true) : n = 8 := by
  unfold longB at h
  simp at h
  omega
theorem long5 {n : Nat} (h : longB 5 (n + 2) = true) : n = 8 ∨ n = 16 ∨ n = 24 ∨ n = 32 := by
  unfold longB at h
  simp at h
  omega
theorem take4_be4 (x : Nat) (r : List UInt8) : (be4 x ++ r).take 4 = be4 x := List.take_left' rfl
theorem drop4_be4 (x : Nat) (r : List UInt8) : (be4 x ++ r).drop 4 = r := List.drop_left' rfl
theorem numL_be4m (x : Nat) : numL (be4 (x % 4294967296)) = x % 4294967296 := numL_be4 (Nat.mod_lt _ (by decide))
theorem be4_ne (x : Nat) (r : List UInt8) : be4 x ++ r ≠ [] := by simp [be4]
theorem addWF_len (d : Nat) : ∀ (f : Nat) (B : List UInt8), B.length ≤ f → B.length % 4 = 0 → (addWF d f B).length = B.length := by
  intro f
  induction f with
  | zero =>
    intro B h _
    rw [addWF]
    simp at h
    rw [h]
  | succ f ih =>
    intro B h hm
    rw [addWF]
    by_cases hB : B = []
    · rw [if_pos hB, hB]
    · have hp : 0 < B.length := List.length_pos_iff.2 hB
      rw [if_neg hB, List.length_append, be4_len, ih _ (by rw [List.length_drop]; omega) (by rw [List.length_drop]; omega), List.length_drop]
      omega
def tP (d : Nat) (p : Int × Int) : Int × Int := ((p.1 + (d : Int)) % 4294967296, (p.2 + (d : Int)) % 4294967296)
theorem blocksF_add (d : Nat) : ∀ (f g h : Nat) (B : List UInt8), B.length ≤ f → B.length ≤ g → B.length ≤ h → B.length % 8 = 0 → blocksF g (addWF d f B) = (blocksF h B).map (tP d) := by
  intro f
  induction f using Nat.strongRecOn with
  | ind f ih =>
    intro g h B hf hg hh hm
    by_cases hB : B = []
    · subst hB
      have h1 : addWF d f [] = [] := by cases f <;> simp [addWF]
      rw [h1]
      cases g <;> cases h <;> simp [blocksF]
    · have hp : 0 < B.length := List.length_pos_iff.2 hB
      obtain ⟨f, rfl⟩ : ∃ f', f = f' + 2 := ⟨f - 2, by omega⟩
      obtain ⟨g, rfl⟩ : ∃ g', g = g' + 1 := ⟨g - 1, by omega⟩
      obtain ⟨h, rfl⟩ : ∃ h', h = h' + 1 := ⟨h - 1, by omega⟩
      have hB4 : B.drop 4 ≠ [] := fun e => by have := congrArg List.length e; rw [List.length_drop] at this; simp at this; omega
      rw [addWF, if_neg hB, addWF, if_neg hB4, blocksF, if_neg (be4_ne _ _), take4_be4, drop4_be4, take4_be4]
      rw [blocksF, if_neg hB, List.map_cons]
      rw [show ∀ x y r, (be4 x ++ (be4 y ++ r)).drop 8 = r from fun x y r => by rw [← List.append_assoc]; exact List.drop_left' rfl]
      rw [List.drop_drop, show (4 + 4 : Nat) = 8 from rfl]
      rw [ih f (by omega) g h (B.drop 8) (by rw [List.length_drop]; omega) (by rw [List.length_drop]; omega) (by rw [List.length_drop]; omega) (by rw [List.length_drop]; omega)]
      rw [numL_be4m, numL_be4m]
      congr 1
theorem tb_len (bl va ec : Nat) : LenT (tb bl va ec) := by
  intro k B h
  unfold tb
  by_cases h8 : k = 8
  · subst h8
    rw [if_pos rfl, long8 h]
    rfl
  rw [if_neg h8]
  by_cases h5 : k = 5
  · subst h5
    rw [if_pos rfl]
    exact addWF_len _ _ _ (Nat.le_refl _) (by rcases long5 h with e | e | e | e <;> rw [e])
  rw [if_neg h5]
/-- options, turned -/
def turnO (bl va ec : Nat) (o : Op) : Op := { o with bl := o.bl.map (tP bl), val := if o.time then (o.val + va) % 4294967296 else o.val, echo := if o.time then (o.echo + ec) % 4294967296 else o.echo }
def itT (bl va ec : Nat) (x : It) : It := (x.1, x.2.map (tb bl va ec x.1))
theorem stepI_turn (bl va ec : Nat) (st : Op × List Nat) (x : It) (hx : ∀ B, x.2 = some B → longB x.1 (B.length + 2) = true) : stepI (turnO bl va ec st.1, st.2) (itT bl va ec x) = (stepI st x).map fun s => (turnO bl va ec s.1, s.2) := by
  obtain ⟨k, B⟩ := x
  cases B with
  | none => rfl
  | some B =>
    have h := hx B rfl
    unfold stepI itT
    simp only [Option.map_some]
    by_cases hm : k ∈ st.2
    · rw [if_pos hm, if_pos hm]; rfl
    rw [if_neg hm, if_neg hm]
    have key : takeI (turnO bl va ec st.1) k (tb bl va ec k B) = (takeI st.1 k B).map (turnO bl va ec) := by
      have e : k ≠ 8 → k ≠ 5 → tb bl va ec k B = B := fun h8 h5 => by unfold tb; rw [if_neg h8, if_neg h5]
      unfold takeI
      by_cases h2 : k = 2
      · rw [if_pos h2, if_pos h2, e (by omega) (by omega)]
        split <;> rfl
      rw [if_neg h2, if_neg h2]
      by_cases h3 : k = 3
      · rw [if_pos h3, if_pos h3, e (by omega) (by omega)]
        rfl
      rw [if_neg h3, if_neg h3]
      by_cases h4 : k = 4
      · rw [if_pos h4, if_pos h4]
        rfl
      rw [if_neg h4, if_neg h4]
      by_cases h8 : k = 8
      · rw [if_pos h8, if_pos h8]
        unfold tb
        rw [if_pos h8, take4_be4, drop4_be4, numL_be4m, numL_be4m]
        rfl
      rw [if_neg h8, if_neg h8]
      by_cases h5 : k = 5
      · rw [if_pos h5, if_pos h5]
        subst h5
        have hm : B.length % 8 = 0 := by rcases long5 h with e | e | e | e <;> rw [e]
        have hl : (addWF bl B.length B).length = B.length := addWF_len _ _ _ (Nat.le_refl _) (by omega)
        unfold tb
        rw [if_neg h8, if_pos rfl, hl, blocksF_add bl _ _ _ B (Nat.le_refl _) (Nat.le_refl _) (Nat.le_refl _) hm]
        simp only [Option.map_some, turnO, List.map_append]
      rw [if_neg h5, if_neg h5]
      rfl
    rw [key]
    cases takeI st.1 k B <;> rfl
theorem foldI_turn (bl va ec : Nat) : ∀ (l : List It) (st : Op × List Nat), (∀ x ∈ l, ∀ B, x.2 = some B → longB x.1 (B.length + 2) = true) → foldI (l.map (itT bl va ec)) (turnO bl va ec st.1, st.2) = (foldI l st).map fun s => (turnO bl va ec s.1, s.2) := by
  intro l
  induction l with
  | nil => intro st _; rfl
  | cons x l ih =>
    intro st h
    rw [List.map_cons, foldI_cons, foldI_cons, stepI_turn _ _ _ _ _ (h x List.mem_cons_self)]
    cases stepI st x with
    | none => rfl
    | some s => exact ih s (fun y hy => h y (List.mem_cons_of_mem _ hy))
def turnT (bl va ec : Nat) (L : List UInt8) : List UInt8 := turnF (tb bl va ec) (L.length + 1) L
theorem turnL_len (bl va ec : Nat) (L : List UInt8) : (turnT bl va ec L).length = L.length := turnF_len (tb_len _ _ _) _ _
theorem dec_turn (bl va ec : Nat) (L : List UInt8) : decL (turnT bl va ec L) = (decL L).map (turnO bl va ec) := by
  rw [decL_I, decL_I]
  have h1 : scan (turnT bl va ec L) = (scan L).map (itT bl va ec) := by
    unfold scan
    rw [turnL_len]
    exact scan_turnF (tb_len _ _ _) _ _
  rw [h1]
  have h2 := foldI_turn bl va ec (scan L) (noneO, []) (scanF_ok _ _)
  rw [show turnO bl va ec noneO = noneO from rfl] at h2
  rw [h2]
  cases foldI (scan L) (noneO, []) <;> rfl
/-! what the walks do, place by place -/
/-- four bytes, written over -/
def putL (M : List UInt8) (k : Nat) (x : Nat) : List UInt8 := M.take k ++ be4 x ++ M.drop (k + 4)
theorem putL_len {M : List UInt8} {k x : Nat} (h : k + 4 ≤ M.length) : (putL M k x).length = M.length := by
  unfold putL
  rw [List.length_append, List.length_append, be4_len, List.length_take, List.length_drop]
  omega
/-- the number that stands at a place -/
def atL (L : List UInt8) (k : Nat) : Nat := numL ((L.drop k).take 4)
/-- what a place's words become: the words of S from k on, written into M -/
def wordsT (S : List UInt8) (d : Nat) : Nat → Nat → List UInt8 → List UInt8
  | 0, _, M => M
  | n + 1, k, M => wordsT S d n (k + 4) (putL M k ((atL S k + d) % 4294967296))
/-- the program's way: it reads the text that came in -/
def stepO (L : List UInt8) (bl va ec : Nat) (M : List UInt8) (p : Nat × Nat) : List UInt8 :=
  if byteN L p.1 = 8 then putL (putL M (p.1 + 2) ((atL L (p.1 + 2) + va) % 4294967296)) (p.1 + 6) ((atL L (p.1 + 6) + ec) % 4294967296)
  else if byteN L p.1 = 5 then wordsT L bl ((p.2 - 2) / 4) (p.1 + 2) M else M
theorem drop_app (P R : List UInt8) (j : Nat) : (P ++ R).drop (P.length + j) = R.drop j := by
  rw [List.drop_append, List.drop_of_length_le (by omega), List.nil_append, Nat.add_sub_cancel_left]
theorem atL_app (P R : List UInt8) (j : Nat) : atL (P ++ R) (P.length + j) = atL R j := by
  unfold atL
  rw [drop_app]
theorem putL_app (P R : List UInt8) (j x : Nat) : putL (P ++ R) (P.length + j) x = P ++ putL R j x := by
  unfold putL
  rw [List.take_append, List.drop_append, List.take_of_length_le (by omega), List.drop_of_length_le (by omega)]
  simp only [Nat.add_sub_cancel_left, List.nil_append, List.append_assoc]
  rw [show P.length + j + 4 - P.length = j + 4 by omega]
theorem atL_zero (B r : List UInt8) (h : 4 ≤ B.length) : atL (B ++ r) 0 = numL (B.take 4) := by
  unfold atL
  rw [List.drop_zero, List.take_append_of_le_length h]
theorem putL_head (B r : List UInt8) (x : Nat) (h : 4 ≤ B.length) : putL (B ++ r) 0 x = be4 x ++ (B.drop 4 ++ r) := by
  unfold putL
  rw [List.take_zero, List.nil_append, Nat.zero_add, List.drop_append_of_le_length h]
/-- words, in both ways: behind a head that is done, the rest of S and M is the same -/
theorem wordsL_do (S : List UInt8) (d : Nat) : ∀ (n f : Nat) (P Q B r : List UInt8), S = Q ++ (B ++ r) → Q.length = P.length → B.length = 4 * n → B.length ≤ f → wordsT S d n P.length (P ++ (B ++ r)) = P ++ (addWF d f B ++ r) := by
  intro n
  induction n with
  | zero =>
    intro f P Q B r _ _ hB _
    have : B = [] := List.length_eq_zero_iff.1 (by omega)
    subst this
    cases f <;> simp [wordsT, addWF]
  | succ n ih =>
    intro f P Q B r hS hQ hB hf
    have h4 : 4 ≤ B.length := by omega
    have hne : B ≠ [] := fun e => by rw [e] at h4; simp at h4
    obtain ⟨f, rfl⟩ : ∃ f', f = f' + 1 := ⟨f - 1, by omega⟩
    rw [wordsT]
    have h1 : atL S P.length = numL (B.take 4) := by
      rw [hS, ← hQ]
      have := atL_app Q (B ++ r) 0
      rw [Nat.add_zero] at this
      rw [this, atL_zero _ _ h4]
    have h2 : ∀ x, putL (P ++ (B ++ r)) P.length x = (P ++ be4 x) ++ (B.drop 4 ++ r) := fun x => by
      have := putL_app P (B ++ r) 0 x
      rw [Nat.add_zero] at this
      rw [this, putL_head _ _ _ h4, List.append_assoc]
    rw [h1, h2, addWF, if_neg hne]
    have h3 := ih f (P ++ be4 ((numL (B.take 4) + d) % 4294967296)) (Q ++ B.take 4) (B.drop 4) r (by rw [hS]; simp only [List.append_assoc]; rw [← List.append_assoc (B.take 4), List.take_append_drop]) (by rw [List.length_append, List.length_append, be4_len, List.length_take]; omega) (by rw [List.length_drop]; omega) (by rw [List.length_drop]; omega)
    rw [List.length_append, be4_len] at h3
    rw [h3]
    simp only [List.append_assoc]
theorem byteN_app {P R : List UInt8} {k : UInt8} : byteN (P ++ k :: R) P.length = k.toNat := by
  unfold byteN
  rw [List.getElem?_append_right (Nat.le_refl _), Nat.sub_self]
  rfl
theorem stepO_do (L : List UInt8) (bl va ec : Nat) (P Q : List UInt8) (k n : UInt8) (B r : List UInt8) (hL : L = Q ++ (k :: n :: (B ++ r))) (hQ : Q.length = P.length) (hl : longB k.toNat n.toNat = true) (hn : B.length + 2 = n.toNat) :
    stepO L bl va ec (P ++ (k :: n :: (B ++ r))) (P.length, n.toNat) = P ++ (k :: n :: (tb bl va ec k.toNat B ++ r)) := by
  have hk : byteN L P.length = k.toNat := by rw [hL, ← hQ]; exact byteN_app
  rw [← hn] at hl
  unfold stepO tb
  simp only []
  rw [hk]
  by_cases h8 : k.toNat = 8
  · rw [if_pos h8, if_pos h8]
    rw [h8] at hl
    have hB := long8 hl
    match B, hB with
    | [b0, b1, b2, b3, b4, b5, b6, b7], _ =>
      have a1 : atL L (P.length + 2) = numL [b0, b1, b2, b3] := by rw [hL, ← hQ, atL_app]; rfl
      have a2 : atL L (P.length + 6) = numL [b4, b5, b6, b7] := by rw [hL, ← hQ, atL_app]; rfl
      rw [a1, a2, putL_app, putL_app]
      rfl
  rw [if_neg h8, if_neg h8]
  by_cases h5 : k.toNat = 5
  · rw [if_pos h5, if_pos h5]
    rw [h5] at hl
    have hB := long5 hl
    have h3 := wordsL_do L bl ((n.toNat - 2) / 4) B.length (P ++ [k, n]) (Q ++ [k, n]) B r (by rw [hL]; simp) (by simp [hQ]) (by omega) (Nat.le_refl _)
    simp only [List.length_append, List.length_cons, List.length_nil, List.append_assoc, List.cons_append, List.nil_append] at h3
    exact h3
  rw [if_neg h5, if_neg h5]
/-- .. and of all places together: the bytes, turned (where each place may be) -/
theorem steps_do (L : List UInt8) (bl va ec : Nat) (st : List UInt8 → Nat × Nat → List UInt8)
    (hst : ∀ (P Q : List UInt8) (k n : UInt8) (B r : List UInt8), L = Q ++ (k :: n :: (B ++ r)) → Q.length = P.length → longB k.toNat n.toNat = true → B.length + 2 = n.toNat → st (P ++ (k :: n :: (B ++ r))) (P.length, n.toNat) = P ++ (k :: n :: (tb bl va ec k.toNat B ++ r))) :
    ∀ (f : Nat) (P Q S : List UInt8), L = Q ++ S → Q.length = P.length → (∀ p ∈ placesF f L P.length, p.2 ≠ 0) → (placesF f L P.length).foldl st (P ++ S) = P ++ turnF (tb bl va ec) f S := by
  intro f
  induction f with
  | zero => intro P Q S _ _ _; rfl
  | succ f ih =>
    intro P Q S hL hQ hok
    have hd : L.drop P.length = S := by rw [hL, ← hQ]; exact List.drop_left
    rw [placesF] at hok ⊢
    match S with
    | [] =>
      have : L.length ≤ P.length := List.drop_eq_nil_iff.1 hd
      rw [if_neg (fun h => by omega)]
      rfl
    | [k] =>
      have hk := byteN_drop hd
      have hl := drop_lt hd
      by_cases h0 : k.toNat = 0
      · rw [if_neg (fun h => h.2 (hk.trans h0)), turnF_zero _ _ _ h0]
        rfl
      rw [if_pos ⟨by omega, by rw [hk]; exact h0⟩] at hok ⊢
      by_cases h1 : k.toNat = 1
      · rw [if_pos (hk.trans h1)] at hok ⊢
        rw [turnF_one _ _ _ h1]
        have h3 := ih (P ++ [k]) (Q ++ [k]) [] (by rw [hL]; simp) (by simp [hQ]) (by simpa using hok)
        simp only [List.length_append, List.length_cons, List.length_nil, List.append_assoc, List.cons_append, List.nil_append] at h3
        exact h3
      rw [if_neg (by rw [hk]; exact h1)] at hok
      exact absurd (stepN_drop1 hd) (hok _ List.mem_cons_self)
    | k :: n :: b =>
      have hk := byteN_drop hd
      have hl := drop_lt hd
      by_cases h0 : k.toNat = 0
      · rw [if_neg (fun h => h.2 (hk.trans h0)), turnF_zero _ _ _ h0]
        rfl
      rw [if_pos ⟨by omega, by rw [hk]; exact h0⟩] at hok ⊢
      by_cases h1 : k.toNat = 1
      · rw [if_pos (hk.trans h1)] at hok ⊢
        rw [turnF_one _ _ _ h1]
        have h3 := ih (P ++ [k]) (Q ++ [k]) (n :: b) (by rw [hL]; simp) (by simp [hQ]) (by simpa using hok)
        simp only [List.length_append, List.length_cons, List.length_nil, List.append_assoc, List.cons_append, List.nil_append] at h3
        exact h3
      rw [if_neg (by rw [hk]; exact h1)] at hok ⊢
      have hs := stepN_drop2 hd
      by_cases hc : longB k.toNat n.toNat = true ∧ n.toNat ≤ b.length + 2
      · rw [if_pos hc] at hs
        have h2 := longB_two hc.1
        have hB := opt_body hc
        rw [hs, if_neg (by omega)] at hok ⊢
        rw [List.foldl_cons, turnF_opt _ _ h0 h1 hc]
        have hb := (List.take_append_drop (n.toNat - 2) b).symm
        generalize hB1 : b.take (n.toNat - 2) = B at *
        generalize hB2 : b.drop (n.toNat - 2) = r at *
        rw [hb] at hL ⊢
        rw [hst P Q k n B r hL hQ hc.1 hB]
        have htl := tb_len bl va ec k.toNat B (by rw [hB]; exact hc.1)
        have h3 := ih (P ++ (k :: n :: tb bl va ec k.toNat B)) (Q ++ (k :: n :: B)) r (by rw [hL]; simp) (by simp [hQ, htl]) (by
          intro p hp
          refine hok p (List.mem_cons_of_mem _ ?_)
          have e : (P ++ (k :: n :: tb bl va ec k.toNat B)).length = P.length + n.toNat := by
            simp only [List.length_append, List.length_cons, htl]
            omega
          rw [e] at hp
          exact hp)
        have e : (P ++ (k :: n :: tb bl va ec k.toNat B)).length = P.length + n.toNat := by
          simp only [List.length_append, List.length_cons, htl]
          omega
        rw [e] at h3
        simp only [List.append_assoc, List.cons_append] at h3
        exact h3
      · rw [if_neg hc] at hs
        exact absurd hs (hok _ List.mem_cons_self)
theorem stepsO (L : List UInt8) (bl va ec : Nat) (hok : ∀ p ∈ placesAt L 0, p.2 ≠ 0) : (placesAt L 0).foldl (stepO L bl va ec) L = turnT bl va ec L := by
  have := steps_do L bl va ec (stepO L bl va ec) (fun P Q k n B r h1 h2 h3 h4 => stepO_do L bl va ec P Q k n B r h1 h2 h3 h4) (L.length - 0 + 1) [] [] L rfl rfl hok
  exact this
/-- what is read has no place that may not be -/
theorem places_fine {L : List UInt8} {o : Op} (h : decL L = some o) : ∀ p ∈ placesAt L 0, p.2 ≠ 0 := by
  intro p hp h0
  obtain ⟨l1, l2, he⟩ := List.append_of_mem hp
  unfold decL at h
  rw [he] at h
  unfold foldD at h
  rw [List.foldlM_append] at h
  cases h1 : l1.foldlM (stepD L) (noneO, []) with
  | none => rw [h1] at h; simp at h
  | some s =>
    rw [h1] at h
    rw [show (some s >>= fun s => List.foldlM (stepD L) s (p :: l2)) = List.foldlM (stepD L) s (p :: l2) from rfl, List.foldlM_cons] at h
    have : stepD L s p = none := by unfold stepD; rw [if_pos (.inl h0)]
    rw [this] at h
    cases h
/-- words, each with a number of its own -/
def putsL (S : List UInt8) (f : Nat → Nat) : Nat → Nat → Nat → List UInt8 → List UInt8
  | 0, _, _, M => M
  | n + 1, j, k, M => putsL S f n (j + 1) (k + 4) (putL M k ((atL S k + f j) % 4294967296))
theorem putsL_words (S : List UInt8) (d : Nat) : ∀ (n j k : Nat) (M : List UInt8), putsL S (fun _ => d) n j k M = wordsT S d n k M := by
  intro n
  induction n with
  | zero => intro j k M; rfl
  | succ n ih => intro j k M; exact ih (j + 1) (k + 4) _
theorem stepO_time {L M : List UInt8} {bl va ec i m : Nat} (h : byteN L i = 8) : stepO L bl va ec M (i, m) = putsL L (fun j => if j = 0 then va else ec) 2 0 (i + 2) M := by
  unfold stepO
  simp only [h]
  rw [if_pos trivial]
  rfl
theorem stepO_blocks {L M : List UInt8} {bl va ec i m : Nat} (h : byteN L i = 5) : stepO L bl va ec M (i, m) = putsL L (fun _ => bl) ((m - 2) / 4) 0 (i + 2) M := by
  unfold stepO
  simp only [h]
  rw [if_neg (by decide), if_pos trivial, putsL_words]
theorem stepO_other {L M : List UInt8} {bl va ec i m : Nat} (h8 : byteN L i ≠ 8) (h5 : byteN L i ≠ 5) : stepO L bl va ec M (i, m) = M := by
  unfold stepO
  simp only []
  rw [if_neg h8, if_neg h5]
theorem wordsL_len (S : List UInt8) (d : Nat) : ∀ (n k : Nat) (M : List UInt8), k + 4 * n ≤ M.length → (wordsT S d n k M).length = M.length := by
  intro n
  induction n with
  | zero => intro k M _; rfl
  | succ n ih =>
    intro k M h
    have h1 : (putL M k ((atL S k + d) % 4294967296)).length = M.length := putL_len (by omega)
    rw [wordsT, ih _ _ (by rw [h1]; omega), h1]
theorem stepO_len {L M : List UInt8} (bl va ec : Nat) {p : Nat × Nat} (ok : OkP L p) (h0 : p.2 ≠ 0) (hM : M.length = L.length) : (stepO L bl va ec M p).length = L.length := by
  obtain ⟨i, m⟩ := p
  obtain ⟨q1, q2, q3, q4⟩ := ok
  dsimp only at q1 q2 q3 q4 h0
  obtain ⟨r1, r2, r3, r4, r5⟩ := stepN_pos (L := L) (i := i) (by rw [← q4]; exact h0)
  rw [← q4] at r3 r4 r5
  rw [← r4] at r2
  by_cases h8 : byteN L i = 8
  · rw [h8] at r2
    have hm : m = 10 := by simpa [longB] using r2
    unfold stepO
    simp only [h8]
    rw [if_pos trivial, putL_len, putL_len, hM]
    · omega
    · rw [putL_len] <;> omega
  by_cases h5 : byteN L i = 5
  · unfold stepO
    simp only [h5]
    rw [if_neg (by decide), if_pos trivial, wordsL_len, hM]
    omega
  rw [stepO_other h8 h5, hM]
theorem foldO_len {L : List UInt8} (bl va ec : Nat) : ∀ (l : List (Nat × Nat)) (M : List UInt8), (∀ p ∈ l, OkP L p ∧ p.2 ≠ 0) → M.length = L.length → (l.foldl (stepO L bl va ec) M).length = L.length := by
  intro l
  induction l with
  | nil => intro M _ h; exact h
  | cons p l ih =>
    intro M h hM
    rw [List.foldl_cons]
    exact ih _ (fun q hq => h q (List.mem_cons_of_mem _ hq)) (stepO_len bl va ec (h p List.mem_cons_self).1 (h p List.mem_cons_self).2 hM)
end Go.Proofs.Ytengegcnocdkoaa
end
