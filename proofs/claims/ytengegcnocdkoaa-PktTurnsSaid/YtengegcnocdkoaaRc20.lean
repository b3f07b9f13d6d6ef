/- Contracts and plain lemmas: PktRRew. -/
import Derived.Test.YtengegcnocdkoaaRc18
import Derived.Test.YtengegcnocdkoaaRc19
import Derived.Test.YtengegcnocdkoaaRc15
import Derived.Test.YtengegcnocdkoaaRc9
set_option linter.unusedVariables false
set_option linter.unusedSimpArgs false
set_option linter.unusedSectionVars false
section
set_option maxRecDepth 20000
namespace Go.Proofs.Ytengegcnocdkoaa
open Go.RowKit Go.BigFrame
theorem setRow_old (w : World) (z c : Array Value) (E : TypeId) (o : Obj) : ((w.alloc (.cells z E)).alloc o).setRow w.heap.size c = (w.alloc (.cells c E)).alloc o := by
  unfold World.setRow World.alloc
  congr 1
  apply Array.ext
  · simp
  · intro i h1 h2
    rw [Array.getElem_modify]
    by_cases hi : w.heap.size = i
    · subst hi
      simp [Array.getElem_push]
    · rw [if_neg hi]
      simp only [Array.getElem_push, Array.size_push]
      split
      · split <;> first | rfl | omega
      · rfl
section
variable {P : Program} {ops : Array Oper} {rest : List Oper} {op : Oper} {a : Act} {w : World} {Q : Exit → Act → World → Prop} {E : TypeId}
theorem wpl_put_old {x y : Operand} {z : Array Value} {o : Obj} {B : Nat} (ho : op.op = .store E x y) (hd : op.dst = none) (hgd : op.guard = none) (vs : Array Value) (hx : a.eval x = .pointer (some ⟨B, 0, none⟩)) (hB : B = w.heap.size) (hy : a.eval y = .agg vs)
    (hi : (P.info? E).map (·.size) = some vs.size) (hs : z.size = vs.size) (h1 : vs.all (·.oneCell') = true) (hn : wpList P ops Q rest a ((w.alloc (.cells vs E)).alloc o)) : wpList P ops Q (op :: rest) a ((w.alloc (.cells z E)).alloc o) := by
  subst hB
  refine wpl_put (Blk.alloc (Blk.new w E z) o) vs hi hs h1 hgd x y ho hd hx hy ?_
  rw [setRow_old]
  exact hn
theorem wpl_put_now {x y : Operand} {z : Array Value} {B : Nat} (ho : op.op = .store E x y) (hd : op.dst = none) (hgd : op.guard = none) (vs : Array Value) (hx : a.eval x = .pointer (some ⟨B, 0, none⟩)) (hB : B = w.heap.size) (hy : a.eval y = .agg vs)
    (hi : (P.info? E).map (·.size) = some vs.size) (hs : z.size = vs.size) (h1 : vs.all (·.oneCell') = true) (hn : wpList P ops Q rest a (w.alloc (.cells vs E))) : wpList P ops Q (op :: rest) a (w.alloc (.cells z E)) :=
  wpl_put_new hB vs hi hs h1 hgd x y ho hd hx hy hn
end
theorem Below.ofDrewN {w W : World} {n : Nat} (h : W = w.drewN n) : Below w.heap.size w W := by rw [h]; exact below_drewN (Below.refl _ _) n
theorem rturns_at (s : Nat) (x y : ByteArray) (o t : List UInt8) (hx : x.data.toList = o) (hy : y.data.toList = t) (hl : o.length = t.length) (hs : s < 65536) (hn : o.length ≤ 131072) (w : World) :
    Calls Try.prog 53 #[.int .u16 (s : Int), .string x, .string y] w fun e w' => e = .returned (.int .u16 ((sumT s o t : Nat) : Int)) ∧ Below w.heap.size w w' := by
  have ex : x.size = o.length := by rw [← hx]; rfl
  have ey : y.size = t.length := by rw [← hy]; rfl
  have h := ref_turns s x y hs (by omega) (by omega) w
  rw [hx, hy, ex, ey, hl, Nat.min_self, List.take_of_length_le (by omega), List.take_of_length_le (by omega)] at h
  exact h.mono fun e w' ⟨he, n, hw⟩ => ⟨he, Below.ofDrewN hw⟩
theorem sub_list (x : ByteArray) (L : List UInt8) (hL : x.data.toList = L) (i j : Nat) : (x.extract i j).data.toList = (L.drop i).take (j - i) := by rw [ext_list x L hL]
set_option maxHeartbeats 4000000 in
theorem rrew_any (x : ByteArray) (L : List UInt8) (hL : x.data.toList = L) (hx : L.length ≤ 4096) (sh : Sh) (hsh : sh.wf) (w : World) :
    Calls Try.prog 22 #[.string x, .agg sh.c] w fun e w' => e = .returned (.tuple #[.string (rewR L sh).1, .int .i64 (rewR L sh).2]) ∧ Below w.heap.size w w' := by
  have hd := fun W => rpdec_any x L hL (by omega) W
  have hh := fun W => heads_any x L hL (by omega) W
  have hb0 : Below w.heap.size w w := Below.refl _ _
  have HB := Lib.hid hb0
  clear hb0
  have Hd := Lib.hid hd
  clear hd
  have Hh := Lib.hid hh
  clear hh
  go_enter Try.func22, Try.ntmps22
  go_upto_region 1 with fail
  have hx := Blk.new w 46 sh.c
  have hB := HB.out.alloc HB.out.size (.cells sh.c 46)
  clear HB
  obtain ⟨gx, hge⟩ : ∃ g, g = w.heap.size := ⟨_, rfl⟩
  rw [← hge] at hx ⊢
  clear hge
  generalize w.alloc _ = w1 at *
  have Hx := Lib.hid hx
  clear hx
  have HB := Lib.hid hB
  clear hB
  go_wp2_with fail
  with_reducible refine (Hd.out _).mono ?_
  rintro e w2 ⟨s, A, c, code, rfl, hbl, hbq, hrc⟩
  have hx := Hx.out.below hbq Hx.out.lt
  clear Hx
  have Hx := Lib.hid hx
  clear hx
  have hB := HB.out.trans (hbq.mono HB.out.size)
  clear HB
  have HB := Lib.hid hB
  clear hB
  clear hbq
  go_upto_region 2 with (first | (refine wpl_put_new rfl (s.c A c) segI_ rfl (by kernel_rfl) rfl _ _ rfl rfl rfl rfl ?_))
  have hbl := BlR.below hbl ((Below.refl w2.heap.size w2).alloc (Nat.le_refl _) (.cells (s.c A c) 30))
  have hs := Blk.new w2 30 (s.c A c)
  have hx := Blk.alloc Hx.out (.cells (s.c A c) 30)
  clear Hx
  have hB := HB.out.alloc HB.out.size (.cells (s.c A c) 30)
  clear HB
  obtain ⟨gs, hge⟩ : ∃ g, g = w2.heap.size := ⟨_, rfl⟩
  rw [← hge] at hs ⊢
  clear hge
  generalize w2.alloc _ = w3 at *
  have Hx := Lib.hid hx
  clear hx
  have Hs := Lib.hid hs
  clear hs
  have HB := Lib.hid hB
  clear hB
  by_cases hc : code = 0
  · subst hc
    have hE : pdecE L = 0 := by rw [← pdecR_snd, ← hrc]
    obtain ⟨h40, h20, hob⟩ := fine40 hE
    have htn : s = sgL L := by have := hrc; unfold pdecR at this; rw [if_pos hE] at this; injection this
    have Hbl := Lib.hid hbl
    clear hbl
    have Hrc := Lib.hid hrc
    clear hrc
    have HE := Lib.hid hE
    clear hE
    have H40 := Lib.hid h40
    clear h40
    have H20 := Lib.hid h20
    clear h20
    have Hob := Lib.hid hob
    clear hob
    have Htn := Lib.hid htn
    clear htn
    go_wp2_with fail
    with_reducible refine (Hh.out _).mono ?_
    rintro e w4 ⟨h, t, dd, k, rfl, hbq, hf⟩
    have hbl4 := BlR.below Hbl.out hbq
    clear Hbl
    have Hbl4 := Lib.hid hbl4
    clear hbl4
    have hx := Hx.out.below hbq Hx.out.lt
    clear Hx
    have Hx := Lib.hid hx
    clear hx
    have hs := Hs.out.below hbq Hs.out.lt
    clear Hs
    have Hs := Lib.hid hs
    clear hs
    have hB := HB.out.trans (hbq.mono HB.out.size)
    clear HB
    have HB := Lib.hid hB
    clear hB
    clear hbq
    have htt : t = hT L := by
      by_cases hk : k = 0
      · exact (hf.ok hk).2.2.2.2.1
      · have h1 := hf.bad hk
        rw [← Hrc.out] at h1
        injection h1 with _ h1
        omega
    subst htt
    go_upto_region 5 with (first
      | (refine wpl_put_old (E := 63) rfl rfl rfl (ipC h) rfl rfl rfl ipI rfl (by kernel_rfl) ?_)
      | (refine wpl_put_now (E := 60) rfl rfl rfl (tcpC (hT L)) rfl (by simp) rfl tcpI rfl (by kernel_rfl) ?_))
    have hbl5 := BlR.below Hbl4.out (((Below.refl w4.heap.size w4).alloc (Nat.le_refl _) (.cells (ipC h) 63)).alloc (by simp) (.cells (tcpC (hT L)) 60))
    have hi := Blk.alloc (Blk.new w4 63 (ipC h)) (.cells (tcpC (hT L)) 60)
    have hj := Blk.new (w4.alloc (.cells (ipC h) 63)) 60 (tcpC (hT L))
    rw [show (w4.alloc (.cells (ipC h) 63)).heap.size = w4.heap.size + 1 by simp] at hj
    have hx := Blk.alloc (Blk.alloc (Hx.out) (.cells (ipC h) 63)) (.cells (tcpC (hT L)) 60)
    clear Hx
    have hs := Blk.alloc (Blk.alloc (Hs.out) (.cells (ipC h) 63)) (.cells (tcpC (hT L)) 60)
    clear Hs
    have hB := Below.alloc (Below.alloc (HB.out) (Nat.le_trans HB.out.size (by simp <;> omega)) (.cells (ipC h) 63)) (Nat.le_trans HB.out.size (by simp <;> omega)) (.cells (tcpC (hT L)) 60)
    clear HB
    obtain ⟨gj, hgej⟩ : ∃ g, g = w4.heap.size + 1 := ⟨_, rfl⟩
    rw [← hgej] at hj ⊢
    obtain ⟨gi, hgei⟩ : ∃ g, g = w4.heap.size := ⟨_, rfl⟩
    rw [← hgei] at hi ⊢
    have hne_i_j : gi ≠ gj := by omega
    have hle_i : w4.heap.size ≤ gi := by omega
    have hle_j : w4.heap.size ≤ gj := by omega
    clear hgei hgej
    generalize (w4.alloc _).alloc _ = wn3 at *
    have Hx := Lib.hid hx
    clear hx
    have Hs := Lib.hid hs
    clear hs
    have Hi := Lib.hid hi
    clear hi
    have Hj := Lib.hid hj
    clear hj
    have HB := Lib.hid hB
    clear hB
    obtain ⟨w5, hwnw5⟩ : ∃ W, W = wn3 := ⟨_, rfl⟩
    rw [← hwnw5] at Hx Hs Hi Hj HB hbl5 ⊢
    clear hwnw5
    clear Hbl4 hf hne_i_j hle_i hle_j
    have Hbl5 := Lib.hid hbl5
    clear hbl5
    -- region 5
    have hob2 : (hT L).opts.data.toList = oB L := rfl
    have hdo : (decR (oB L)).2 = 0 := (fine_of HE.out).o
    have hol : (oB L).length ≤ 40 := (decR_ok hdo).1
    obtain ⟨O, hO⟩ : ∃ O, O = (turnR sh.x5 sh.x6 sh.x7 (oB L)).1 := ⟨_, rfl⟩
    obtain ⟨oc, hoc⟩ : ∃ c, c = (turnR sh.x5 sh.x6 sh.x7 (oB L)).2 := ⟨_, rfl⟩
    have hOl : O.length = (oB L).length := by
      rw [hO]
      unfold turnR
      rw [if_pos hdo]
      exact turnL_len _ _ _ _
    have htu := fun W => rturn_any (hT L).opts (oB L) hob2 (by omega) sh.x5 sh.x6 sh.x7 hsh.b5 hsh.b6 hsh.b7 W
    unfold TurnPost at htu
    rw [← hO, ← hoc] at htu
    obtain ⟨os, hos⟩ : ∃ os, os = (hT L).opts := ⟨_, rfl⟩
    rw [← hos] at htu
    have k7 : w5.cell? ⟨gj, 7, none⟩ = some (.string os) := by rw [hos]; exact Hj.out.cell 7
    have j5 : w5.cell? ⟨gx, 5, none⟩ = some (.int .u32 (sh.x5 : Int)) := Hx.out.cell 5
    have j6 : w5.cell? ⟨gx, 6, none⟩ = some (.int .u32 (sh.x6 : Int)) := Hx.out.cell 6
    have j7 : w5.cell? ⟨gx, 7, none⟩ = some (.int .u32 (sh.x7 : Int)) := Hx.out.cell 7
    clear hos hob2
    have Htu := Lib.hid htu
    clear htu
    have HO := Lib.hid hO
    clear hO
    have Hoc := Lib.hid hoc
    clear hoc
    have HOl := Lib.hid hOl
    clear hOl
    have Hdo := Lib.hid hdo
    clear hdo
    have Hol := Lib.hid hol
    clear hol
    go_wp2_with fail
    with_reducible refine (Htu.out _).mono ?_
    rintro e w6 ⟨rfl, hbq⟩
    clear k7 j5 j6 j7
    have hbl6 := BlR.below Hbl5.out hbq
    clear Hbl5
    have Hbl6 := Lib.hid hbl6
    clear hbl6
    have hx := Hx.out.below hbq Hx.out.lt
    clear Hx
    have Hx := Lib.hid hx
    clear hx
    have hs := Hs.out.below hbq Hs.out.lt
    clear Hs
    have Hs := Lib.hid hs
    clear hs
    have hj := Hj.out.below hbq Hj.out.lt
    clear Hj
    have Hj := Lib.hid hj
    clear hj
    have hB := HB.out.trans (hbq.mono HB.out.size)
    clear HB
    have HB := Lib.hid hB
    clear hB
    clear hbq
    -- region 6
    go_upto_region 6 with fail
    have hpw := pdecR_wf L
    rw [← Hrc.out] at hpw
    have hsw : s.wf := hpw.1
    have hn : s.o.bl.length ≤ 1000 := Nat.le_trans hpw.2 (by decide)
    clear hpw
    have Hsw := Lib.hid hsw
    clear hsw
    have Hn := Lib.hid hn
    clear hn
    go_wp2_with (first | (refine wpl_load Hs.out segU segI rfl _ rfl rfl ?_) | (refine wpl_load Hx.out shU shI rfl _ rfl rfl ?_))
    with_reducible refine (rpturned_any _ s sh A c Hsw.out Hbl6.out Hn.out).mono ?_
    rintro e w7 ⟨A2, c2, rfl, hbl7, hbq⟩
    clear Hbl6
    have hx := Hx.out.below hbq Hx.out.lt
    clear Hx
    have Hx := Lib.hid hx
    clear hx
    have hs := Hs.out.below hbq Hs.out.lt
    clear Hs
    have Hs := Lib.hid hs
    clear hs
    have hj := Hj.out.below hbq Hj.out.lt
    clear Hj
    have Hj := Lib.hid hj
    clear hj
    have hB := HB.out.trans (hbq.mono HB.out.size)
    clear HB
    have HB := Lib.hid hB
    clear hB
    clear hbq
    clear Hx Hs Hj
    obtain ⟨t, htt⟩ : ∃ t, t = turnS s sh := ⟨_, rfl⟩
    rw [← htt] at hbl7 ⊢
    have htw : t.wf := by rw [htt]; exact turnS_wf Hsw.out hsh
    have hlaid := fun W => laid_any x L hL hx t htw A2 c2 ⟨O.toArray⟩ O rfl (by have := HOl.out; have := Hol.out; omega) (by have := HOl.out; have := H40.out; omega) W
    have Hlaid := Lib.hid hlaid
    clear hlaid
    have Htw := Lib.hid htw
    clear htw
    have Htt := Lib.hid htt
    clear htt
    go_wp2_with fail
    with_reducible refine (Hlaid.out _).mono ?_
    rintro e w8 ⟨rfl, hbq⟩
    have hB := HB.out.trans (hbq.mono HB.out.size)
    clear HB
    have HB := Lib.hid hB
    clear hB
    clear hbq
    -- what stands in x and in u
    obtain ⟨P, hP, hPL, hoff, ho4, hoB⟩ := fine_parts (fine_of HE.out)
    have hPO : P.o.length = O.length := by rw [HOl.out, ← hoB]
    have hU : laidL L t O = (P.mid t O).all := by rw [hPL]; exact laid_parts hP t hPO
    have hq := Pk.mid_ok hP t O
    obtain ⟨u, hu⟩ : ∃ u : ByteArray, u = ⟨(laidL L t O).toArray⟩ := ⟨_, rfl⟩
    rw [← hu]
    have huL : u.data.toList = (P.mid t O).all := by rw [hu, hU]
    have hlen : (P.mid t O).all.length = L.length := by
      rw [Pk.len hq, hPL, Pk.len hP]
      show 40 + O.length + P.r.length = _
      omega
    have hus : u.size = L.length := by rw [← hlen, ← huL]; rfl
    have hxs : x.size = L.length := by rw [← hL]; rfl
    have hxL : x.data.toList = P.all := by rw [hL, hPL]
    have hOs : (⟨O.toArray⟩ : ByteArray).size = O.length := by show O.toArray.size = _; simp
    have hfin : rewL L sh = (P.lay t O).all := by rw [rewL_parts hP hPL O HO.out hPO, ← Htn.out, Htt.out]
    have n40 := H40.out
    rw [← HOl.out] at n40
    have o40 : O.length ≤ 40 := by have := HOl.out; have := Hol.out; omega
    obtain ⟨m, hm⟩ : ∃ m, m = 40 + O.length := ⟨_, rfl⟩
    obtain ⟨v0, hv0⟩ : ∃ v, v = wd P.h := ⟨_, rfl⟩
    obtain ⟨v1, hv1⟩ : ∃ v, v = wd P.q := ⟨_, rfl⟩
    obtain ⟨y0, hy0⟩ : ∃ v, v = sumT v0 P.p (adr t) := ⟨_, rfl⟩
    obtain ⟨y1, hy1⟩ : ∃ v, v = sumT v1 (P.p ++ P.n) (adr t ++ nums t) := ⟨_, rfl⟩
    obtain ⟨y2, hy2⟩ : ∃ v, v = sumT y1 P.w (be2 t.s7) := ⟨_, rfl⟩
    obtain ⟨y3, hy3⟩ : ∃ v, v = sumT y2 P.o O := ⟨_, rfl⟩
    have l0 : v0 < 65536 := by rw [hv0]; have := wd_lt hP.h; omega
    have l1 : v1 < 65536 := by rw [hv1]; have := wd_lt hP.q; omega
    have ly0 : y0 < 65536 := by rw [hy0]; exact sumT_lt l0 _ _
    have ly1 : y1 < 65536 := by rw [hy1]; exact sumT_lt l1 _ _
    have ly2 : y2 < 65536 := by rw [hy2]; exact sumT_lt ly1 _ _
    have ly3 : y3 < 65536 := by rw [hy3]; exact sumT_lt ly2 _ _
    have e10 : (x.extract 10 12).data.toList = P.h := by rw [sub_list x _ hxL]; exact pk_12 hP
    have e36 : (x.extract 36 38).data.toList = P.q := by rw [sub_list x _ hxL]; exact pk_38 hP
    have e20 : (x.extract 12 20).data.toList = P.p := by rw [sub_list x _ hxL]; exact pk_20 hP
    have f20 : (u.extract 12 20).data.toList = adr t := by rw [sub_list u _ huL]; exact pk_20 hq
    have e32 : (x.extract 12 32).data.toList = P.p ++ P.n := by rw [sub_list x _ hxL]; exact pk_32 hP
    have f32 : (u.extract 12 32).data.toList = adr t ++ nums t := by rw [sub_list u _ huL]; exact pk_32 hq
    have e34 : (x.extract 34 36).data.toList = P.w := by rw [sub_list x _ hxL]; exact pk_36 hP
    have f34 : (u.extract 34 36).data.toList = be2 t.s7 := by rw [sub_list u _ huL]; exact pk_36 hq
    have e40 : (x.extract 40 m).data.toList = P.o := by rw [sub_list x _ hxL, hm, Nat.add_sub_cancel_left, ← hPO]; exact pk_40 hP
    have f40 : (u.extract 40 m).data.toList = O := by rw [sub_list u _ huL, hm, Nat.add_sub_cancel_left]; exact pk_40 hq
    have zx : ∀ i j, i ≤ j → j ≤ L.length → (x.extract i j).size = j - i := fun i j h1 h2 => by rw [ByteArray.size_extract]; omega
    have zu : ∀ i j, i ≤ j → j ≤ L.length → (u.extract i j).size = j - i := fun i j h1 h2 => by rw [ByteArray.size_extract]; omega
    have a10 := fun W => ref_num (x.extract 10 12) W (by rw [zx 10 12 (by omega) (by omega)]; decide)
    rw [e10, numL_two hP.h, ← hv0] at a10
    have a36 := fun W => ref_num (x.extract 36 38) W (by rw [zx 36 38 (by omega) (by omega)]; decide)
    rw [e36, numL_two hP.q, ← hv1] at a36
    have t0 := fun W => rturns_at v0 _ _ _ _ e20 f20 (by rw [hP.p, adr_len]) l0 (by rw [hP.p]; decide) W
    rw [← hy0] at t0
    have t1 := fun W => rturns_at v1 _ _ _ _ e32 f32 (by rw [List.length_append, List.length_append, hP.p, hP.n, adr_len, nums_len]) l1 (by rw [List.length_append, hP.p, hP.n]; decide) W
    rw [← hy1] at t1
    have t2 := fun W => rturns_at y1 _ _ _ _ e34 f34 (by rw [hP.w, be2_len]) ly1 (by rw [hP.w]; decide) W
    rw [← hy2] at t2
    have t3 := fun W => rturns_at y2 _ _ _ _ e40 f40 hPO ly2 (by omega) W
    rw [← hy3] at t3
    have b0 := fun W => ref_bytes y0 W ly0
    have b3 := fun W => ref_bytes y3 W ly3
    obtain ⟨H0, hH0⟩ : ∃ X : ByteArray, X = ⟨(be2 y0).toArray⟩ := ⟨_, rfl⟩
    obtain ⟨H3, hH3⟩ : ∃ X : ByteArray, X = ⟨(be2 y3).toArray⟩ := ⟨_, rfl⟩
    rw [← hH0] at b0
    rw [← hH3] at b3
    obtain ⟨R1, hR1⟩ : ∃ X : ByteArray, X = u.extract 0 10 ++ H0 := ⟨_, rfl⟩
    obtain ⟨R2, hR2⟩ : ∃ X : ByteArray, X = R1 ++ u.extract 12 36 := ⟨_, rfl⟩
    obtain ⟨R3, hR3⟩ : ∃ X : ByteArray, X = R2 ++ H3 := ⟨_, rfl⟩
    obtain ⟨R4, hR4⟩ : ∃ X : ByteArray, X = R3 ++ u.extract 38 u.size := ⟨_, rfl⟩
    have s0 : H0.size = 2 := by rw [hH0]; rfl
    have s3 : H3.size = 2 := by rw [hH3]; rfl
    have s1 : R1.size = 12 := by rw [hR1, ByteArray.size_append, zu 0 10 (by omega) (by omega), s0]
    have s2 : R2.size = 36 := by rw [hR2, ByteArray.size_append, zu 12 36 (by omega) (by omega), s1]
    have s4 : R3.size = 38 := by rw [hR3, ByteArray.size_append, s2, s3]
    have c1 : ∀ W, (Op.stringOp .add (u.extract 0 10) H0).run Try.prog W = .ok (.string R1) W := fun W => by rw [hR1]; exact cat_run _ _ (by rw [zu 0 10 (by omega) (by omega), s0]; omega) W
    have c2 : ∀ W, (Op.stringOp .add R1 (u.extract 12 36)).run Try.prog W = .ok (.string R2) W := fun W => by rw [hR2]; exact cat_run _ _ (by rw [zu 12 36 (by omega) (by omega), s1]; omega) W
    have c3 : ∀ W, (Op.stringOp .add R2 H3).run Try.prog W = .ok (.string R3) W := fun W => by rw [hR3]; exact cat_run _ _ (by rw [s2, s3]; omega) W
    have c4 : ∀ W, (Op.stringOp .add R3 (u.extract 38 u.size)).run Try.prog W = .ok (.string R4) W := fun W => by rw [hR4]; exact cat_run _ _ (by rw [hus, zu 38 _ (by omega) (by omega), s4]; omega) W
    have hR : rewR L sh = (R4, 0) := by
      unfold rewR
      rw [if_pos HE.out]
      have e : R4.data.toList = rewL L sh := by
        rw [hfin, ← rref_parts hP t hPO, ← hv0, ← hv1, ← hy0, ← hy1, ← hy2, ← hy3, hR4, hR3, hR2, hR1]
        simp only [cat_l]
        rw [sub_list u _ huL, sub_list u _ huL, sub_list u _ huL, hH0, hH3, hus, List.drop_zero, Nat.sub_zero]
        rw [show ((P.mid t O).all.drop 38).take (L.length - 38) = (P.mid t O).all.drop 38 from List.take_of_length_le (by rw [List.length_drop, hlen]; omega)]
      rw [← e]
    have w0 : IntKind.u16.wrap (v0 : Int) = (v0 : Int) := by rw [IntKind.wrap_u16]; omega
    have w1_ : IntKind.u16.wrap (v1 : Int) = (v1 : Int) := by rw [IntKind.wrap_u16]; omega
    have i0 : (40 : Int) + ((⟨O.toArray⟩ : ByteArray).size : Int) = (m : Int) := by rw [hOs]; omega
    have ix12 : (12 : Int) ≤ (x.size : Int) := by omega
    have ix20 : (20 : Int) ≤ (x.size : Int) := by omega
    have ix32 : (32 : Int) ≤ (x.size : Int) := by omega
    have ix36 : (36 : Int) ≤ (x.size : Int) := by omega
    have ix38 : (38 : Int) ≤ (x.size : Int) := by omega
    have iu12 : (12 : Int) ≤ (u.size : Int) := by omega
    have iu20 : (20 : Int) ≤ (u.size : Int) := by omega
    have iu32 : (32 : Int) ≤ (u.size : Int) := by omega
    have iu36 : (36 : Int) ≤ (u.size : Int) := by omega
    have iu38 : (38 : Int) ≤ (u.size : Int) := by omega
    have iu10 : (10 : Int) ≤ (u.size : Int) := by omega
    have i3 : (m : Int) ≤ (x.size : Int) := by omega
    have i4 : (m : Int) ≤ (u.size : Int) := by omega
    have i5 : (40 : Int) ≤ (m : Int) := by omega
    have im : ((m : Int)).toNat = m := rfl
    have wm : wrap64 (m : Int) = (m : Int) := by unfold wrap64; omega
    generalize hOO : (⟨O.toArray⟩ : ByteArray) = OO at *
    clear e10 e36 e20 f20 e32 f32 e34 f34 e40 f40 zx zu hy0 hy1 hy2 hy3 hv0 hv1 hH0 hH3 hR1 hR2 hR3 hR4 s0 s1 s2 s3 s4 hfin hU hu huL hlen hus hxs hxL hOs hPO hq hP hPL hoff ho4 hoB l0 l1 ly0 ly1 ly2 ly3 n40 o40 hm hOO
    clear HO Hoc HOl Hdo Hol Hrc HE H40 H20 Hob Htn Hsw Hn Htw Htt Hlaid Htu Hh Hd hbl7
    have cfn : ∀ (vals : Array Value) (w : World), (callFunc 54 vals).run Try.prog w = .ok (.enter 54 vals) w := fun _ _ => by kernel_rfl
    have cft : ∀ (vals : Array Value) (w : World), (callFunc 53 vals).run Try.prog w = .ok (.enter 53 vals) w := fun _ _ => by kernel_rfl
    have cfb : ∀ (vals : Array Value) (w : World), (callFunc 55 vals).run Try.prog w = .ok (.enter 55 vals) w := fun _ _ => by kernel_rfl
    have A10 := Lib.hid a10
    clear a10
    have A36 := Lib.hid a36
    clear a36
    have T0 := Lib.hid t0
    clear t0
    have T1 := Lib.hid t1
    clear t1
    have T2 := Lib.hid t2
    clear t2
    have T3 := Lib.hid t3
    clear t3
    have B0 := Lib.hid b0
    clear b0
    have B3 := Lib.hid b3
    clear b3
    have Cfn := Lib.hid cfn
    clear cfn
    have Cft := Lib.hid cft
    clear cft
    have Cfb := Lib.hid cfb
    clear cfb
    have HR := Lib.hid hR
    clear hR
    -- region 7
    go_upto_region 7 with fail
    have hS0 : Fresh w8 w8 := Below.refl _ _
    have ne : Nonempty (Cls (Fresh w8)) := ⟨⟨w8, hS0⟩⟩
    have kA10 : ∀ y : Cls (Fresh w8), Calls Try.prog 54 #[.string (x.extract 10 12)] y.w fun e w'' => e = .returned (.int .u32 (v0 : Int)) ∧ Fresh w8 w'' ∧ Below y.w.heap.size y.w w'' := fun y => (A10.out y.w).mono fun e w' ⟨he, hb⟩ => ⟨he, hb ▸ y.h, hb ▸ Below.refl _ _⟩
    have kT0 : ∀ y : Cls (Fresh w8), Calls Try.prog 53 #[.int .u16 (v0 : Int), .string (x.extract 12 20), .string (u.extract 12 20)] y.w fun e w'' => e = .returned (.int .u16 (y0 : Int)) ∧ Fresh w8 w'' ∧ Below y.w.heap.size y.w w'' := fun y => (T0.out y.w).mono fun e w' ⟨he, hb⟩ => ⟨he, Fresh.below y.h hb, hb⟩
    have KA10 := Lib.hid kA10
    clear kA10
    have KT0 := Lib.hid kT0
    clear kT0
    refine wp_region_flow 10 (Fresh w8) (fun w w' => Below w.heap.size w w') (by kernel_rfl) (by kernel_rfl) (by kernel_rfl) (fun w => Below.refl _ _) (Fresh.below hS0 (Below.drew (Below.refl _ _))) ?_
    simp only [List.take_succ_cons, List.take_zero, List.drop_succ_cons, List.drop_zero]
    repeat (first
      | (refine flow_quiet (fun w => Below.refl _ _) rfl rfl rfl rfl ?_; intro K hK; go_big_quiet_op; go_big_quiet_on)
      | (refine flow_call Cfn.out _ ?_ rfl rfl rfl _ KA10.out w8 ?_; (focus (simp only [List.map_toArray, List.map_cons, List.map_nil]; rfl)); intro K hK; go_big_quiet_op; go_big_quiet_on)
      | (refine flow_call Cft.out _ ?_ rfl rfl rfl _ KT0.out w8 ?_; (focus (simp only [List.map_toArray, List.map_cons, List.map_nil]; rfl)); intro K hK; go_big_quiet_op; go_big_quiet_on))
    refine flow_nil ?_
    intro W9 f hW hF
    simp only [fillW, Act.put, List.setIfInBounds_toArray, List.set_cons_succ, List.set_cons_zero]
    clear KA10 KT0 ne hF f
    have hW : Below w8.heap.size w8 W9 := hW
    have hB := HB.out.trans (hW.mono HB.out.size)
    clear HB
    have HB := Lib.hid hB
    clear hB
    clear hW hS0
    -- region 8
    go_upto_region 8 with fail
    have hS0 : Fresh W9 W9 := Below.refl _ _
    have ne : Nonempty (Cls (Fresh W9)) := ⟨⟨W9, hS0⟩⟩
    have kA36 : ∀ y : Cls (Fresh W9), Calls Try.prog 54 #[.string (x.extract 36 38)] y.w fun e w'' => e = .returned (.int .u32 (v1 : Int)) ∧ Fresh W9 w'' ∧ Below y.w.heap.size y.w w'' := fun y => (A36.out y.w).mono fun e w' ⟨he, hb⟩ => ⟨he, hb ▸ y.h, hb ▸ Below.refl _ _⟩
    have kT1 : ∀ y : Cls (Fresh W9), Calls Try.prog 53 #[.int .u16 (v1 : Int), .string (x.extract 12 32), .string (u.extract 12 32)] y.w fun e w'' => e = .returned (.int .u16 (y1 : Int)) ∧ Fresh W9 w'' ∧ Below y.w.heap.size y.w w'' := fun y => (T1.out y.w).mono fun e w' ⟨he, hb⟩ => ⟨he, Fresh.below y.h hb, hb⟩
    have KA36 := Lib.hid kA36
    clear kA36
    have KT1 := Lib.hid kT1
    clear kT1
    refine wp_region_flow 10 (Fresh W9) (fun w w' => Below w.heap.size w w') (by kernel_rfl) (by kernel_rfl) (by kernel_rfl) (fun w => Below.refl _ _) (Fresh.below hS0 (Below.drew (Below.refl _ _))) ?_
    simp only [List.take_succ_cons, List.take_zero, List.drop_succ_cons, List.drop_zero]
    repeat (first
      | (refine flow_quiet (fun w => Below.refl _ _) rfl rfl rfl rfl ?_; intro K hK; go_big_quiet_op; go_big_quiet_on)
      | (refine flow_call Cfn.out _ ?_ rfl rfl rfl _ KA36.out W9 ?_; (focus (simp only [List.map_toArray, List.map_cons, List.map_nil]; rfl)); intro K hK; go_big_quiet_op; go_big_quiet_on)
      | (refine flow_call Cft.out _ ?_ rfl rfl rfl _ KT1.out W9 ?_; (focus (simp only [List.map_toArray, List.map_cons, List.map_nil]; rfl)); intro K hK; go_big_quiet_op; go_big_quiet_on))
    refine flow_nil ?_
    intro W10 f hW hF
    simp only [fillW, Act.put, List.setIfInBounds_toArray, List.set_cons_succ, List.set_cons_zero]
    clear KA36 KT1 ne hF f
    have hW : Below W9.heap.size W9 W10 := hW
    have hB := HB.out.trans (hW.mono HB.out.size)
    clear HB
    have HB := Lib.hid hB
    clear hB
    clear hW hS0
    -- region 9
    go_upto_region 9 with fail
    have hS0 : Fresh W10 W10 := Below.refl _ _
    have ne : Nonempty (Cls (Fresh W10)) := ⟨⟨W10, hS0⟩⟩
    have kT2 : ∀ y : Cls (Fresh W10), Calls Try.prog 53 #[.int .u16 (y1 : Int), .string (x.extract 34 36), .string (u.extract 34 36)] y.w fun e w'' => e = .returned (.int .u16 (y2 : Int)) ∧ Fresh W10 w'' ∧ Below y.w.heap.size y.w w'' := fun y => (T2.out y.w).mono fun e w' ⟨he, hb⟩ => ⟨he, Fresh.below y.h hb, hb⟩
    have KT2 := Lib.hid kT2
    clear kT2
    refine wp_region_flow 7 (Fresh W10) (fun w w' => Below w.heap.size w w') (by kernel_rfl) (by kernel_rfl) (by kernel_rfl) (fun w => Below.refl _ _) (Fresh.below hS0 (Below.drew (Below.refl _ _))) ?_
    simp only [List.take_succ_cons, List.take_zero, List.drop_succ_cons, List.drop_zero]
    repeat (first
      | (refine flow_quiet (fun w => Below.refl _ _) rfl rfl rfl rfl ?_; intro K hK; go_big_quiet_op; go_big_quiet_on)
      | (refine flow_call Cft.out _ ?_ rfl rfl rfl _ KT2.out W10 ?_; (focus (simp only [List.map_toArray, List.map_cons, List.map_nil]; rfl)); intro K hK; go_big_quiet_op; go_big_quiet_on))
    refine flow_nil ?_
    intro W11 f hW hF
    simp only [fillW, Act.put, List.setIfInBounds_toArray, List.set_cons_succ, List.set_cons_zero]
    clear KT2 ne hF f
    have hW : Below W10.heap.size W10 W11 := hW
    have hB := HB.out.trans (hW.mono HB.out.size)
    clear HB
    have HB := Lib.hid hB
    clear hB
    clear hW hS0
    -- region 10
    go_upto_region 10 with fail
    have hS0 : Fresh W11 W11 := Below.refl _ _
    have ne : Nonempty (Cls (Fresh W11)) := ⟨⟨W11, hS0⟩⟩
    have kT3 : ∀ y : Cls (Fresh W11), Calls Try.prog 53 #[.int .u16 (y2 : Int), .string (x.extract 40 m), .string (u.extract 40 m)] y.w fun e w'' => e = .returned (.int .u16 (y3 : Int)) ∧ Fresh W11 w'' ∧ Below y.w.heap.size y.w w'' := fun y => (T3.out y.w).mono fun e w' ⟨he, hb⟩ => ⟨he, Fresh.below y.h hb, hb⟩
    have KT3 := Lib.hid kT3
    clear kT3
    refine wp_region_flow 13 (Fresh W11) (fun w w' => Below w.heap.size w w') (by kernel_rfl) (by kernel_rfl) (by kernel_rfl) (fun w => Below.refl _ _) (Fresh.below hS0 (Below.drew (Below.refl _ _))) ?_
    simp only [List.take_succ_cons, List.take_zero, List.drop_succ_cons, List.drop_zero]
    repeat (first
      | (refine flow_quiet (fun w => Below.refl _ _) rfl rfl rfl rfl ?_; intro K hK; go_big_quiet_op; go_big_quiet_on)
      | (refine flow_call Cft.out _ ?_ rfl rfl rfl _ KT3.out W11 ?_; (focus (simp only [List.map_toArray, List.map_cons, List.map_nil]; rfl)); intro K hK; go_big_quiet_op; go_big_quiet_on))
    refine flow_nil ?_
    intro W12 f hW hF
    simp only [fillW, Act.put, List.setIfInBounds_toArray, List.set_cons_succ, List.set_cons_zero]
    clear KT3 ne hF f
    have hW : Below W11.heap.size W11 W12 := hW
    have hB := HB.out.trans (hW.mono HB.out.size)
    clear HB
    have HB := Lib.hid hB
    clear hB
    clear hW hS0
    -- region 11
    go_upto_region 11 with fail
    have hS0 : Fresh W12 W12 := Below.refl _ _
    have ne : Nonempty (Cls (Fresh W12)) := ⟨⟨W12, hS0⟩⟩
    have kB0 : ∀ y : Cls (Fresh W12), Calls Try.prog 55 #[.int .u16 (y0 : Int)] y.w fun e w'' => e = .returned (.string H0) ∧ Fresh W12 w'' ∧ Below y.w.heap.size y.w w'' := fun y => (B0.out y.w).mono fun e w' ⟨he, hb⟩ => ⟨he, Fresh.below y.h hb, hb⟩
    have kB3 : ∀ y : Cls (Fresh W12), Calls Try.prog 55 #[.int .u16 (y3 : Int)] y.w fun e w'' => e = .returned (.string H3) ∧ Fresh W12 w'' ∧ Below y.w.heap.size y.w w'' := fun y => (B3.out y.w).mono fun e w' ⟨he, hb⟩ => ⟨he, Fresh.below y.h hb, hb⟩
    have KB0 := Lib.hid kB0
    clear kB0
    have KB3 := Lib.hid kB3
    clear kB3
    refine wp_region_flow 16 (Fresh W12) (fun w w' => Below w.heap.size w w') (by kernel_rfl) (by kernel_rfl) (by kernel_rfl) (fun w => Below.refl _ _) (Fresh.below hS0 (Below.drew (Below.refl _ _))) ?_
    simp only [List.take_succ_cons, List.take_zero, List.drop_succ_cons, List.drop_zero]
    repeat (first
      | (refine flow_quiet (fun w => Below.refl _ _) rfl rfl rfl rfl ?_; intro K hK; go_big_quiet_op; go_big_quiet_on)
      | (refine flow_call Cfb.out _ ?_ rfl rfl rfl _ KB0.out W12 ?_; (focus (simp only [List.map_toArray, List.map_cons, List.map_nil]; rfl)); intro K hK; go_big_quiet_op; go_big_quiet_on)
      | (refine flow_call Cfb.out _ ?_ rfl rfl rfl _ KB3.out W12 ?_; (focus (simp only [List.map_toArray, List.map_cons, List.map_nil]; rfl)); intro K hK; go_big_quiet_op; go_big_quiet_on))
    refine flow_nil ?_
    intro W13 f hW hF
    simp only [fillW, Act.put, List.setIfInBounds_toArray, List.set_cons_succ, List.set_cons_zero]
    clear KB0 KB3 ne hF f
    have hW : Below W12.heap.size W12 W13 := hW
    have hB := HB.out.trans (hW.mono HB.out.size)
    clear HB
    have HB := Lib.hid hB
    clear hB
    clear hW hS0
    go_wp2
    go_ret2
    refine ⟨?_, HB.out⟩
    rw [HR.out]
    rfl
  · go_wp2
    go_ret2
    rw [rew_bad hrc hc]
    exact ⟨rfl, HB.out⟩
end Go.Proofs.Ytengegcnocdkoaa
end
