/- Contracts and plain lemmas: PktRDec. -/
import Derived.Test.YtengegcnocdkoaaRc18
import Derived.Test.YtengegcnocdkoaaRc14
import Derived.Test.YtengegcnocdkoaaRc12
set_option linter.unusedVariables false
set_option linter.unusedSimpArgs false
set_option linter.unusedSectionVars false
section
set_option maxRecDepth 20000
namespace Go.Proofs.Ytengegcnocdkoaa
open Go.RowKit Go.BigFrame
theorem setRow_new2 (w : World) (z c : Array Value) (E : TypeId) (o : Obj) : ((w.alloc (.cells z E)).alloc o).setRow w.heap.size c = (w.alloc (.cells c E)).alloc o := by
  unfold World.setRow World.alloc
  congr 1
  apply Array.ext
  · simp
  · intro i h1 h2
    rw [Array.getElem_modify]
    by_cases hi : w.heap.size = i
    · subst hi
      simp [Array.getElem_push]
    · rw [if_neg hi]
      simp only [Array.getElem_push, Array.size_push]
      split
      · split
        · rfl
        · exfalso; omega
      · rfl
theorem wpl_put_new2 {P : Program} {ops : Array Oper} {rest : List Oper} {op : Oper} {a : Act} {w : World} {Q : Exit → Act → World → Prop} {E : TypeId} {z : Array Value} {o : Obj} {B : Nat} (hB : B = w.heap.size) (vs : Array Value) (hi : (P.info? E).map (·.size) = some vs.size) (hs : z.size = vs.size) (h1 : vs.all (·.oneCell') = true)
    (hgd : op.guard = none) (x y : Operand) (ho : op.op = .store E x y) (hd : op.dst = none) (hx : a.eval x = .pointer (some ⟨B, 0, none⟩)) (hy : a.eval y = .agg vs) (hn : wpList P ops Q rest a ((w.alloc (.cells vs E)).alloc o)) : wpList P ops Q (op :: rest) a ((w.alloc (.cells z E)).alloc o) := by
  subst hB
  refine wpl_put (Blk.alloc (Blk.new w E z) o) vs hi hs h1 hgd x y ho hd hx hy ?_
  rw [setRow_new2]
  exact hn
section
variable {L : List UInt8} {h : I.IPh} {t : T.TCPh} {dd : ByteArray} {k : Nat} (p : HF L h t dd k)
include p
theorem HF.opt (hk : k = 0) (r : Op) (code : Int) (hr : (r, code) = decR t.opts.data.toList) (hc : code ≠ 0) : pdecR L = (zeroSg, code) := by
  obtain ⟨a, b, c, rfl, rfl, rfl⟩ := p.ok hk
  have h3 : (decR (oB L)).2 = code := by unfold oB; rw [← hr]
  rw [pdec_o a b c (by rw [h3]; exact hc), h3]
theorem HF.flags (hk : k = 0) (r : Op) (hr : (r, (0 : Int)) = decR t.opts.data.toList) (hf : flagsB t.flags.toNat = false) : pdecR L = (zeroSg, 81) := by
  obtain ⟨a, b, c, rfl, rfl, rfl⟩ := p.ok hk
  have h3 : (decR (oB L)).2 = 0 := by unfold oB; rw [← hr]
  exact pdec_f a b c h3 hf
theorem HF.long (hk : k = 0) (r : Op) (hr : (r, (0 : Int)) = decR t.opts.data.toList) (hf : flagsB t.flags.toNat = true) (hd : 1460 < dd.size) : pdecR L = (zeroSg, 4) := by
  obtain ⟨a, b, c, rfl, rfl, rfl⟩ := p.ok hk
  have h3 : (decR (oB L)).2 = 0 := by unfold oB; rw [← hr]
  exact pdec_d a b c h3 hf hd
theorem HF.fine (hk : k = 0) (r : Op) (hr : (r, (0 : Int)) = decR t.opts.data.toList) (hf : flagsB t.flags.toNat = true) (hd : dd.size ≤ 1460) :
    pdecR L = (⟨h.src, t.src, h.dst, t.dst, t.seq, t.ack, t.flags.toNat, t.window, r, dd⟩, 0) := by
  obtain ⟨a, b, c, rfl, rfl, rfl⟩ := p.ok hk
  have h3 : (decR (oB L)).2 = 0 := by unfold oB; rw [← hr]
  have h4 : (decR (oB L)).1 = r := by unfold oB; rw [← hr]
  rw [pdec_ok a b c h3 hf hd]
  unfold sgL
  rw [h4]
end
set_option maxHeartbeats 4000000 in
theorem rpdec_any (x : ByteArray) (L : List UInt8) (hL : x.data.toList = L) (hx : L.length ≤ 131072) (w : World) : Calls Try.prog 20 #[.string x] w (PDecPost w L) := by
  have hb0 : Below w.heap.size w w := Below.refl _ _
  have HB := Lib.hid hb0
  clear hb0
  have hdh := fun W => heads_any x L hL hx W
  have hxl := hx
  have Hdh := Lib.hid hdh
  clear hdh
  have Hxl := Lib.hid hxl
  clear hxl
  clear hx hL
  go_enter Try.func20, Try.ntmps20
  go_upto_region 1 with fail
  have hr := Blk.new w 30 #[.int .u32 0, .int .u16 0, .int .u32 0, .int .u16 0, .int .u32 0, .int .u32 0, .int .u8 0, .int .u16 0, .int .u16 0, .int .i64 0, .bool false, .slice none 0 0, .bool false, .int .u32 0, .int .u32 0, .string ⟨#[]⟩]
  have hB := HB.out.alloc HB.out.size (.cells #[.int .u32 0, .int .u16 0, .int .u32 0, .int .u16 0, .int .u32 0, .int .u32 0, .int .u8 0, .int .u16 0, .int .u16 0, .int .i64 0, .bool false, .slice none 0 0, .bool false, .int .u32 0, .int .u32 0, .string ⟨#[]⟩] 30)
  clear HB
  obtain ⟨gr, hge⟩ : ∃ g, g = w.heap.size := ⟨_, rfl⟩
  rw [← hge] at hr ⊢
  have hle_r : w.heap.size ≤ gr := by omega
  clear hge
  generalize w.alloc _ = w1 at *
  have Hr := Lib.hid hr
  clear hr
  have HB := Lib.hid hB
  clear hB
  go_wp2_with fail
  with_reducible refine (Hdh.out _).mono ?_
  rintro e w2 ⟨h, t, dd, k, rfl, hbq, hp⟩
  have hr := Hr.out.below hbq Hr.out.lt
  clear Hr
  have Hr := Lib.hid hr
  clear hr
  have hB := HB.out.trans (hbq.mono HB.out.size)
  clear HB
  have HB := Lib.hid hB
  clear hB
  clear hbq
  have hdd : dd.size ≤ 131072 := by have := hp.dd; have := Hxl.out; omega
  have hdo := fun W => rdec_any t.opts W
  have hfl := fun W => rflags_any t.flags.toNat t.flags.toNat_lt W
  have e1 := hp.bad
  have e4 := HF.opt hp
  have e5 := HF.flags hp
  have e6 := HF.long hp
  have e7 := HF.fine hp
  clear hp
  unfold ipC tcpC
  generalize h.src = a0 at *
  generalize h.dst = a1 at *
  generalize h.proto.toNat = a2 at *
  generalize h.ttl.toNat = a3 at *
  generalize h.tos.toNat = a4 at *
  generalize h.id = a5 at *
  generalize h.df = a6 at *
  generalize t.src = b0 at *
  generalize t.dst = b1 at *
  generalize t.seq = b2 at *
  generalize t.ack = b3 at *
  generalize t.flags.toNat = b4 at *
  generalize t.window = b5 at *
  generalize t.urgent = b6 at *
  generalize t.opts = ob at *
  generalize flagsB b4 = fb at *
  have Hdo := Lib.hid hdo
  clear hdo
  have Hfl := Lib.hid hfl
  clear hfl
  have E1 := Lib.hid e1
  clear e1
  have E4 := Lib.hid e4
  clear e4
  have E5 := Lib.hid e5
  clear e5
  have E6 := Lib.hid e6
  clear e6
  have E7 := Lib.hid e7
  clear e7
  go_upto_region 2 with (first | (refine wpl_put_new2 rfl #[.int .u32 (a0 : Int), .int .u32 (a1 : Int), .int .u8 (a2 : Int), .int .u8 (a3 : Int), .int .u8 (a4 : Int), .int .u16 (a5 : Int), .bool a6] ipI rfl (by kernel_rfl) rfl _ _ rfl rfl rfl rfl ?_) | (refine wpl_put_new (by simp) #[.int .u16 (b0 : Int), .int .u16 (b1 : Int), .int .u32 (b2 : Int), .int .u32 (b3 : Int), .int .u8 (b4 : Int), .int .u16 (b5 : Int), .int .u16 (b6 : Int), .string ob] tcpI rfl (by kernel_rfl) rfl _ _ rfl rfl rfl rfl ?_))
  have hh := Blk.alloc (Blk.new w2 63 #[.int .u32 (a0 : Int), .int .u32 (a1 : Int), .int .u8 (a2 : Int), .int .u8 (a3 : Int), .int .u8 (a4 : Int), .int .u16 (a5 : Int), .bool a6]) (.cells #[.int .u16 (b0 : Int), .int .u16 (b1 : Int), .int .u32 (b2 : Int), .int .u32 (b3 : Int), .int .u8 (b4 : Int), .int .u16 (b5 : Int), .int .u16 (b6 : Int), .string ob] 60)
  have ht := Blk.new (w2.alloc (.cells #[.int .u32 (a0 : Int), .int .u32 (a1 : Int), .int .u8 (a2 : Int), .int .u8 (a3 : Int), .int .u8 (a4 : Int), .int .u16 (a5 : Int), .bool a6] 63)) 60 #[.int .u16 (b0 : Int), .int .u16 (b1 : Int), .int .u32 (b2 : Int), .int .u32 (b3 : Int), .int .u8 (b4 : Int), .int .u16 (b5 : Int), .int .u16 (b6 : Int), .string ob]
  rw [show (w2.alloc (.cells #[.int .u32 (a0 : Int), .int .u32 (a1 : Int), .int .u8 (a2 : Int), .int .u8 (a3 : Int), .int .u8 (a4 : Int), .int .u16 (a5 : Int), .bool a6] 63)).heap.size = w2.heap.size + 1 by simp] at ht
  have hr := Blk.alloc (Blk.alloc (Hr.out) (.cells #[.int .u32 (a0 : Int), .int .u32 (a1 : Int), .int .u8 (a2 : Int), .int .u8 (a3 : Int), .int .u8 (a4 : Int), .int .u16 (a5 : Int), .bool a6] 63)) (.cells #[.int .u16 (b0 : Int), .int .u16 (b1 : Int), .int .u32 (b2 : Int), .int .u32 (b3 : Int), .int .u8 (b4 : Int), .int .u16 (b5 : Int), .int .u16 (b6 : Int), .string ob] 60)
  clear Hr
  have hB := Below.alloc (Below.alloc (HB.out) (Nat.le_trans HB.out.size (by simp <;> omega)) (.cells #[.int .u32 (a0 : Int), .int .u32 (a1 : Int), .int .u8 (a2 : Int), .int .u8 (a3 : Int), .int .u8 (a4 : Int), .int .u16 (a5 : Int), .bool a6] 63)) (Nat.le_trans HB.out.size (by simp <;> omega)) (.cells #[.int .u16 (b0 : Int), .int .u16 (b1 : Int), .int .u32 (b2 : Int), .int .u32 (b3 : Int), .int .u8 (b4 : Int), .int .u16 (b5 : Int), .int .u16 (b6 : Int), .string ob] 60)
  clear HB
  obtain ⟨gt, hget⟩ : ∃ g, g = w2.heap.size + 1 := ⟨_, rfl⟩
  rw [← hget] at ht ⊢
  obtain ⟨gh, hgeh⟩ : ∃ g, g = w2.heap.size := ⟨_, rfl⟩
  rw [← hgeh] at hh ⊢
  have hne_h_t : gh ≠ gt := by omega
  have hle_h : w2.heap.size ≤ gh := by omega
  have hle_t : w2.heap.size ≤ gt := by omega
  clear hgeh hget
  generalize (w2.alloc _).alloc _ = wn2 at *
  have Hr := Lib.hid hr
  clear hr
  have Hh := Lib.hid hh
  clear hh
  have Ht := Lib.hid ht
  clear ht
  have HB := Lib.hid hB
  clear hB
  obtain ⟨w3, hwnw3⟩ : ∃ W, W = wn2 := ⟨_, rfl⟩
  rw [← hwnw3] at Hr Hh Ht HB ⊢
  clear hwnw3
  by_cases hk : k = 0
  · subst hk
    have d0 := Ht.out.cell 0
    have d1 := Ht.out.cell 1
    have d2 := Ht.out.cell 2
    have d3 := Ht.out.cell 3
    have d4 := Ht.out.cell 4
    have d5 := Ht.out.cell 5
    have d6 := Ht.out.cell 6
    have d7 := Ht.out.cell 7
    simp at d0 d1 d2 d3 d4 d5 d6 d7
    go_wp2_with fail
    have hgr : gr < w3.heap.size := Hr.out.lt
    with_reducible refine (Hdo.out _).mono ?_
    rintro e w6 ⟨r, A, c, code, rfl, ⟨hbl, hna⟩, hbq, hrc⟩
    have hnb : ∀ ad, A = some ad → ad.block ≠ gr := fun ad h => by have := hna ad h; omega
    clear hna hgr
    have hr := Hr.out.below hbq Hr.out.lt
    clear Hr
    have Hr := Lib.hid hr
    clear hr
    have hh := Hh.out.below hbq Hh.out.lt
    clear Hh
    have Hh := Lib.hid hh
    clear hh
    have ht := Ht.out.below hbq Ht.out.lt
    clear Ht
    have Ht := Lib.hid ht
    clear ht
    have hB := HB.out.trans (hbq.mono HB.out.size)
    clear HB
    have HB := Lib.hid hB
    clear hB
    clear hbq
    clear d0 d1 d2 d3 d4 d5 d6 d7
    have hsc : (⟨a0, b0, a1, b1, b2, b3, b4, b5, r, dd⟩ : Sg).c A c = #[.int .u32 (a0 : Int), .int .u16 (b0 : Int), .int .u32 (a1 : Int), .int .u16 (b1 : Int), .int .u32 (b2 : Int), .int .u32 (b3 : Int), .int .u8 (b4 : Int), .int .u16 (b5 : Int), .int .u16 (r.mss : Int), .int .i64 r.scale, .bool r.sack, .slice A r.bl.length c, .bool r.time, .int .u32 (r.val : Int), .int .u32 (r.echo : Int), .string dd] := rfl
    have hoc : optC r A c = #[.int .u16 (r.mss : Int), .int .i64 r.scale, .bool r.sack, .slice A r.bl.length c, .bool r.time, .int .u32 (r.val : Int), .int .u32 (r.echo : Int)] := rfl
    rw [hoc]
    clear hoc
    generalize (r.mss : Int) = rm at *
    generalize r.scale = rs at *
    generalize r.sack = rk at *
    generalize r.bl.length = rn at *
    generalize r.time = rt at *
    generalize (r.val : Int) = rv at *
    generalize (r.echo : Int) = re at *
    have Hbl := Lib.hid hbl
    clear hbl
    have Hrc := Lib.hid hrc
    clear hrc
    have Hsc := Lib.hid hsc
    clear hsc
    have Hnb := Lib.hid hnb
    clear hnb
    go_upto_region 5 with (first | (refine wpl_put_new rfl #[.int .u16 rm, .int .i64 rs, .bool rk, .slice A rn c, .bool rt, .int .u32 rv, .int .u32 re] optsI rfl (by kernel_rfl) rfl _ _ rfl rfl rfl rfl ?_))
    have hbl := BlR.below Hbl.out ((Below.refl w6.heap.size w6).alloc (Nat.le_refl _) (.cells #[.int .u16 rm, .int .i64 rs, .bool rk, .slice A rn c, .bool rt, .int .u32 rv, .int .u32 re] 28))
    clear Hbl
    have ho := Blk.new w6 28 #[.int .u16 rm, .int .i64 rs, .bool rk, .slice A rn c, .bool rt, .int .u32 rv, .int .u32 re]
    have hr := Blk.alloc Hr.out (.cells #[.int .u16 rm, .int .i64 rs, .bool rk, .slice A rn c, .bool rt, .int .u32 rv, .int .u32 re] 28)
    clear Hr
    have hh := Blk.alloc Hh.out (.cells #[.int .u16 rm, .int .i64 rs, .bool rk, .slice A rn c, .bool rt, .int .u32 rv, .int .u32 re] 28)
    clear Hh
    have ht := Blk.alloc Ht.out (.cells #[.int .u16 rm, .int .i64 rs, .bool rk, .slice A rn c, .bool rt, .int .u32 rv, .int .u32 re] 28)
    clear Ht
    have hB := HB.out.alloc HB.out.size (.cells #[.int .u16 rm, .int .i64 rs, .bool rk, .slice A rn c, .bool rt, .int .u32 rv, .int .u32 re] 28)
    clear HB
    obtain ⟨go, hge⟩ : ∃ g, g = w6.heap.size := ⟨_, rfl⟩
    rw [← hge] at ho ⊢
    clear hge
    generalize w6.alloc _ = w7 at *
    have Hr := Lib.hid hr
    clear hr
    have Hh := Lib.hid hh
    clear hh
    have Ht := Lib.hid ht
    clear ht
    have Ho := Lib.hid ho
    clear ho
    have HB := Lib.hid hB
    clear hB
    have Hbl := Lib.hid hbl
    clear hbl
    by_cases h3 : code = 0
    · subst h3
      have d0 := Ht.out.cell 0
      have d1 := Ht.out.cell 1
      have d2 := Ht.out.cell 2
      have d3 := Ht.out.cell 3
      have d4 := Ht.out.cell 4
      have d5 := Ht.out.cell 5
      have d6 := Ht.out.cell 6
      have d7 := Ht.out.cell 7
      simp at d0 d1 d2 d3 d4 d5 d6 d7
      go_upto_region 7 with fail
      go_wp2_with fail
      with_reducible refine (Hfl.out _).mono ?_
      rintro e w8 ⟨rfl, hbw8⟩
      have hr := Hr.out.below hbw8 Hr.out.lt
      clear Hr
      have Hr := Lib.hid hr
      clear hr
      have hh := Hh.out.below hbw8 Hh.out.lt
      clear Hh
      have Hh := Lib.hid hh
      clear hh
      have ht := Ht.out.below hbw8 Ht.out.lt
      clear Ht
      have Ht := Lib.hid ht
      clear ht
      have ho := Ho.out.below hbw8 Ho.out.lt
      clear Ho
      have Ho := Lib.hid ho
      clear ho
      have hB := HB.out.trans (hbw8.mono HB.out.size)
      clear HB
      have HB := Lib.hid hB
      clear hB
      have hbl := BlR.below Hbl.out hbw8
      clear Hbl hbw8
      have Hbl := Lib.hid hbl
      clear hbl
      clear d0 d1 d2 d3 d4 d5 d6 d7
      cases fb with
      | false =>
        go_wp2_with (first | (refine wpl_put Hr.out #[.int .u32 0, .int .u16 0, .int .u32 0, .int .u16 0, .int .u32 0, .int .u32 0, .int .u8 0, .int .u16 0, .int .u16 0, .int .i64 0, .bool false, .slice none 0 0, .bool false, .int .u32 0, .int .u32 0, .string ⟨#[]⟩] segI_ rfl (by kernel_rfl) rfl _ _ rfl rfl rfl rfl ?_))
        have hz := Hr.out.row #[.int .u32 0, .int .u16 0, .int .u32 0, .int .u16 0, .int .u32 0, .int .u32 0, .int .u8 0, .int .u16 0, .int .u16 0, .int .i64 0, .bool false, .slice none 0 0, .bool false, .int .u32 0, .int .u32 0, .string ⟨#[]⟩]
        have hbz := below_row HB.out hle_r #[.int .u32 0, .int .u16 0, .int .u32 0, .int .u16 0, .int .u32 0, .int .u32 0, .int .u8 0, .int .u16 0, .int .u16 0, .int .i64 0, .bool false, .slice none 0 0, .bool false, .int .u32 0, .int .u32 0, .string ⟨#[]⟩]
        generalize World.setRow _ _ _ = WZ at *
        have z0 := hz.cell 0
        have z1 := hz.cell 1
        have z2 := hz.cell 2
        have z3 := hz.cell 3
        have z4 := hz.cell 4
        have z5 := hz.cell 5
        have z6 := hz.cell 6
        have z7 := hz.cell 7
        have z8 := hz.cell 8
        have z9 := hz.cell 9
        have z10 := hz.cell 10
        have z11 := hz.cell 11
        have z12 := hz.cell 12
        have z13 := hz.cell 13
        have z14 := hz.cell 14
        have z15 := hz.cell 15
        simp at z0 z1 z2 z3 z4 z5 z6 z7 z8 z9 z10 z11 z12 z13 z14 z15
        exact bodyPost_ret (v := .tuple #[.agg #[.int .u32 0, .int .u16 0, .int .u32 0, .int .u16 0, .int .u32 0, .int .u32 0, .int .u8 0, .int .u16 0, .int .u16 0, .int .i64 0, .bool false, .slice none 0 0, .bool false, .int .u32 0, .int .u32 0, .string ⟨#[]⟩], .int .i64 81]) (by simp [results, Try.results20, go_sem, z0, z1, z2, z3, z4, z5, z6, z7, z8, z9, z10, z11, z12, z13, z14, z15]) rfl ⟨zeroSg, none, 0, 81, rfl, .inl rfl, hbz, (E5.out (by trivial) r Hrc.out (by trivial)).symm⟩
      | true =>
        by_cases h4 : 1460 < dd.size
        · have i4 : (1460 : Int) < (dd.size : Int) := by omega
          go_wp2_with (first | (refine wpl_put Hr.out #[.int .u32 0, .int .u16 0, .int .u32 0, .int .u16 0, .int .u32 0, .int .u32 0, .int .u8 0, .int .u16 0, .int .u16 0, .int .i64 0, .bool false, .slice none 0 0, .bool false, .int .u32 0, .int .u32 0, .string ⟨#[]⟩] segI_ rfl (by kernel_rfl) rfl _ _ rfl rfl rfl rfl ?_))
          have hz := Hr.out.row #[.int .u32 0, .int .u16 0, .int .u32 0, .int .u16 0, .int .u32 0, .int .u32 0, .int .u8 0, .int .u16 0, .int .u16 0, .int .i64 0, .bool false, .slice none 0 0, .bool false, .int .u32 0, .int .u32 0, .string ⟨#[]⟩]
          have hbz := below_row HB.out hle_r #[.int .u32 0, .int .u16 0, .int .u32 0, .int .u16 0, .int .u32 0, .int .u32 0, .int .u8 0, .int .u16 0, .int .u16 0, .int .i64 0, .bool false, .slice none 0 0, .bool false, .int .u32 0, .int .u32 0, .string ⟨#[]⟩]
          generalize World.setRow _ _ _ = WZ at *
          have z0 := hz.cell 0
          have z1 := hz.cell 1
          have z2 := hz.cell 2
          have z3 := hz.cell 3
          have z4 := hz.cell 4
          have z5 := hz.cell 5
          have z6 := hz.cell 6
          have z7 := hz.cell 7
          have z8 := hz.cell 8
          have z9 := hz.cell 9
          have z10 := hz.cell 10
          have z11 := hz.cell 11
          have z12 := hz.cell 12
          have z13 := hz.cell 13
          have z14 := hz.cell 14
          have z15 := hz.cell 15
          simp at z0 z1 z2 z3 z4 z5 z6 z7 z8 z9 z10 z11 z12 z13 z14 z15
          exact bodyPost_ret (v := .tuple #[.agg #[.int .u32 0, .int .u16 0, .int .u32 0, .int .u16 0, .int .u32 0, .int .u32 0, .int .u8 0, .int .u16 0, .int .u16 0, .int .i64 0, .bool false, .slice none 0 0, .bool false, .int .u32 0, .int .u32 0, .string ⟨#[]⟩], .int .i64 4]) (by simp [results, Try.results20, go_sem, z0, z1, z2, z3, z4, z5, z6, z7, z8, z9, z10, z11, z12, z13, z14, z15]) rfl ⟨zeroSg, none, 0, 4, rfl, .inl rfl, hbz, (E6.out (by trivial) r Hrc.out (by trivial) h4).symm⟩
        · have i4 : (dd.size : Int) ≤ 1460 := by omega
          have e8 := E7.out (by trivial) r Hrc.out (by trivial) (by omega)
          have E8 := Lib.hid e8
          clear e8
          have c0 := Hh.out.cell 0
          have c1 := Hh.out.cell 1
          have c2 := Hh.out.cell 2
          have c3 := Hh.out.cell 3
          have c4 := Hh.out.cell 4
          have c5 := Hh.out.cell 5
          have c6 := Hh.out.cell 6
          simp at c0 c1 c2 c3 c4 c5 c6
          have d0 := Ht.out.cell 0
          have d1 := Ht.out.cell 1
          have d2 := Ht.out.cell 2
          have d3 := Ht.out.cell 3
          have d4 := Ht.out.cell 4
          have d5 := Ht.out.cell 5
          have d6 := Ht.out.cell 6
          have d7 := Ht.out.cell 7
          simp at d0 d1 d2 d3 d4 d5 d6 d7
          go_wp2_with (first | (refine wpl_load Ho.out optsU optsI rfl _ rfl rfl ?_) | (refine wpl_put Hr.out #[.int .u32 (a0 : Int), .int .u16 (b0 : Int), .int .u32 (a1 : Int), .int .u16 (b1 : Int), .int .u32 (b2 : Int), .int .u32 (b3 : Int), .int .u8 (b4 : Int), .int .u16 (b5 : Int), .int .u16 rm, .int .i64 rs, .bool rk, .slice A rn c, .bool rt, .int .u32 rv, .int .u32 re, .string dd] segI_ rfl (by kernel_rfl) rfl _ _ rfl rfl rfl rfl ?_))
          have hz := Hr.out.row #[.int .u32 (a0 : Int), .int .u16 (b0 : Int), .int .u32 (a1 : Int), .int .u16 (b1 : Int), .int .u32 (b2 : Int), .int .u32 (b3 : Int), .int .u8 (b4 : Int), .int .u16 (b5 : Int), .int .u16 rm, .int .i64 rs, .bool rk, .slice A rn c, .bool rt, .int .u32 rv, .int .u32 re, .string dd]
          have hbz := below_row HB.out hle_r #[.int .u32 (a0 : Int), .int .u16 (b0 : Int), .int .u32 (a1 : Int), .int .u16 (b1 : Int), .int .u32 (b2 : Int), .int .u32 (b3 : Int), .int .u8 (b4 : Int), .int .u16 (b5 : Int), .int .u16 rm, .int .i64 rs, .bool rk, .slice A rn c, .bool rt, .int .u32 rv, .int .u32 re, .string dd]
          have hbl := bl_row (g := gr) Hbl.out Hnb.out #[.int .u32 (a0 : Int), .int .u16 (b0 : Int), .int .u32 (a1 : Int), .int .u16 (b1 : Int), .int .u32 (b2 : Int), .int .u32 (b3 : Int), .int .u8 (b4 : Int), .int .u16 (b5 : Int), .int .u16 rm, .int .i64 rs, .bool rk, .slice A rn c, .bool rt, .int .u32 rv, .int .u32 re, .string dd]
          generalize World.setRow _ _ _ = WZ at *
          have z0 := hz.cell 0
          have z1 := hz.cell 1
          have z2 := hz.cell 2
          have z3 := hz.cell 3
          have z4 := hz.cell 4
          have z5 := hz.cell 5
          have z6 := hz.cell 6
          have z7 := hz.cell 7
          have z8 := hz.cell 8
          have z9 := hz.cell 9
          have z10 := hz.cell 10
          have z11 := hz.cell 11
          have z12 := hz.cell 12
          have z13 := hz.cell 13
          have z14 := hz.cell 14
          have z15 := hz.cell 15
          simp at z0 z1 z2 z3 z4 z5 z6 z7 z8 z9 z10 z11 z12 z13 z14 z15
          exact bodyPost_ret (v := .tuple #[.agg #[.int .u32 (a0 : Int), .int .u16 (b0 : Int), .int .u32 (a1 : Int), .int .u16 (b1 : Int), .int .u32 (b2 : Int), .int .u32 (b3 : Int), .int .u8 (b4 : Int), .int .u16 (b5 : Int), .int .u16 rm, .int .i64 rs, .bool rk, .slice A rn c, .bool rt, .int .u32 rv, .int .u32 re, .string dd], .int .i64 0]) (by simp [results, Try.results20, go_sem, z0, z1, z2, z3, z4, z5, z6, z7, z8, z9, z10, z11, z12, z13, z14, z15]) rfl ⟨⟨a0, b0, a1, b1, b2, b3, b4, b5, r, dd⟩, A, c, 0, by rw [Hsc.out], hbl, hbz, E8.out.symm⟩
    · go_wp2_with (first | (refine wpl_put Hr.out #[.int .u32 0, .int .u16 0, .int .u32 0, .int .u16 0, .int .u32 0, .int .u32 0, .int .u8 0, .int .u16 0, .int .u16 0, .int .i64 0, .bool false, .slice none 0 0, .bool false, .int .u32 0, .int .u32 0, .string ⟨#[]⟩] segI_ rfl (by kernel_rfl) rfl _ _ rfl rfl rfl rfl ?_))
      have hz := Hr.out.row #[.int .u32 0, .int .u16 0, .int .u32 0, .int .u16 0, .int .u32 0, .int .u32 0, .int .u8 0, .int .u16 0, .int .u16 0, .int .i64 0, .bool false, .slice none 0 0, .bool false, .int .u32 0, .int .u32 0, .string ⟨#[]⟩]
      have hbz := below_row HB.out hle_r #[.int .u32 0, .int .u16 0, .int .u32 0, .int .u16 0, .int .u32 0, .int .u32 0, .int .u8 0, .int .u16 0, .int .u16 0, .int .i64 0, .bool false, .slice none 0 0, .bool false, .int .u32 0, .int .u32 0, .string ⟨#[]⟩]
      generalize World.setRow _ _ _ = WZ at *
      have z0 := hz.cell 0
      have z1 := hz.cell 1
      have z2 := hz.cell 2
      have z3 := hz.cell 3
      have z4 := hz.cell 4
      have z5 := hz.cell 5
      have z6 := hz.cell 6
      have z7 := hz.cell 7
      have z8 := hz.cell 8
      have z9 := hz.cell 9
      have z10 := hz.cell 10
      have z11 := hz.cell 11
      have z12 := hz.cell 12
      have z13 := hz.cell 13
      have z14 := hz.cell 14
      have z15 := hz.cell 15
      simp at z0 z1 z2 z3 z4 z5 z6 z7 z8 z9 z10 z11 z12 z13 z14 z15
      exact bodyPost_ret (v := .tuple #[.agg #[.int .u32 0, .int .u16 0, .int .u32 0, .int .u16 0, .int .u32 0, .int .u32 0, .int .u8 0, .int .u16 0, .int .u16 0, .int .i64 0, .bool false, .slice none 0 0, .bool false, .int .u32 0, .int .u32 0, .string ⟨#[]⟩], .int .i64 code]) (by simp [results, Try.results20, go_sem, z0, z1, z2, z3, z4, z5, z6, z7, z8, z9, z10, z11, z12, z13, z14, z15]) rfl ⟨zeroSg, none, 0, code, rfl, .inl rfl, hbz, (E4.out (by trivial) r code Hrc.out h3).symm⟩
  · have k1 : (k : Int) ≠ 0 := by omega
    go_wp2_with (first | (refine wpl_put Hr.out #[.int .u32 0, .int .u16 0, .int .u32 0, .int .u16 0, .int .u32 0, .int .u32 0, .int .u8 0, .int .u16 0, .int .u16 0, .int .i64 0, .bool false, .slice none 0 0, .bool false, .int .u32 0, .int .u32 0, .string ⟨#[]⟩] segI_ rfl (by kernel_rfl) rfl _ _ rfl rfl rfl rfl ?_))
    have hz := Hr.out.row #[.int .u32 0, .int .u16 0, .int .u32 0, .int .u16 0, .int .u32 0, .int .u32 0, .int .u8 0, .int .u16 0, .int .u16 0, .int .i64 0, .bool false, .slice none 0 0, .bool false, .int .u32 0, .int .u32 0, .string ⟨#[]⟩]
    have hbz := below_row HB.out hle_r #[.int .u32 0, .int .u16 0, .int .u32 0, .int .u16 0, .int .u32 0, .int .u32 0, .int .u8 0, .int .u16 0, .int .u16 0, .int .i64 0, .bool false, .slice none 0 0, .bool false, .int .u32 0, .int .u32 0, .string ⟨#[]⟩]
    generalize World.setRow _ _ _ = WZ at *
    have z0 := hz.cell 0
    have z1 := hz.cell 1
    have z2 := hz.cell 2
    have z3 := hz.cell 3
    have z4 := hz.cell 4
    have z5 := hz.cell 5
    have z6 := hz.cell 6
    have z7 := hz.cell 7
    have z8 := hz.cell 8
    have z9 := hz.cell 9
    have z10 := hz.cell 10
    have z11 := hz.cell 11
    have z12 := hz.cell 12
    have z13 := hz.cell 13
    have z14 := hz.cell 14
    have z15 := hz.cell 15
    simp at z0 z1 z2 z3 z4 z5 z6 z7 z8 z9 z10 z11 z12 z13 z14 z15
    exact bodyPost_ret (v := .tuple #[.agg #[.int .u32 0, .int .u16 0, .int .u32 0, .int .u16 0, .int .u32 0, .int .u32 0, .int .u8 0, .int .u16 0, .int .u16 0, .int .i64 0, .bool false, .slice none 0 0, .bool false, .int .u32 0, .int .u32 0, .string ⟨#[]⟩], .int .i64 (k : Int)]) (by simp [results, Try.results20, go_sem, z0, z1, z2, z3, z4, z5, z6, z7, z8, z9, z10, z11, z12, z13, z14, z15]) rfl ⟨zeroSg, none, 0, (k : Int), rfl, .inl rfl, hbz, (E1.out hk).symm⟩
end Go.Proofs.Ytengegcnocdkoaa
end
