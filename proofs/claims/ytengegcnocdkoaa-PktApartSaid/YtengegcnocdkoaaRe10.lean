/- Contracts and plain lemmas: PktDec. -/
import Derived.Test.YtengegcnocdkoaaRe8
import Derived.Test.YtengegcnocdkoaaRe6
set_option linter.unusedVariables false
set_option linter.unusedSimpArgs false
set_option linter.unusedSectionVars false
section
set_option maxRecDepth 20000
namespace Go.Proofs.Ytengegcnocdkoaa
open Go.RowKit Go.BigFrame
theorem below_row {B x : Nat} {w W : World} (h : Below B w W) (hx : B ≤ x) (vs : Array Value) : Below B w (W.setRow x vs) :=
  ⟨h.os, h.tape, h.output, Nat.le_trans h.size (Nat.le_of_eq (size_row W x vs).symm), fun i hi => (heap_row W x vs i (by omega)).trans (h.block i hi)⟩
theorem bl_row {w : World} {g : Nat} {A : Option Addr} {l : List (Int × Int)} (h : BlR w A l) (hA : ∀ ad, A = some ad → ad.block ≠ g) (vs : Array Value) : BlR (w.setRow g vs) A l := by
  rcases h with rfl | ⟨rb, off, rfl, h1, h2⟩
  · exact .inl rfl
  · have hne := hA _ rfl
    refine .inr ⟨rb, off, rfl, by rw [size_row]; exact h1, fun j p hj => ?_⟩
    obtain ⟨k1, k2⟩ := h2 j p hj
    exact ⟨(World.cell?_of_block (heap_row w g vs rb hne)).trans k1, (World.cell?_of_block (heap_row w g vs rb hne)).trans k2⟩
set_option maxHeartbeats 4000000 in
theorem pdec_any (x : ByteArray) (L : List UInt8) (hL : x.data.toList = L) (hx : L.length ≤ 131072) (w : World) : Calls Try.prog 19 #[.string x] w (PDecPost w L) := by
  obtain ⟨h, ld, k, hp⟩ := pd_of L
  obtain ⟨t, dd, k2, hq⟩ := pt_of h.src h.dst ld.data.toList
  have hxs : x.size = L.length := by rw [← hL]; rfl
  have hdd : dd.size ≤ 131072 := by have := hq.dd; have := hp.ld; have e : ld.data.toList.length = ld.size := rfl; omega
  have hdi := fun W => I.dec_all x W (by omega)
  rw [hL, hp.v] at hdi
  have hdt := fun W => T.dec_all h.src h.dst ld W hp.src hp.dst (by have := hp.ld; omega)
  rw [hq.v] at hdt
  have hdo := fun W => dec_any t.opts W
  have hfl := fun W => flags_any t.flags.toNat t.flags.toNat_lt W
  have e1 := hp.bad
  have e2 := hp.proto
  have e3 := PD.tcp hp hq
  have e4 := PD.opt hp hq
  have e5 := PD.flags hp hq
  have e6 := PD.long hp hq
  have e7 := PD.fine hp hq
  clear hp hq hL hx hxs
  generalize h.src = a0 at *
  generalize h.dst = a1 at *
  generalize h.proto.toNat = a2 at *
  generalize h.ttl.toNat = a3 at *
  generalize h.tos.toNat = a4 at *
  generalize h.id = a5 at *
  generalize h.df = a6 at *
  generalize t.src = b0 at *
  generalize t.dst = b1 at *
  generalize t.seq = b2 at *
  generalize t.ack = b3 at *
  generalize t.flags.toNat = b4 at *
  generalize t.window = b5 at *
  generalize t.urgent = b6 at *
  generalize t.opts = ob at *
  generalize flagsB b4 = fb at *
  have hb0 : Below w.heap.size w w := Below.refl _ _
  have HB := Lib.hid hb0
  clear hb0
  have Hdi := Lib.hid hdi
  clear hdi
  have Hdt := Lib.hid hdt
  clear hdt
  have Hdo := Lib.hid hdo
  clear hdo
  have Hfl := Lib.hid hfl
  clear hfl
  have E1 := Lib.hid e1
  clear e1
  have E2 := Lib.hid e2
  clear e2
  have E3 := Lib.hid e3
  clear e3
  have E4 := Lib.hid e4
  clear e4
  have E5 := Lib.hid e5
  clear e5
  have E6 := Lib.hid e6
  clear e6
  have E7 := Lib.hid e7
  clear e7
  go_enter Try.func19, Try.ntmps19
  go_upto_region 1 with fail
  have hr := Blk.new w 30 #[.int .u32 0, .int .u16 0, .int .u32 0, .int .u16 0, .int .u32 0, .int .u32 0, .int .u8 0, .int .u16 0, .int .u16 0, .int .i64 0, .bool false, .slice none 0 0, .bool false, .int .u32 0, .int .u32 0, .string ⟨#[]⟩]
  have hB := HB.out.alloc HB.out.size (.cells #[.int .u32 0, .int .u16 0, .int .u32 0, .int .u16 0, .int .u32 0, .int .u32 0, .int .u8 0, .int .u16 0, .int .u16 0, .int .i64 0, .bool false, .slice none 0 0, .bool false, .int .u32 0, .int .u32 0, .string ⟨#[]⟩] 30)
  clear HB
  obtain ⟨gr, hge⟩ : ∃ g, g = w.heap.size := ⟨_, rfl⟩
  rw [← hge] at hr ⊢
  have hle_r : w.heap.size ≤ gr := by omega
  clear hge
  generalize w.alloc _ = w1 at *
  have Hr := Lib.hid hr
  clear hr
  have HB := Lib.hid hB
  clear hB
  go_wp2_with fail
  (with_reducible refine (Hdi.out _).mono ?_)
  rintro e w2 ⟨rfl, hbq⟩
  have hr := Hr.out.below hbq Hr.out.lt
  clear Hr
  have Hr := Lib.hid hr
  clear hr
  have hB := HB.out.trans (hbq.mono HB.out.size)
  clear HB
  have HB := Lib.hid hB
  clear hB
  clear hbq
  go_upto_region 2 with (first | (refine wpl_put_new rfl #[.int .u32 (a0 : Int), .int .u32 (a1 : Int), .int .u8 (a2 : Int), .int .u8 (a3 : Int), .int .u8 (a4 : Int), .int .u16 (a5 : Int), .bool a6] ipI rfl rfl rfl _ _ rfl rfl rfl rfl ?_))
  have hh := Blk.new w2 63 #[.int .u32 (a0 : Int), .int .u32 (a1 : Int), .int .u8 (a2 : Int), .int .u8 (a3 : Int), .int .u8 (a4 : Int), .int .u16 (a5 : Int), .bool a6]
  have hr := Blk.alloc Hr.out (.cells #[.int .u32 (a0 : Int), .int .u32 (a1 : Int), .int .u8 (a2 : Int), .int .u8 (a3 : Int), .int .u8 (a4 : Int), .int .u16 (a5 : Int), .bool a6] 63)
  clear Hr
  have hB := HB.out.alloc HB.out.size (.cells #[.int .u32 (a0 : Int), .int .u32 (a1 : Int), .int .u8 (a2 : Int), .int .u8 (a3 : Int), .int .u8 (a4 : Int), .int .u16 (a5 : Int), .bool a6] 63)
  clear HB
  obtain ⟨gh, hge⟩ : ∃ g, g = w2.heap.size := ⟨_, rfl⟩
  rw [← hge] at hh ⊢
  clear hge
  generalize w2.alloc _ = w3 at *
  have Hr := Lib.hid hr
  clear hr
  have Hh := Lib.hid hh
  clear hh
  have HB := Lib.hid hB
  clear hB
  by_cases hk : k = 0
  · by_cases hq : a2 = 6
    · subst hk hq
      have c0 := Hh.out.cell 0
      have c1 := Hh.out.cell 1
      have c2 := Hh.out.cell 2
      have c3 := Hh.out.cell 3
      have c4 := Hh.out.cell 4
      have c5 := Hh.out.cell 5
      have c6 := Hh.out.cell 6
      simp at c0 c1 c2 c3 c4 c5 c6
      go_wp2_with fail
      (with_reducible refine (Hdt.out _).mono ?_)
      rintro e w4 ⟨rfl, hbq⟩
      have hr := Hr.out.below hbq Hr.out.lt
      clear Hr
      have Hr := Lib.hid hr
      clear hr
      have hh := Hh.out.below hbq Hh.out.lt
      clear Hh
      have Hh := Lib.hid hh
      clear hh
      have hB := HB.out.trans (hbq.mono HB.out.size)
      clear HB
      have HB := Lib.hid hB
      clear hB
      clear hbq
      go_upto_region 7 with (first | (refine wpl_put_new rfl #[.int .u16 (b0 : Int), .int .u16 (b1 : Int), .int .u32 (b2 : Int), .int .u32 (b3 : Int), .int .u8 (b4 : Int), .int .u16 (b5 : Int), .int .u16 (b6 : Int), .string ob] tcpI rfl (by kernel_rfl) rfl _ _ rfl rfl rfl rfl ?_))
      clear c0 c1 c2 c3 c4 c5 c6
      have ht := Blk.new w4 60 #[.int .u16 (b0 : Int), .int .u16 (b1 : Int), .int .u32 (b2 : Int), .int .u32 (b3 : Int), .int .u8 (b4 : Int), .int .u16 (b5 : Int), .int .u16 (b6 : Int), .string ob]
      have hr := Blk.alloc Hr.out (.cells #[.int .u16 (b0 : Int), .int .u16 (b1 : Int), .int .u32 (b2 : Int), .int .u32 (b3 : Int), .int .u8 (b4 : Int), .int .u16 (b5 : Int), .int .u16 (b6 : Int), .string ob] 60)
      clear Hr
      have hh := Blk.alloc Hh.out (.cells #[.int .u16 (b0 : Int), .int .u16 (b1 : Int), .int .u32 (b2 : Int), .int .u32 (b3 : Int), .int .u8 (b4 : Int), .int .u16 (b5 : Int), .int .u16 (b6 : Int), .string ob] 60)
      clear Hh
      have hB := HB.out.alloc HB.out.size (.cells #[.int .u16 (b0 : Int), .int .u16 (b1 : Int), .int .u32 (b2 : Int), .int .u32 (b3 : Int), .int .u8 (b4 : Int), .int .u16 (b5 : Int), .int .u16 (b6 : Int), .string ob] 60)
      clear HB
      obtain ⟨gt, hge⟩ : ∃ g, g = w4.heap.size := ⟨_, rfl⟩
      rw [← hge] at ht ⊢
      clear hge
      generalize w4.alloc _ = w5 at *
      have Hr := Lib.hid hr
      clear hr
      have Hh := Lib.hid hh
      clear hh
      have Ht := Lib.hid ht
      clear ht
      have HB := Lib.hid hB
      clear hB
      by_cases h2 : k2 = 0
      · subst h2
        have d0 := Ht.out.cell 0
        have d1 := Ht.out.cell 1
        have d2 := Ht.out.cell 2
        have d3 := Ht.out.cell 3
        have d4 := Ht.out.cell 4
        have d5 := Ht.out.cell 5
        have d6 := Ht.out.cell 6
        have d7 := Ht.out.cell 7
        simp at d0 d1 d2 d3 d4 d5 d6 d7
        go_wp2_with fail
        have hgr : gr < w5.heap.size := Hr.out.lt
        with_reducible refine (Hdo.out _).mono ?_
        rintro e w6 ⟨r, A, c, code, rfl, ⟨hbl, hna⟩, hbq, hrc⟩
        have hnb : ∀ ad, A = some ad → ad.block ≠ gr := fun ad h => by have := hna ad h; omega
        clear hna hgr
        have hr := Hr.out.below hbq Hr.out.lt
        clear Hr
        have Hr := Lib.hid hr
        clear hr
        have hh := Hh.out.below hbq Hh.out.lt
        clear Hh
        have Hh := Lib.hid hh
        clear hh
        have ht := Ht.out.below hbq Ht.out.lt
        clear Ht
        have Ht := Lib.hid ht
        clear ht
        have hB := HB.out.trans (hbq.mono HB.out.size)
        clear HB
        have HB := Lib.hid hB
        clear hB
        clear hbq
        clear d0 d1 d2 d3 d4 d5 d6 d7
        have hf : ∀ W, BlR W A r.bl → ∃ s : Sg, s = ⟨a0, b0, a1, b1, b2, b3, b4, b5, r, dd⟩ ∧ BlR W A s.o.bl := fun W h => ⟨_, rfl, h⟩
        have hsc : (⟨a0, b0, a1, b1, b2, b3, b4, b5, r, dd⟩ : Sg).c A c = #[.int .u32 (a0 : Int), .int .u16 (b0 : Int), .int .u32 (a1 : Int), .int .u16 (b1 : Int), .int .u32 (b2 : Int), .int .u32 (b3 : Int), .int .u8 (b4 : Int), .int .u16 (b5 : Int), .int .u16 (r.mss : Int), .int .i64 r.scale, .bool r.sack, .slice A r.bl.length c, .bool r.time, .int .u32 (r.val : Int), .int .u32 (r.echo : Int), .string dd] := rfl
        have hoc : optC r A c = #[.int .u16 (r.mss : Int), .int .i64 r.scale, .bool r.sack, .slice A r.bl.length c, .bool r.time, .int .u32 (r.val : Int), .int .u32 (r.echo : Int)] := rfl
        rw [hoc]
        clear hoc
        generalize (r.mss : Int) = rm at *
        generalize r.scale = rs at *
        generalize r.sack = rk at *
        generalize r.bl.length = rn at *
        generalize r.time = rt at *
        generalize (r.val : Int) = rv at *
        generalize (r.echo : Int) = re at *
        have Hbl := Lib.hid hbl
        clear hbl
        have Hrc := Lib.hid hrc
        clear hrc
        have Hsc := Lib.hid hsc
        clear hsc
        have Hnb := Lib.hid hnb
        clear hnb
        clear hf
        go_upto_region 10 with (first | (refine wpl_put_new rfl #[.int .u16 rm, .int .i64 rs, .bool rk, .slice A rn c, .bool rt, .int .u32 rv, .int .u32 re] optsI rfl (by kernel_rfl) rfl _ _ rfl rfl rfl rfl ?_))
        have hbl := BlR.below Hbl.out ((Below.refl w6.heap.size w6).alloc (Nat.le_refl _) (.cells #[.int .u16 rm, .int .i64 rs, .bool rk, .slice A rn c, .bool rt, .int .u32 rv, .int .u32 re] 28))
        clear Hbl
        have ho := Blk.new w6 28 #[.int .u16 rm, .int .i64 rs, .bool rk, .slice A rn c, .bool rt, .int .u32 rv, .int .u32 re]
        have hr := Blk.alloc Hr.out (.cells #[.int .u16 rm, .int .i64 rs, .bool rk, .slice A rn c, .bool rt, .int .u32 rv, .int .u32 re] 28)
        clear Hr
        have hh := Blk.alloc Hh.out (.cells #[.int .u16 rm, .int .i64 rs, .bool rk, .slice A rn c, .bool rt, .int .u32 rv, .int .u32 re] 28)
        clear Hh
        have ht := Blk.alloc Ht.out (.cells #[.int .u16 rm, .int .i64 rs, .bool rk, .slice A rn c, .bool rt, .int .u32 rv, .int .u32 re] 28)
        clear Ht
        have hB := HB.out.alloc HB.out.size (.cells #[.int .u16 rm, .int .i64 rs, .bool rk, .slice A rn c, .bool rt, .int .u32 rv, .int .u32 re] 28)
        clear HB
        obtain ⟨go, hge⟩ : ∃ g, g = w6.heap.size := ⟨_, rfl⟩
        rw [← hge] at ho ⊢
        clear hge
        generalize w6.alloc _ = w7 at *
        have Hr := Lib.hid hr
        clear hr
        have Hh := Lib.hid hh
        clear hh
        have Ht := Lib.hid ht
        clear ht
        have Ho := Lib.hid ho
        clear ho
        have HB := Lib.hid hB
        clear hB
        have Hbl := Lib.hid hbl
        clear hbl
        by_cases h3 : code = 0
        · subst h3
          have d0 := Ht.out.cell 0
          have d1 := Ht.out.cell 1
          have d2 := Ht.out.cell 2
          have d3 := Ht.out.cell 3
          have d4 := Ht.out.cell 4
          have d5 := Ht.out.cell 5
          have d6 := Ht.out.cell 6
          have d7 := Ht.out.cell 7
          simp at d0 d1 d2 d3 d4 d5 d6 d7
          go_upto_region 12 with fail
          go_wp2_with fail
          (with_reducible refine (Hfl.out _).mono ?_)
          rintro e w' ⟨rfl, rfl⟩
          cases fb with
          | false =>
            go_wp2_with (first | (refine wpl_load Hr.out segU segI rfl _ rfl rfl ?_) | (refine wpl_put Hr.out #[.int .u32 0, .int .u16 0, .int .u32 0, .int .u16 0, .int .u32 0, .int .u32 0, .int .u8 0, .int .u16 0, .int .u16 0, .int .i64 0, .bool false, .slice none 0 0, .bool false, .int .u32 0, .int .u32 0, .string ⟨#[]⟩] segI rfl (by kernel_rfl) rfl _ _ rfl rfl rfl rfl ?_))
            have hz := Hr.out.row #[.int .u32 0, .int .u16 0, .int .u32 0, .int .u16 0, .int .u32 0, .int .u32 0, .int .u8 0, .int .u16 0, .int .u16 0, .int .i64 0, .bool false, .slice none 0 0, .bool false, .int .u32 0, .int .u32 0, .string ⟨#[]⟩]
            have hbz := below_row HB.out hle_r #[.int .u32 0, .int .u16 0, .int .u32 0, .int .u16 0, .int .u32 0, .int .u32 0, .int .u8 0, .int .u16 0, .int .u16 0, .int .i64 0, .bool false, .slice none 0 0, .bool false, .int .u32 0, .int .u32 0, .string ⟨#[]⟩]
            generalize World.setRow _ _ _ = WZ at *
            have z0 := hz.cell 0
            have z1 := hz.cell 1
            have z2 := hz.cell 2
            have z3 := hz.cell 3
            have z4 := hz.cell 4
            have z5 := hz.cell 5
            have z6 := hz.cell 6
            have z7 := hz.cell 7
            have z8 := hz.cell 8
            have z9 := hz.cell 9
            have z10 := hz.cell 10
            have z11 := hz.cell 11
            have z12 := hz.cell 12
            have z13 := hz.cell 13
            have z14 := hz.cell 14
            have z15 := hz.cell 15
            simp at z0 z1 z2 z3 z4 z5 z6 z7 z8 z9 z10 z11 z12 z13 z14 z15
            exact bodyPost_ret (v := .tuple #[.agg #[.int .u32 0, .int .u16 0, .int .u32 0, .int .u16 0, .int .u32 0, .int .u32 0, .int .u8 0, .int .u16 0, .int .u16 0, .int .i64 0, .bool false, .slice none 0 0, .bool false, .int .u32 0, .int .u32 0, .string ⟨#[]⟩], .int .i64 81]) (by simp [results, Try.results19, go_sem, z0, z1, z2, z3, z4, z5, z6, z7, z8, z9, z10, z11, z12, z13, z14, z15]) rfl ⟨zeroSg, none, 0, 81, rfl, .inl rfl, hbz, (E5.out (by trivial) (by trivial) (by trivial) r Hrc.out (by trivial)).symm⟩
          | true =>
            by_cases h4 : 1460 < dd.size
            · have i4 : (1460 : Int) < (dd.size : Int) := by omega
              go_wp2_with (first | (refine wpl_load Hr.out segU segI rfl _ rfl rfl ?_) | (refine wpl_put Hr.out #[.int .u32 0, .int .u16 0, .int .u32 0, .int .u16 0, .int .u32 0, .int .u32 0, .int .u8 0, .int .u16 0, .int .u16 0, .int .i64 0, .bool false, .slice none 0 0, .bool false, .int .u32 0, .int .u32 0, .string ⟨#[]⟩] segI rfl (by kernel_rfl) rfl _ _ rfl rfl rfl rfl ?_))
              have hz := Hr.out.row #[.int .u32 0, .int .u16 0, .int .u32 0, .int .u16 0, .int .u32 0, .int .u32 0, .int .u8 0, .int .u16 0, .int .u16 0, .int .i64 0, .bool false, .slice none 0 0, .bool false, .int .u32 0, .int .u32 0, .string ⟨#[]⟩]
              have hbz := below_row HB.out hle_r #[.int .u32 0, .int .u16 0, .int .u32 0, .int .u16 0, .int .u32 0, .int .u32 0, .int .u8 0, .int .u16 0, .int .u16 0, .int .i64 0, .bool false, .slice none 0 0, .bool false, .int .u32 0, .int .u32 0, .string ⟨#[]⟩]
              generalize World.setRow _ _ _ = WZ at *
              have z0 := hz.cell 0
              have z1 := hz.cell 1
              have z2 := hz.cell 2
              have z3 := hz.cell 3
              have z4 := hz.cell 4
              have z5 := hz.cell 5
              have z6 := hz.cell 6
              have z7 := hz.cell 7
              have z8 := hz.cell 8
              have z9 := hz.cell 9
              have z10 := hz.cell 10
              have z11 := hz.cell 11
              have z12 := hz.cell 12
              have z13 := hz.cell 13
              have z14 := hz.cell 14
              have z15 := hz.cell 15
              simp at z0 z1 z2 z3 z4 z5 z6 z7 z8 z9 z10 z11 z12 z13 z14 z15
              exact bodyPost_ret (v := .tuple #[.agg #[.int .u32 0, .int .u16 0, .int .u32 0, .int .u16 0, .int .u32 0, .int .u32 0, .int .u8 0, .int .u16 0, .int .u16 0, .int .i64 0, .bool false, .slice none 0 0, .bool false, .int .u32 0, .int .u32 0, .string ⟨#[]⟩], .int .i64 4]) (by simp [results, Try.results19, go_sem, z0, z1, z2, z3, z4, z5, z6, z7, z8, z9, z10, z11, z12, z13, z14, z15]) rfl ⟨zeroSg, none, 0, 4, rfl, .inl rfl, hbz, (E6.out (by trivial) (by trivial) (by trivial) r Hrc.out (by trivial) h4).symm⟩
            · have i4 : (dd.size : Int) ≤ 1460 := by omega
              have e8 := E7.out (by trivial) (by trivial) (by trivial) r Hrc.out (by trivial) (by omega)
              have E8 := Lib.hid e8
              clear e8
              have c0 := Hh.out.cell 0
              have c1 := Hh.out.cell 1
              have c2 := Hh.out.cell 2
              have c3 := Hh.out.cell 3
              have c4 := Hh.out.cell 4
              have c5 := Hh.out.cell 5
              have c6 := Hh.out.cell 6
              simp at c0 c1 c2 c3 c4 c5 c6
              go_wp2_with (first | (refine wpl_load Ho.out optsU optsI rfl _ rfl rfl ?_) | (refine wpl_put Hr.out #[.int .u32 (a0 : Int), .int .u16 (b0 : Int), .int .u32 (a1 : Int), .int .u16 (b1 : Int), .int .u32 (b2 : Int), .int .u32 (b3 : Int), .int .u8 (b4 : Int), .int .u16 (b5 : Int), .int .u16 rm, .int .i64 rs, .bool rk, .slice A rn c, .bool rt, .int .u32 rv, .int .u32 re, .string dd] segI rfl (by kernel_rfl) rfl _ _ rfl rfl rfl rfl ?_))
              have hz := Hr.out.row #[.int .u32 (a0 : Int), .int .u16 (b0 : Int), .int .u32 (a1 : Int), .int .u16 (b1 : Int), .int .u32 (b2 : Int), .int .u32 (b3 : Int), .int .u8 (b4 : Int), .int .u16 (b5 : Int), .int .u16 rm, .int .i64 rs, .bool rk, .slice A rn c, .bool rt, .int .u32 rv, .int .u32 re, .string dd]
              have hbz := below_row HB.out hle_r #[.int .u32 (a0 : Int), .int .u16 (b0 : Int), .int .u32 (a1 : Int), .int .u16 (b1 : Int), .int .u32 (b2 : Int), .int .u32 (b3 : Int), .int .u8 (b4 : Int), .int .u16 (b5 : Int), .int .u16 rm, .int .i64 rs, .bool rk, .slice A rn c, .bool rt, .int .u32 rv, .int .u32 re, .string dd]
              have hbl := bl_row (g := gr) Hbl.out Hnb.out #[.int .u32 (a0 : Int), .int .u16 (b0 : Int), .int .u32 (a1 : Int), .int .u16 (b1 : Int), .int .u32 (b2 : Int), .int .u32 (b3 : Int), .int .u8 (b4 : Int), .int .u16 (b5 : Int), .int .u16 rm, .int .i64 rs, .bool rk, .slice A rn c, .bool rt, .int .u32 rv, .int .u32 re, .string dd]
              generalize World.setRow _ _ _ = WZ at *
              have z0 := hz.cell 0
              have z1 := hz.cell 1
              have z2 := hz.cell 2
              have z3 := hz.cell 3
              have z4 := hz.cell 4
              have z5 := hz.cell 5
              have z6 := hz.cell 6
              have z7 := hz.cell 7
              have z8 := hz.cell 8
              have z9 := hz.cell 9
              have z10 := hz.cell 10
              have z11 := hz.cell 11
              have z12 := hz.cell 12
              have z13 := hz.cell 13
              have z14 := hz.cell 14
              have z15 := hz.cell 15
              simp at z0 z1 z2 z3 z4 z5 z6 z7 z8 z9 z10 z11 z12 z13 z14 z15
              exact bodyPost_ret (v := .tuple #[.agg #[.int .u32 (a0 : Int), .int .u16 (b0 : Int), .int .u32 (a1 : Int), .int .u16 (b1 : Int), .int .u32 (b2 : Int), .int .u32 (b3 : Int), .int .u8 (b4 : Int), .int .u16 (b5 : Int), .int .u16 rm, .int .i64 rs, .bool rk, .slice A rn c, .bool rt, .int .u32 rv, .int .u32 re, .string dd], .int .i64 0]) (by simp [results, Try.results19, go_sem, z0, z1, z2, z3, z4, z5, z6, z7, z8, z9, z10, z11, z12, z13, z14, z15]) rfl ⟨⟨a0, b0, a1, b1, b2, b3, b4, b5, r, dd⟩, A, c, 0, by rw [Hsc.out], hbl, hbz, E8.out.symm⟩
        · go_wp2_with (first | (refine wpl_load Hr.out segU segI rfl _ rfl rfl ?_) | (refine wpl_put Hr.out #[.int .u32 0, .int .u16 0, .int .u32 0, .int .u16 0, .int .u32 0, .int .u32 0, .int .u8 0, .int .u16 0, .int .u16 0, .int .i64 0, .bool false, .slice none 0 0, .bool false, .int .u32 0, .int .u32 0, .string ⟨#[]⟩] segI rfl (by kernel_rfl) rfl _ _ rfl rfl rfl rfl ?_))
          have hz := Hr.out.row #[.int .u32 0, .int .u16 0, .int .u32 0, .int .u16 0, .int .u32 0, .int .u32 0, .int .u8 0, .int .u16 0, .int .u16 0, .int .i64 0, .bool false, .slice none 0 0, .bool false, .int .u32 0, .int .u32 0, .string ⟨#[]⟩]
          have hbz := below_row HB.out hle_r #[.int .u32 0, .int .u16 0, .int .u32 0, .int .u16 0, .int .u32 0, .int .u32 0, .int .u8 0, .int .u16 0, .int .u16 0, .int .i64 0, .bool false, .slice none 0 0, .bool false, .int .u32 0, .int .u32 0, .string ⟨#[]⟩]
          generalize World.setRow _ _ _ = WZ at *
          have z0 := hz.cell 0
          have z1 := hz.cell 1
          have z2 := hz.cell 2
          have z3 := hz.cell 3
          have z4 := hz.cell 4
          have z5 := hz.cell 5
          have z6 := hz.cell 6
          have z7 := hz.cell 7
          have z8 := hz.cell 8
          have z9 := hz.cell 9
          have z10 := hz.cell 10
          have z11 := hz.cell 11
          have z12 := hz.cell 12
          have z13 := hz.cell 13
          have z14 := hz.cell 14
          have z15 := hz.cell 15
          simp at z0 z1 z2 z3 z4 z5 z6 z7 z8 z9 z10 z11 z12 z13 z14 z15
          exact bodyPost_ret (v := .tuple #[.agg #[.int .u32 0, .int .u16 0, .int .u32 0, .int .u16 0, .int .u32 0, .int .u32 0, .int .u8 0, .int .u16 0, .int .u16 0, .int .i64 0, .bool false, .slice none 0 0, .bool false, .int .u32 0, .int .u32 0, .string ⟨#[]⟩], .int .i64 code]) (by simp [results, Try.results19, go_sem, z0, z1, z2, z3, z4, z5, z6, z7, z8, z9, z10, z11, z12, z13, z14, z15]) rfl ⟨zeroSg, none, 0, code, rfl, .inl rfl, hbz, (E4.out (by trivial) (by trivial) (by trivial) r code Hrc.out h3).symm⟩
      · have k1 : (k2 : Int) ≠ 0 := by omega
        go_wp2_with (first | (refine wpl_load Hr.out segU segI rfl _ rfl rfl ?_) | (refine wpl_put Hr.out #[.int .u32 0, .int .u16 0, .int .u32 0, .int .u16 0, .int .u32 0, .int .u32 0, .int .u8 0, .int .u16 0, .int .u16 0, .int .i64 0, .bool false, .slice none 0 0, .bool false, .int .u32 0, .int .u32 0, .string ⟨#[]⟩] segI rfl (by kernel_rfl) rfl _ _ rfl rfl rfl rfl ?_))
        have hz := Hr.out.row #[.int .u32 0, .int .u16 0, .int .u32 0, .int .u16 0, .int .u32 0, .int .u32 0, .int .u8 0, .int .u16 0, .int .u16 0, .int .i64 0, .bool false, .slice none 0 0, .bool false, .int .u32 0, .int .u32 0, .string ⟨#[]⟩]
        have hbz := below_row HB.out hle_r #[.int .u32 0, .int .u16 0, .int .u32 0, .int .u16 0, .int .u32 0, .int .u32 0, .int .u8 0, .int .u16 0, .int .u16 0, .int .i64 0, .bool false, .slice none 0 0, .bool false, .int .u32 0, .int .u32 0, .string ⟨#[]⟩]
        generalize World.setRow _ _ _ = WZ at *
        have z0 := hz.cell 0
        have z1 := hz.cell 1
        have z2 := hz.cell 2
        have z3 := hz.cell 3
        have z4 := hz.cell 4
        have z5 := hz.cell 5
        have z6 := hz.cell 6
        have z7 := hz.cell 7
        have z8 := hz.cell 8
        have z9 := hz.cell 9
        have z10 := hz.cell 10
        have z11 := hz.cell 11
        have z12 := hz.cell 12
        have z13 := hz.cell 13
        have z14 := hz.cell 14
        have z15 := hz.cell 15
        simp at z0 z1 z2 z3 z4 z5 z6 z7 z8 z9 z10 z11 z12 z13 z14 z15
        exact bodyPost_ret (v := .tuple #[.agg #[.int .u32 0, .int .u16 0, .int .u32 0, .int .u16 0, .int .u32 0, .int .u32 0, .int .u8 0, .int .u16 0, .int .u16 0, .int .i64 0, .bool false, .slice none 0 0, .bool false, .int .u32 0, .int .u32 0, .string ⟨#[]⟩], .int .i64 (k2 : Int)]) (by simp [results, Try.results19, go_sem, z0, z1, z2, z3, z4, z5, z6, z7, z8, z9, z10, z11, z12, z13, z14, z15]) rfl ⟨zeroSg, none, 0, (k2 : Int), rfl, .inl rfl, hbz, (E3.out (by trivial) (by trivial) h2).symm⟩
    · subst hk
      have k1 : (a2 : Int) ≠ 6 := by omega
      have c0 := Hh.out.cell 0
      have c1 := Hh.out.cell 1
      have c2 := Hh.out.cell 2
      have c3 := Hh.out.cell 3
      have c4 := Hh.out.cell 4
      have c5 := Hh.out.cell 5
      have c6 := Hh.out.cell 6
      simp at c0 c1 c2 c3 c4 c5 c6
      go_wp2_with (first | (refine wpl_load Hr.out segU segI rfl _ rfl rfl ?_) | (refine wpl_put Hr.out #[.int .u32 0, .int .u16 0, .int .u32 0, .int .u16 0, .int .u32 0, .int .u32 0, .int .u8 0, .int .u16 0, .int .u16 0, .int .i64 0, .bool false, .slice none 0 0, .bool false, .int .u32 0, .int .u32 0, .string ⟨#[]⟩] segI rfl (by kernel_rfl) rfl _ _ rfl rfl rfl rfl ?_))
      have hz := Hr.out.row #[.int .u32 0, .int .u16 0, .int .u32 0, .int .u16 0, .int .u32 0, .int .u32 0, .int .u8 0, .int .u16 0, .int .u16 0, .int .i64 0, .bool false, .slice none 0 0, .bool false, .int .u32 0, .int .u32 0, .string ⟨#[]⟩]
      have hbz := below_row HB.out hle_r #[.int .u32 0, .int .u16 0, .int .u32 0, .int .u16 0, .int .u32 0, .int .u32 0, .int .u8 0, .int .u16 0, .int .u16 0, .int .i64 0, .bool false, .slice none 0 0, .bool false, .int .u32 0, .int .u32 0, .string ⟨#[]⟩]
      generalize World.setRow _ _ _ = WZ at *
      have z0 := hz.cell 0
      have z1 := hz.cell 1
      have z2 := hz.cell 2
      have z3 := hz.cell 3
      have z4 := hz.cell 4
      have z5 := hz.cell 5
      have z6 := hz.cell 6
      have z7 := hz.cell 7
      have z8 := hz.cell 8
      have z9 := hz.cell 9
      have z10 := hz.cell 10
      have z11 := hz.cell 11
      have z12 := hz.cell 12
      have z13 := hz.cell 13
      have z14 := hz.cell 14
      have z15 := hz.cell 15
      simp at z0 z1 z2 z3 z4 z5 z6 z7 z8 z9 z10 z11 z12 z13 z14 z15
      exact bodyPost_ret (v := .tuple #[.agg #[.int .u32 0, .int .u16 0, .int .u32 0, .int .u16 0, .int .u32 0, .int .u32 0, .int .u8 0, .int .u16 0, .int .u16 0, .int .i64 0, .bool false, .slice none 0 0, .bool false, .int .u32 0, .int .u32 0, .string ⟨#[]⟩], .int .i64 80]) (by simp [results, Try.results19, go_sem, z0, z1, z2, z3, z4, z5, z6, z7, z8, z9, z10, z11, z12, z13, z14, z15]) rfl ⟨zeroSg, none, 0, 80, rfl, .inl rfl, hbz, (E2.out (by trivial) hq).symm⟩
  · have k1 : (k : Int) ≠ 0 := by omega
    go_wp2_with (first | (refine wpl_load Hr.out segU segI rfl _ rfl rfl ?_) | (refine wpl_put Hr.out #[.int .u32 0, .int .u16 0, .int .u32 0, .int .u16 0, .int .u32 0, .int .u32 0, .int .u8 0, .int .u16 0, .int .u16 0, .int .i64 0, .bool false, .slice none 0 0, .bool false, .int .u32 0, .int .u32 0, .string ⟨#[]⟩] segI rfl (by kernel_rfl) rfl _ _ rfl rfl rfl rfl ?_))
    have hz := Hr.out.row #[.int .u32 0, .int .u16 0, .int .u32 0, .int .u16 0, .int .u32 0, .int .u32 0, .int .u8 0, .int .u16 0, .int .u16 0, .int .i64 0, .bool false, .slice none 0 0, .bool false, .int .u32 0, .int .u32 0, .string ⟨#[]⟩]
    have hbz := below_row HB.out hle_r #[.int .u32 0, .int .u16 0, .int .u32 0, .int .u16 0, .int .u32 0, .int .u32 0, .int .u8 0, .int .u16 0, .int .u16 0, .int .i64 0, .bool false, .slice none 0 0, .bool false, .int .u32 0, .int .u32 0, .string ⟨#[]⟩]
    generalize World.setRow _ _ _ = WZ at *
    have z0 := hz.cell 0
    have z1 := hz.cell 1
    have z2 := hz.cell 2
    have z3 := hz.cell 3
    have z4 := hz.cell 4
    have z5 := hz.cell 5
    have z6 := hz.cell 6
    have z7 := hz.cell 7
    have z8 := hz.cell 8
    have z9 := hz.cell 9
    have z10 := hz.cell 10
    have z11 := hz.cell 11
    have z12 := hz.cell 12
    have z13 := hz.cell 13
    have z14 := hz.cell 14
    have z15 := hz.cell 15
    simp at z0 z1 z2 z3 z4 z5 z6 z7 z8 z9 z10 z11 z12 z13 z14 z15
    exact bodyPost_ret (v := .tuple #[.agg #[.int .u32 0, .int .u16 0, .int .u32 0, .int .u16 0, .int .u32 0, .int .u32 0, .int .u8 0, .int .u16 0, .int .u16 0, .int .i64 0, .bool false, .slice none 0 0, .bool false, .int .u32 0, .int .u32 0, .string ⟨#[]⟩], .int .i64 (k : Int)]) (by simp [results, Try.results19, go_sem, z0, z1, z2, z3, z4, z5, z6, z7, z8, z9, z10, z11, z12, z13, z14, z15]) rfl ⟨zeroSg, none, 0, (k : Int), rfl, .inl rfl, hbz, (E1.out hk).symm⟩
end Go.Proofs.Ytengegcnocdkoaa
end
