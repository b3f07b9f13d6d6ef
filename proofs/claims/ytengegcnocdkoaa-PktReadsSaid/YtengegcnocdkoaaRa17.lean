/- Contracts and plain lemmas: PktHeads. -/
import Derived.Test.YtengegcnocdkoaaRa10
import Derived.Test.YtengegcnocdkoaaRa8
section
set_option linter.unusedVariables false
set_option linter.unusedSimpArgs false
set_option maxRecDepth 20000
namespace Go.Proofs.Ytengegcnocdkoaa
open Go.RowKit Go.BigFrame
theorem below_row2 {B x : Nat} {w W : World} (h : Below B w W) (hx : B ≤ x) (vs : Array Value) : Below B w (W.setRow x vs) :=
  ⟨h.os, h.tape, h.output, Nat.le_trans h.size (Nat.le_of_eq (size_row W x vs).symm), fun i hi => (heap_row W x vs i (by omega)).trans (h.block i hi)⟩
/-- what the reference's heads answers -/
structure HF (L : List UInt8) (h : I.IPh) (t : T.TCPh) (dd : ByteArray) (k : Nat) : Prop where
  bad : k ≠ 0 → pdecR L = (zeroSg, (k : Int))
  ok : k = 0 → I.decE L = 0 ∧ (hI L).proto = 6 ∧ T.decE (hI L).src (hI L).dst (L.drop 20) = 0 ∧ h = hI L ∧ t = hT L ∧ dd = dB L
  dd : dd.size ≤ L.length
def ipC (h : I.IPh) : Array Value := #[.int .u32 (h.src : Int), .int .u32 (h.dst : Int), .int .u8 (h.proto.toNat : Int), .int .u8 (h.ttl.toNat : Int), .int .u8 (h.tos.toNat : Int), .int .u16 (h.id : Int), .bool h.df]
def tcpC (t : T.TCPh) : Array Value := #[.int .u16 (t.src : Int), .int .u16 (t.dst : Int), .int .u32 (t.seq : Int), .int .u32 (t.ack : Int), .int .u8 (t.flags.toNat : Int), .int .u16 (t.window : Int), .int .u16 (t.urgent : Int), .string t.opts]
def zIP : I.IPh := ⟨0, 0, 0, 0, 0, 0, false⟩
def zTCP : T.TCPh := ⟨0, 0, 0, 0, 0, 0, 0, ⟨#[]⟩⟩
def HeadPost (w : World) (L : List UInt8) (e : Ending) (w' : World) : Prop :=
  ∃ (h : I.IPh) (t : T.TCPh) (dd : ByteArray) (k : Nat), e = .returned (.tuple #[.agg (ipC h), .agg (tcpC t), .string dd, .int .i64 (k : Int)]) ∧ Below w.heap.size w w' ∧ HF L h t dd k
theorem hf_bad {L : List UInt8} {k : Nat} (h0 : k ≠ 0) (h : pdecR L = (zeroSg, (k : Int))) : HF L zIP zTCP ⟨#[]⟩ k := ⟨fun _ => h, fun e => absurd e h0, by show 0 ≤ _; omega⟩
theorem hf_of {L : List UInt8} {h : I.IPh} {ld : ByteArray} {t : T.TCPh} {dd : ByteArray} {k2 : Nat} (p : PD L h ld 0) (q : PT h.src h.dst ld.data.toList t dd k2) (hp : h.proto.toNat = 6) : HF L h t dd k2 := by
  refine ⟨fun h2 => PD.tcp p q rfl hp h2, fun h2 => ?_, ?_⟩
  · obtain ⟨a, b, c, d, e⟩ := PD.parts p q rfl hp
    obtain ⟨e1, e2⟩ := e h2
    exact ⟨a, b, c.trans h2, d, e1, e2⟩
  · have := q.dd; have := p.ld; have e : ld.data.toList.length = ld.size := rfl; omega
set_option maxHeartbeats 4000000 in
theorem heads_any (x : ByteArray) (L : List UInt8) (hL : x.data.toList = L) (hx : L.length ≤ 131072) (w : World) : Calls Try.prog 43 #[.string x] w (HeadPost w L) := by
  obtain ⟨h, ld, k, hp⟩ := pd_of L
  obtain ⟨t, dd, k2, hq⟩ := pt_of h.src h.dst ld.data.toList
  have hxs : x.size = L.length := by rw [← hL]; rfl
  have hdi := fun W => I.ref_dec_all x W (by omega)
  rw [hL, hp.v] at hdi
  have hdt := fun W => T.ref_dec_all h.src h.dst ld W hp.src hp.dst (by have := hp.ld; omega)
  rw [hq.v] at hdt
  have e1 := hp.bad
  have e2 := hp.proto
  have e3 : k = 0 → h.proto.toNat = 6 → HF L h t dd k2 := fun h0 h1 => by subst h0; exact hf_of hp hq h1
  have hic : ipC h = #[.int .u32 (h.src : Int), .int .u32 (h.dst : Int), .int .u8 (h.proto.toNat : Int), .int .u8 (h.ttl.toNat : Int), .int .u8 (h.tos.toNat : Int), .int .u16 (h.id : Int), .bool h.df] := rfl
  have htc : tcpC t = #[.int .u16 (t.src : Int), .int .u16 (t.dst : Int), .int .u32 (t.seq : Int), .int .u32 (t.ack : Int), .int .u8 (t.flags.toNat : Int), .int .u16 (t.window : Int), .int .u16 (t.urgent : Int), .string t.opts] := rfl
  clear hp hq hL hx hxs
  generalize h.src = a0 at *
  generalize h.dst = a1 at *
  generalize h.proto.toNat = a2 at *
  generalize h.ttl.toNat = a3 at *
  generalize h.tos.toNat = a4 at *
  generalize h.id = a5 at *
  generalize h.df = a6 at *
  generalize t.src = b0 at *
  generalize t.dst = b1 at *
  generalize t.seq = b2 at *
  generalize t.ack = b3 at *
  generalize t.flags.toNat = b4 at *
  generalize t.window = b5 at *
  generalize t.urgent = b6 at *
  generalize t.opts = ob at *
  have hb0 : Below w.heap.size w w := Below.refl _ _
  have HB := Lib.hid hb0
  clear hb0
  have Hdi := Lib.hid hdi
  clear hdi
  have Hdt := Lib.hid hdt
  clear hdt
  have E1 := Lib.hid e1
  clear e1
  have E2 := Lib.hid e2
  clear e2
  have E3 := Lib.hid e3
  clear e3
  have Hic := Lib.hid hic
  clear hic
  have Htc := Lib.hid htc
  clear htc
  go_enter Try.func43, Try.ntmps43
  go_upto_region 1 with fail
  have hi := Blk.alloc (Blk.new w 63 #[.int .u32 0, .int .u32 0, .int .u8 0, .int .u8 0, .int .u8 0, .int .u16 0, .bool false]) (.cells #[.int .u16 0, .int .u16 0, .int .u32 0, .int .u32 0, .int .u8 0, .int .u16 0, .int .u16 0, .string ⟨#[]⟩] 60)
  have hj := Blk.new (w.alloc (.cells #[.int .u32 0, .int .u32 0, .int .u8 0, .int .u8 0, .int .u8 0, .int .u16 0, .bool false] 63)) 60 #[.int .u16 0, .int .u16 0, .int .u32 0, .int .u32 0, .int .u8 0, .int .u16 0, .int .u16 0, .string ⟨#[]⟩]
  rw [show (w.alloc (.cells #[.int .u32 0, .int .u32 0, .int .u8 0, .int .u8 0, .int .u8 0, .int .u16 0, .bool false] 63)).heap.size = w.heap.size + 1 by simp] at hj
  have hB := Below.alloc (Below.alloc (HB.out) (Nat.le_trans HB.out.size (by simp <;> omega)) (.cells #[.int .u32 0, .int .u32 0, .int .u8 0, .int .u8 0, .int .u8 0, .int .u16 0, .bool false] 63)) (Nat.le_trans HB.out.size (by simp <;> omega)) (.cells #[.int .u16 0, .int .u16 0, .int .u32 0, .int .u32 0, .int .u8 0, .int .u16 0, .int .u16 0, .string ⟨#[]⟩] 60)
  clear HB
  obtain ⟨gj, hgej⟩ : ∃ g, g = w.heap.size + 1 := ⟨_, rfl⟩
  rw [← hgej] at hj ⊢
  obtain ⟨gi, hgei⟩ : ∃ g, g = w.heap.size := ⟨_, rfl⟩
  rw [← hgei] at hi ⊢
  have hne_i_j : gi ≠ gj := by omega
  have hle_i : w.heap.size ≤ gi := by omega
  have hle_j : w.heap.size ≤ gj := by omega
  clear hgei hgej
  generalize (w.alloc _).alloc _ = wn1 at *
  have Hi := Lib.hid hi
  clear hi
  have Hj := Lib.hid hj
  clear hj
  have HB := Lib.hid hB
  clear hB
  obtain ⟨w1, hwnw1⟩ : ∃ W, W = wn1 := ⟨_, rfl⟩
  rw [← hwnw1] at Hi Hj HB ⊢
  clear hwnw1
  go_wp2_with fail
  (with_reducible refine (Hdi.out _).mono ?_)
  rintro e w2 ⟨rfl, hbq⟩
  have hi := Hi.out.below hbq Hi.out.lt
  clear Hi
  have Hi := Lib.hid hi
  clear hi
  have hj := Hj.out.below hbq Hj.out.lt
  clear Hj
  have Hj := Lib.hid hj
  clear hj
  have hB := HB.out.trans (hbq.mono HB.out.size)
  clear HB
  have HB := Lib.hid hB
  clear hB
  clear hbq
  go_upto_region 2 with (first | (refine wpl_put_new rfl #[.int .u32 (a0 : Int), .int .u32 (a1 : Int), .int .u8 (a2 : Int), .int .u8 (a3 : Int), .int .u8 (a4 : Int), .int .u16 (a5 : Int), .bool a6] ipI rfl (by kernel_rfl) rfl _ _ rfl rfl rfl rfl ?_))
  have li := Hi.out.lt
  have lj := Hj.out.lt
  have hh := Blk.new w2 63 #[.int .u32 (a0 : Int), .int .u32 (a1 : Int), .int .u8 (a2 : Int), .int .u8 (a3 : Int), .int .u8 (a4 : Int), .int .u16 (a5 : Int), .bool a6]
  have hi := Blk.alloc Hi.out (.cells #[.int .u32 (a0 : Int), .int .u32 (a1 : Int), .int .u8 (a2 : Int), .int .u8 (a3 : Int), .int .u8 (a4 : Int), .int .u16 (a5 : Int), .bool a6] 63)
  clear Hi
  have hj := Blk.alloc Hj.out (.cells #[.int .u32 (a0 : Int), .int .u32 (a1 : Int), .int .u8 (a2 : Int), .int .u8 (a3 : Int), .int .u8 (a4 : Int), .int .u16 (a5 : Int), .bool a6] 63)
  clear Hj
  have hB := HB.out.alloc HB.out.size (.cells #[.int .u32 (a0 : Int), .int .u32 (a1 : Int), .int .u8 (a2 : Int), .int .u8 (a3 : Int), .int .u8 (a4 : Int), .int .u16 (a5 : Int), .bool a6] 63)
  clear HB
  obtain ⟨gh, hge⟩ : ∃ g, g = w2.heap.size := ⟨_, rfl⟩
  rw [← hge] at hh ⊢
  have hle_h : w2.heap.size ≤ gh := by omega
  clear hge
  generalize w2.alloc _ = w3 at *
  have Hi := Lib.hid hi
  clear hi
  have Hj := Lib.hid hj
  clear hj
  have Hh := Lib.hid hh
  clear hh
  have HB := Lib.hid hB
  clear hB
  have n1 : gh ≠ gi := by omega
  have n2 : gh ≠ gj := by omega
  clear li lj hle_h
  by_cases hk : k = 0
  · by_cases hq : a2 = 6
    · subst hk
      have k1 : (a2 : Int) = 6 := by omega
      have c0 := Hh.out.cell 0
      have c1 := Hh.out.cell 1
      have c2 := Hh.out.cell 2
      have c3 := Hh.out.cell 3
      have c4 := Hh.out.cell 4
      have c5 := Hh.out.cell 5
      have c6 := Hh.out.cell 6
      simp at c0 c1 c2 c3 c4 c5 c6
      go_wp2_with fail
      (with_reducible refine (Hdt.out _).mono ?_)
      rintro e w4 ⟨rfl, hbq⟩
      have hi := Hi.out.below hbq Hi.out.lt
      clear Hi
      have Hi := Lib.hid hi
      clear hi
      have hj := Hj.out.below hbq Hj.out.lt
      clear Hj
      have Hj := Lib.hid hj
      clear hj
      have hh := Hh.out.below hbq Hh.out.lt
      clear Hh
      have Hh := Lib.hid hh
      clear hh
      have hB := HB.out.trans (hbq.mono HB.out.size)
      clear HB
      have HB := Lib.hid hB
      clear hB
      clear hbq
      go_upto_region 7 with (first | (refine wpl_put_new rfl #[.int .u16 (b0 : Int), .int .u16 (b1 : Int), .int .u32 (b2 : Int), .int .u32 (b3 : Int), .int .u8 (b4 : Int), .int .u16 (b5 : Int), .int .u16 (b6 : Int), .string ob] tcpI rfl (by kernel_rfl) rfl _ _ rfl rfl rfl rfl ?_))
      clear c0 c1 c2 c3 c4 c5 c6
      have li := Hi.out.lt
      have lj := Hj.out.lt
      have ht := Blk.new w4 60 #[.int .u16 (b0 : Int), .int .u16 (b1 : Int), .int .u32 (b2 : Int), .int .u32 (b3 : Int), .int .u8 (b4 : Int), .int .u16 (b5 : Int), .int .u16 (b6 : Int), .string ob]
      have hi := Blk.alloc Hi.out (.cells #[.int .u16 (b0 : Int), .int .u16 (b1 : Int), .int .u32 (b2 : Int), .int .u32 (b3 : Int), .int .u8 (b4 : Int), .int .u16 (b5 : Int), .int .u16 (b6 : Int), .string ob] 60)
      clear Hi
      have hj := Blk.alloc Hj.out (.cells #[.int .u16 (b0 : Int), .int .u16 (b1 : Int), .int .u32 (b2 : Int), .int .u32 (b3 : Int), .int .u8 (b4 : Int), .int .u16 (b5 : Int), .int .u16 (b6 : Int), .string ob] 60)
      clear Hj
      have hh := Blk.alloc Hh.out (.cells #[.int .u16 (b0 : Int), .int .u16 (b1 : Int), .int .u32 (b2 : Int), .int .u32 (b3 : Int), .int .u8 (b4 : Int), .int .u16 (b5 : Int), .int .u16 (b6 : Int), .string ob] 60)
      clear Hh
      have hB := HB.out.alloc HB.out.size (.cells #[.int .u16 (b0 : Int), .int .u16 (b1 : Int), .int .u32 (b2 : Int), .int .u32 (b3 : Int), .int .u8 (b4 : Int), .int .u16 (b5 : Int), .int .u16 (b6 : Int), .string ob] 60)
      clear HB
      obtain ⟨gt, hge⟩ : ∃ g, g = w4.heap.size := ⟨_, rfl⟩
      rw [← hge] at ht ⊢
      have hle_t : w4.heap.size ≤ gt := by omega
      clear hge
      generalize w4.alloc _ = w5 at *
      have Hi := Lib.hid hi
      clear hi
      have Hj := Lib.hid hj
      clear hj
      have Hh := Lib.hid hh
      clear hh
      have Ht := Lib.hid ht
      clear ht
      have HB := Lib.hid hB
      clear hB
      have n3 : gt ≠ gi := by omega
      have n4 : gt ≠ gj := by omega
      clear li lj hle_t
      have e3 := E3.out (by trivial) hq
      have hb5 := HB.out
      have n1' := Ne.symm n1
      have n2' := Ne.symm n2
      have n3' := Ne.symm n3
      have n4' := Ne.symm n4
      have n5 := hne_i_j
      have n5' := Ne.symm hne_i_j
      clear E3
      have E3 := Lib.hid e3
      clear e3
      have c0 := Hh.out.cell 0
      have c1 := Hh.out.cell 1
      have c2 := Hh.out.cell 2
      have c3 := Hh.out.cell 3
      have c4 := Hh.out.cell 4
      have c5 := Hh.out.cell 5
      have c6 := Hh.out.cell 6
      simp at c0 c1 c2 c3 c4 c5 c6
      have d0 := Ht.out.cell 0
      have d1 := Ht.out.cell 1
      have d2 := Ht.out.cell 2
      have d3 := Ht.out.cell 3
      have d4 := Ht.out.cell 4
      have d5 := Ht.out.cell 5
      have d6 := Ht.out.cell 6
      have d7 := Ht.out.cell 7
      simp at d0 d1 d2 d3 d4 d5 d6 d7
      have z0 := Hi.out.cell 0
      have z1 := Hi.out.cell 1
      have z2 := Hi.out.cell 2
      have z3 := Hi.out.cell 3
      have z4 := Hi.out.cell 4
      have z5 := Hi.out.cell 5
      have z6 := Hi.out.cell 6
      simp at z0 z1 z2 z3 z4 z5 z6
      have y0 := Hj.out.cell 0
      have y1 := Hj.out.cell 1
      have y2 := Hj.out.cell 2
      have y3 := Hj.out.cell 3
      have y4 := Hj.out.cell 4
      have y5 := Hj.out.cell 5
      have y6 := Hj.out.cell 6
      have y7 := Hj.out.cell 7
      simp at y0 y1 y2 y3 y4 y5 y6 y7
      have f1 := Hi.out.frozen
      have f2 := Hj.out.frozen
      clear hb5
      go_region
      generalize hWf : World.drew _ = Wf
      have hz : Blk Wf gi 63 #[.int .u32 (a0 : Int), .int .u32 (a1 : Int), .int .u8 6, .int .u8 (a3 : Int), .int .u8 (a4 : Int), .int .u16 (a5 : Int), .bool a6] := by
        rw [← hWf]
        refine Blk.drew ?_
        have := (((((((((((((((Hi.out.set_ 0 (.int .u32 (a0 : Int))).set_ 1 (.int .u32 (a1 : Int))).set_ 2 (.int .u8 6)).set_ 3 (.int .u8 (a3 : Int))).set_ 4 (.int .u8 (a4 : Int))).set_ 5 (.int .u16 (a5 : Int))).set_ 6 (.bool a6)).far (p := ⟨gj, 0, none⟩) hne_i_j (.int .u16 (b0 : Int))).far (p := ⟨gj, 1, none⟩) hne_i_j (.int .u16 (b1 : Int))).far (p := ⟨gj, 2, none⟩) hne_i_j (.int .u32 (b2 : Int))).far (p := ⟨gj, 3, none⟩) hne_i_j (.int .u32 (b3 : Int))).far (p := ⟨gj, 4, none⟩) hne_i_j (.int .u8 (b4 : Int))).far (p := ⟨gj, 5, none⟩) hne_i_j (.int .u16 (b5 : Int))).far (p := ⟨gj, 6, none⟩) hne_i_j (.int .u16 (b6 : Int))).far (p := ⟨gj, 7, none⟩) hne_i_j (.string ob))
        simpa using this
      have hy : Blk Wf gj 60 #[.int .u16 (b0 : Int), .int .u16 (b1 : Int), .int .u32 (b2 : Int), .int .u32 (b3 : Int), .int .u8 (b4 : Int), .int .u16 (b5 : Int), .int .u16 (b6 : Int), .string ob] := by
        rw [← hWf]
        refine Blk.drew ?_
        have := (((((((((((((((Hj.out.far (p := ⟨gi, 0, none⟩) (Ne.symm hne_i_j) (.int .u32 (a0 : Int))).far (p := ⟨gi, 1, none⟩) (Ne.symm hne_i_j) (.int .u32 (a1 : Int))).far (p := ⟨gi, 2, none⟩) (Ne.symm hne_i_j) (.int .u8 6)).far (p := ⟨gi, 3, none⟩) (Ne.symm hne_i_j) (.int .u8 (a3 : Int))).far (p := ⟨gi, 4, none⟩) (Ne.symm hne_i_j) (.int .u8 (a4 : Int))).far (p := ⟨gi, 5, none⟩) (Ne.symm hne_i_j) (.int .u16 (a5 : Int))).far (p := ⟨gi, 6, none⟩) (Ne.symm hne_i_j) (.bool a6)).set_ 0 (.int .u16 (b0 : Int))).set_ 1 (.int .u16 (b1 : Int))).set_ 2 (.int .u32 (b2 : Int))).set_ 3 (.int .u32 (b3 : Int))).set_ 4 (.int .u8 (b4 : Int))).set_ 5 (.int .u16 (b5 : Int))).set_ 6 (.int .u16 (b6 : Int))).set_ 7 (.string ob))
        simpa using this
      have hbz : Below w.heap.size w Wf := by
        rw [← hWf]
        refine Below.drew ?_
        repeat (first | (refine Below.setCell ?_ hle_i _) | (refine Below.setCell ?_ hle_j _))
        exact HB.out
      clear hWf f1 f2 c0 c1 c2 c3 c4 c5 c6 d0 d1 d2 d3 d4 d5 d6 d7 z0 z1 z2 z3 z4 z5 z6 y0 y1 y2 y3 y4 y5 y6 y7
      have z0 := hz.cell 0
      have z1 := hz.cell 1
      have z2 := hz.cell 2
      have z3 := hz.cell 3
      have z4 := hz.cell 4
      have z5 := hz.cell 5
      have z6 := hz.cell 6
      simp at z0 z1 z2 z3 z4 z5 z6
      have y0 := hy.cell 0
      have y1 := hy.cell 1
      have y2 := hy.cell 2
      have y3 := hy.cell 3
      have y4 := hy.cell 4
      have y5 := hy.cell 5
      have y6 := hy.cell 6
      have y7 := hy.cell 7
      simp at y0 y1 y2 y3 y4 y5 y6 y7
      go_wp2
      exact bodyPost_ret (v := .tuple #[.agg #[.int .u32 (a0 : Int), .int .u32 (a1 : Int), .int .u8 6, .int .u8 (a3 : Int), .int .u8 (a4 : Int), .int .u16 (a5 : Int), .bool a6], .agg #[.int .u16 (b0 : Int), .int .u16 (b1 : Int), .int .u32 (b2 : Int), .int .u32 (b3 : Int), .int .u8 (b4 : Int), .int .u16 (b5 : Int), .int .u16 (b6 : Int), .string ob], .string dd, .int .i64 (k2 : Int)]) (by simp [results, Try.results43, go_sem, z0, z1, z2, z3, z4, z5, z6, y0, y1, y2, y3, y4, y5, y6, y7]) rfl ⟨h, t, dd, k2, by rw [Hic.out, Htc.out, k1], hbz, E3.out⟩
    · subst hk
      have k1 : (a2 : Int) ≠ 6 := by omega
      have c0 := Hh.out.cell 0
      have c1 := Hh.out.cell 1
      have c2 := Hh.out.cell 2
      have c3 := Hh.out.cell 3
      have c4 := Hh.out.cell 4
      have c5 := Hh.out.cell 5
      have c6 := Hh.out.cell 6
      simp at c0 c1 c2 c3 c4 c5 c6
      go_wp2_with (first | (refine wpl_put Hi.out #[.int .u32 0, .int .u32 0, .int .u8 0, .int .u8 0, .int .u8 0, .int .u16 0, .bool false] ipI rfl (by kernel_rfl) rfl _ _ rfl rfl rfl rfl ?_) | (refine wpl_put (Hj.out.row_far (Ne.symm hne_i_j) #[.int .u32 0, .int .u32 0, .int .u8 0, .int .u8 0, .int .u8 0, .int .u16 0, .bool false]) #[.int .u16 0, .int .u16 0, .int .u32 0, .int .u32 0, .int .u8 0, .int .u16 0, .int .u16 0, .string ⟨#[]⟩] tcpI rfl (by kernel_rfl) rfl _ _ rfl rfl rfl rfl ?_))
      have hz := (Hi.out.row #[.int .u32 0, .int .u32 0, .int .u8 0, .int .u8 0, .int .u8 0, .int .u16 0, .bool false]).row_far hne_i_j #[.int .u16 0, .int .u16 0, .int .u32 0, .int .u32 0, .int .u8 0, .int .u16 0, .int .u16 0, .string ⟨#[]⟩]
      have hy := (Hj.out.row_far (Ne.symm hne_i_j) #[.int .u32 0, .int .u32 0, .int .u8 0, .int .u8 0, .int .u8 0, .int .u16 0, .bool false]).row #[.int .u16 0, .int .u16 0, .int .u32 0, .int .u32 0, .int .u8 0, .int .u16 0, .int .u16 0, .string ⟨#[]⟩]
      have hbz := below_row2 (below_row2 HB.out hle_i #[.int .u32 0, .int .u32 0, .int .u8 0, .int .u8 0, .int .u8 0, .int .u16 0, .bool false]) hle_j #[.int .u16 0, .int .u16 0, .int .u32 0, .int .u32 0, .int .u8 0, .int .u16 0, .int .u16 0, .string ⟨#[]⟩]
      generalize (World.setRow _ _ _).setRow _ _ = WZ at *
      have z0 := hz.cell 0
      have z1 := hz.cell 1
      have z2 := hz.cell 2
      have z3 := hz.cell 3
      have z4 := hz.cell 4
      have z5 := hz.cell 5
      have z6 := hz.cell 6
      simp at z0 z1 z2 z3 z4 z5 z6
      have y0 := hy.cell 0
      have y1 := hy.cell 1
      have y2 := hy.cell 2
      have y3 := hy.cell 3
      have y4 := hy.cell 4
      have y5 := hy.cell 5
      have y6 := hy.cell 6
      have y7 := hy.cell 7
      simp at y0 y1 y2 y3 y4 y5 y6 y7
      exact bodyPost_ret (v := .tuple #[.agg #[.int .u32 0, .int .u32 0, .int .u8 0, .int .u8 0, .int .u8 0, .int .u16 0, .bool false], .agg #[.int .u16 0, .int .u16 0, .int .u32 0, .int .u32 0, .int .u8 0, .int .u16 0, .int .u16 0, .string ⟨#[]⟩], .string ⟨#[]⟩, .int .i64 80]) (by simp [results, Try.results43, go_sem, z0, z1, z2, z3, z4, z5, z6, y0, y1, y2, y3, y4, y5, y6, y7]) rfl ⟨zIP, zTCP, ⟨#[]⟩, 80, rfl, hbz, hf_bad (by decide) (E2.out (by trivial) hq)⟩
  · have k1 : (k : Int) ≠ 0 := by omega
    go_wp2_with (first | (refine wpl_put Hi.out #[.int .u32 0, .int .u32 0, .int .u8 0, .int .u8 0, .int .u8 0, .int .u16 0, .bool false] ipI rfl (by kernel_rfl) rfl _ _ rfl rfl rfl rfl ?_) | (refine wpl_put (Hj.out.row_far (Ne.symm hne_i_j) #[.int .u32 0, .int .u32 0, .int .u8 0, .int .u8 0, .int .u8 0, .int .u16 0, .bool false]) #[.int .u16 0, .int .u16 0, .int .u32 0, .int .u32 0, .int .u8 0, .int .u16 0, .int .u16 0, .string ⟨#[]⟩] tcpI rfl (by kernel_rfl) rfl _ _ rfl rfl rfl rfl ?_))
    have hz := (Hi.out.row #[.int .u32 0, .int .u32 0, .int .u8 0, .int .u8 0, .int .u8 0, .int .u16 0, .bool false]).row_far hne_i_j #[.int .u16 0, .int .u16 0, .int .u32 0, .int .u32 0, .int .u8 0, .int .u16 0, .int .u16 0, .string ⟨#[]⟩]
    have hy := (Hj.out.row_far (Ne.symm hne_i_j) #[.int .u32 0, .int .u32 0, .int .u8 0, .int .u8 0, .int .u8 0, .int .u16 0, .bool false]).row #[.int .u16 0, .int .u16 0, .int .u32 0, .int .u32 0, .int .u8 0, .int .u16 0, .int .u16 0, .string ⟨#[]⟩]
    have hbz := below_row2 (below_row2 HB.out hle_i #[.int .u32 0, .int .u32 0, .int .u8 0, .int .u8 0, .int .u8 0, .int .u16 0, .bool false]) hle_j #[.int .u16 0, .int .u16 0, .int .u32 0, .int .u32 0, .int .u8 0, .int .u16 0, .int .u16 0, .string ⟨#[]⟩]
    generalize (World.setRow _ _ _).setRow _ _ = WZ at *
    have z0 := hz.cell 0
    have z1 := hz.cell 1
    have z2 := hz.cell 2
    have z3 := hz.cell 3
    have z4 := hz.cell 4
    have z5 := hz.cell 5
    have z6 := hz.cell 6
    simp at z0 z1 z2 z3 z4 z5 z6
    have y0 := hy.cell 0
    have y1 := hy.cell 1
    have y2 := hy.cell 2
    have y3 := hy.cell 3
    have y4 := hy.cell 4
    have y5 := hy.cell 5
    have y6 := hy.cell 6
    have y7 := hy.cell 7
    simp at y0 y1 y2 y3 y4 y5 y6 y7
    exact bodyPost_ret (v := .tuple #[.agg #[.int .u32 0, .int .u32 0, .int .u8 0, .int .u8 0, .int .u8 0, .int .u16 0, .bool false], .agg #[.int .u16 0, .int .u16 0, .int .u32 0, .int .u32 0, .int .u8 0, .int .u16 0, .int .u16 0, .string ⟨#[]⟩], .string ⟨#[]⟩, .int .i64 (k : Int)]) (by simp [results, Try.results43, go_sem, z0, z1, z2, z3, z4, z5, z6, y0, y1, y2, y3, y4, y5, y6, y7]) rfl ⟨zIP, zTCP, ⟨#[]⟩, k, rfl, hbz, hf_bad hk (E1.out hk)⟩
end Go.Proofs.Ytengegcnocdkoaa
end
