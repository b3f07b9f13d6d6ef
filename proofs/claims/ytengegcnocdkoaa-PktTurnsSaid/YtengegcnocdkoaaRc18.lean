/- Contracts and plain lemmas: PktOpen, PktHeads, PktLaid, PktRRewP. -/
import Derived.Deep.DeepCutAuto
import Derived.Test.YtengegcnocdkoaaRc17
import Derived.Test.YtengegcnocdkoaaRc5
import Derived.Test.YtengegcnocdkoaaRc11
import Derived.Test.YtengegcnocdkoaaRc8
import Derived.Test.YtengegcnocdkoaaRc13
import Derived.Test.YtengegcnocdkoaaRc15
set_option linter.unusedVariables false
set_option linter.unusedSimpArgs false
set_option linter.unusedSectionVars false
section
set_option maxRecDepth 20000
namespace Go.Proofs.Ytengegcnocdkoaa
open Go.RowKit Go.ChangeShapes Go.WideShapes Go.BigFrame
/-- what is known of a segment that came in -/
structure SgF (w : World) (s : Sg) (A : Option Addr) (c : Nat) : Prop where
  ok : s.wf
  r : BlR w A s.o.bl
  n : s.o.bl.length ≤ maxLen
  d : s.d.size ≤ maxLen
theorem nat_of {a : Int} {n : Nat} (h : 0 ≤ a ∧ a < (n : Int)) : ∃ k : Nat, a = (k : Int) ∧ k < n := ⟨a.toNat, by omega, by omega⟩
section
variable {H : Type} {enc : TypeId × Value → H} {w : World} {base : Nat}
theorem open_sg {r : Reach} {b0 : Nat} {v : Value} {d : DataW H} {p : List MemPlace} (hv : Value.okWide Try.prog w r b0 30 v) (h : DataW.Trod enc Try.prog w base (fun _ => true) true 30 v d p) :
    ∃ (s : Sg) (A : Option Addr) (c : Nat), v = .agg (s.c A c) ∧ SgF w s A c := by
  obtain ⟨s0, s1, s2, s3, s4, s5, f, s7, o, A, c, dd, rfl, hf⟩ := open_seg hv h
  obtain ⟨n0, rfl, h0⟩ := nat_of (n := 4294967296) hf.b0
  obtain ⟨n1, rfl, h1⟩ := nat_of (n := 65536) hf.b1
  obtain ⟨n2, rfl, h2⟩ := nat_of (n := 4294967296) hf.b2
  obtain ⟨n3, rfl, h3⟩ := nat_of (n := 65536) hf.b3
  obtain ⟨n4, rfl, h4⟩ := nat_of (n := 4294967296) hf.b4
  obtain ⟨n5, rfl, h5⟩ := nat_of (n := 4294967296) hf.b5
  obtain ⟨n7, rfl, h7⟩ := nat_of (n := 65536) hf.b7
  exact ⟨⟨n0, n1, n2, n3, n4, n5, f, n7, o, dd⟩, A, c, rfl, ⟨⟨h0, h1, h2, h3, h4, h5, hf.f, h7, hf.o.1⟩, hf.o.2.1, Nat.le_trans hf.o.2.2.1 hf.o.2.2.2, hf.d⟩⟩
theorem open_sh {r : Reach} {b0 : Nat} {v : Value} {d : DataW H} {p : List MemPlace} (hv : Value.okWide Try.prog w r b0 46 v) (h : DataW.Trod enc Try.prog w base (fun _ => true) true 46 v d p) :
    ∃ x : Sh, v = .agg x.c ∧ x.wf := by
  obtain ⟨x0, x1, x2, x3, x4, x5, x6, x7, x8, x9, rfl, hf⟩ := open_shift hv h
  obtain ⟨n0, rfl, h0⟩ := nat_of (n := 4294967296) hf.b0
  obtain ⟨n1, rfl, h1⟩ := nat_of (n := 65536) hf.b1
  obtain ⟨n2, rfl, h2⟩ := nat_of (n := 4294967296) hf.b2
  obtain ⟨n3, rfl, h3⟩ := nat_of (n := 65536) hf.b3
  obtain ⟨n4, rfl, h4⟩ := nat_of (n := 4294967296) hf.b4
  obtain ⟨n5, rfl, h5⟩ := nat_of (n := 4294967296) hf.b5
  obtain ⟨n6, rfl, h6⟩ := nat_of (n := 4294967296) hf.b6
  obtain ⟨n7, rfl, h7⟩ := nat_of (n := 4294967296) hf.b7
  exact ⟨⟨n0, n1, n2, n3, n4, n5, n6, n7, x8, x9⟩, rfl, ⟨h0, h1, h2, h3, h4, h5, h6, h7⟩⟩
end
def heavyB (s : Sg) : Bool := decide ((s.d.size : Int) > 4096) || decide ((s.o.bl.length : Int) > 100)
theorem heavy_sg (w : World) (s : Sg) (A : Option Addr) (c : Nat) (hn : s.o.bl.length ≤ maxLen) (hd : s.d.size ≤ maxLen) : Calls Try.prog 9 #[.agg (s.c A c)] w fun e w' => e = .returned (.bool (heavyB s)) ∧ Below w.heap.size w w' :=
  heavy_any w _ _ _ _ _ _ _ _ _ _ _ _ A _ c _ _ s.d hn hd
theorem heavyB_no {s : Sg} (h : heavyB s = false) : s.d.size ≤ 4096 ∧ s.o.bl.length ≤ 100 := by
  unfold heavyB at h
  rw [Bool.or_eq_false_iff, decide_eq_false_iff_not, decide_eq_false_iff_not] at h
  omega
theorem segT.is {s : Sg} {v : Value} {W : World} (h : segT s [v] W) : ∃ A c, v = .agg (s.c A c) ∧ BlR W A s.o.bl := by
  obtain ⟨A, c, h1, h2⟩ := h
  injection h1 with h1
  exact ⟨A, c, h1, h2⟩
section
variable {P : Program} {ops : Array Oper} {S : World → Prop} {R : World → World → Prop} {End : List Tmp → List Fc → Act → Prop} {rest : List Oper} {k : Nat} {T : List Tmp} {N : List Fc} {a : Act} {o : Oper}
/-- a call on two slots that are told by facts -/
theorem flow_callZ {d : Option Tmp} {f : FuncId} {y1 y2 : Tmp} {xs : Array Operand} {ts : Array TypeId} {t : TypeId} {ps : String} {af : Array Edge} {g : Option (Nat × Bool)}
    (hcf : ∀ (vals : Array Value) (w : World), (callFunc f vals).run P w = .ok (.enter f vals) w) (v : Value) (vals : Value → Value → Array Value) (j1 j2 : Nat) {i1 i2 : Nat} {ψ1 ψ2 : List Value → World → Prop} (hj1 : N[j1]? = some ⟨i1, [y1], ψ1⟩) (hj2 : N[j2]? = some ⟨i2, [y2], ψ2⟩) (hwt1 : waitsB { dst := d, op := .call { callee := .value (.func f), args := xs, argTypes := ts }, type := t, pos := ps, after := af, guard := g } i1 = true) (hwt2 : waitsB { dst := d, op := .call { callee := .value (.func f), args := xs, argTypes := ts }, type := t, pos := ps, after := af, guard := g } i2 = true)
    (hv : ∀ f', xs.toList.map (fillW T f' a).eval = (vals (f' y1) (f' y2)).toList) (hc : ∀ (x : Cls S) (u1 u2 : Value), ψ1 [u1] x.w → ψ2 [u2] x.w → Calls P f (vals u1 u2) x.w fun e w'' => e = .returned v ∧ S w'' ∧ R x.w w'')
    (hg : guardW ops T { dst := d, op := .call { callee := .value (.func f), args := xs, argTypes := ts }, type := t, pos := ps, after := af, guard := g } = true)
    (hw : Region.wanted { dst := d, op := .call { callee := .value (.func f), args := xs, argTypes := ts }, type := t, pos := ps, after := af, guard := g } (yielded ops a.tmps) = true) (w0 : World)
    (h : ∀ K : Act → Prop, (∀ a, wpW P ops S R End (k + 1) rest T N a → K a) → Oper.quiet P { dst := d, op := .assign (.const v), type := t, pos := "", after := #[], guard := none } a (fun _ => True) K) :
    wpW P ops S R End k ({ dst := d, op := .call { callee := .value (.func f), args := xs, argTypes := ts }, type := t, pos := ps, after := af, guard := g } :: rest) T N a :=
  flow_val v (fun w f' hS hN => by
    have hv' : xs.map (fillW T f' a).eval = vals (f' y1) (f' y2) := Array.ext' (by rw [Array.toList_map]; exact hv f')
    have he : (execOp (fillW T f' a).eval { dst := d, op := .call { callee := .value (.func f), args := xs, argTypes := ts }, type := t, pos := ps, after := af, guard := g }).run P w = .ok (.enter f (vals (f' y1) (f' y2))) w := by
      simp only [execOp, resolve, hv']
      simp [Act.eval, Deferred.ofValue, invoke, hcf]
    unfold gives
    rw [he]
    exact (hc ⟨w, hS⟩ (f' y1) (f' y2) (known_at hN j1 hj1 hwt1) (known_at hN j2 hj2 hwt2)).mono fun e w'' ⟨he, hs, hr⟩ => ⟨v, he, rfl, hs, hr⟩) hg hw w0 h
end
end Go.Proofs.Ytengegcnocdkoaa
end
section
set_option maxRecDepth 20000
namespace Go.Proofs.Ytengegcnocdkoaa
open Go.RowKit Go.BigFrame
theorem below_row2 {B x : Nat} {w W : World} (h : Below B w W) (hx : B ≤ x) (vs : Array Value) : Below B w (W.setRow x vs) :=
  ⟨h.os, h.tape, h.output, Nat.le_trans h.size (Nat.le_of_eq (size_row W x vs).symm), fun i hi => (heap_row W x vs i (by omega)).trans (h.block i hi)⟩
/-- what the reference's heads answers -/
structure HF (L : List UInt8) (h : I.IPh) (t : T.TCPh) (dd : ByteArray) (k : Nat) : Prop where
  bad : k ≠ 0 → pdecR L = (zeroSg, (k : Int))
  ok : k = 0 → I.decE L = 0 ∧ (hI L).proto = 6 ∧ T.decE (hI L).src (hI L).dst (L.drop 20) = 0 ∧ h = hI L ∧ t = hT L ∧ dd = dB L
  dd : dd.size ≤ L.length
def ipC (h : I.IPh) : Array Value := #[.int .u32 (h.src : Int), .int .u32 (h.dst : Int), .int .u8 (h.proto.toNat : Int), .int .u8 (h.ttl.toNat : Int), .int .u8 (h.tos.toNat : Int), .int .u16 (h.id : Int), .bool h.df]
def tcpC (t : T.TCPh) : Array Value := #[.int .u16 (t.src : Int), .int .u16 (t.dst : Int), .int .u32 (t.seq : Int), .int .u32 (t.ack : Int), .int .u8 (t.flags.toNat : Int), .int .u16 (t.window : Int), .int .u16 (t.urgent : Int), .string t.opts]
def zIP : I.IPh := ⟨0, 0, 0, 0, 0, 0, false⟩
def zTCP : T.TCPh := ⟨0, 0, 0, 0, 0, 0, 0, ⟨#[]⟩⟩
def HeadPost (w : World) (L : List UInt8) (e : Ending) (w' : World) : Prop :=
  ∃ (h : I.IPh) (t : T.TCPh) (dd : ByteArray) (k : Nat), e = .returned (.tuple #[.agg (ipC h), .agg (tcpC t), .string dd, .int .i64 (k : Int)]) ∧ Below w.heap.size w w' ∧ HF L h t dd k
theorem hf_bad {L : List UInt8} {k : Nat} (h0 : k ≠ 0) (h : pdecR L = (zeroSg, (k : Int))) : HF L zIP zTCP ⟨#[]⟩ k := ⟨fun _ => h, fun e => absurd e h0, by show 0 ≤ _; omega⟩
theorem hf_of {L : List UInt8} {h : I.IPh} {ld : ByteArray} {t : T.TCPh} {dd : ByteArray} {k2 : Nat} (p : PD L h ld 0) (q : PT h.src h.dst ld.data.toList t dd k2) (hp : h.proto.toNat = 6) : HF L h t dd k2 := by
  refine ⟨fun h2 => PD.tcp p q rfl hp h2, fun h2 => ?_, ?_⟩
  · obtain ⟨a, b, c, d, e⟩ := PD.parts p q rfl hp
    obtain ⟨e1, e2⟩ := e h2
    exact ⟨a, b, c.trans h2, d, e1, e2⟩
  · have := q.dd; have := p.ld; have e : ld.data.toList.length = ld.size := rfl; omega
set_option maxHeartbeats 4000000 in
theorem heads_any (x : ByteArray) (L : List UInt8) (hL : x.data.toList = L) (hx : L.length ≤ 131072) (w : World) : Calls Try.prog 43 #[.string x] w (HeadPost w L) := by
  obtain ⟨h, ld, k, hp⟩ := pd_of L
  obtain ⟨t, dd, k2, hq⟩ := pt_of h.src h.dst ld.data.toList
  have hxs : x.size = L.length := by rw [← hL]; rfl
  have hdi := fun W => I.ref_dec_all x W (by omega)
  rw [hL, hp.v] at hdi
  have hdt := fun W => T.ref_dec_all h.src h.dst ld W hp.src hp.dst (by have := hp.ld; omega)
  rw [hq.v] at hdt
  have e1 := hp.bad
  have e2 := hp.proto
  have e3 : k = 0 → h.proto.toNat = 6 → HF L h t dd k2 := fun h0 h1 => by subst h0; exact hf_of hp hq h1
  have hic : ipC h = #[.int .u32 (h.src : Int), .int .u32 (h.dst : Int), .int .u8 (h.proto.toNat : Int), .int .u8 (h.ttl.toNat : Int), .int .u8 (h.tos.toNat : Int), .int .u16 (h.id : Int), .bool h.df] := rfl
  have htc : tcpC t = #[.int .u16 (t.src : Int), .int .u16 (t.dst : Int), .int .u32 (t.seq : Int), .int .u32 (t.ack : Int), .int .u8 (t.flags.toNat : Int), .int .u16 (t.window : Int), .int .u16 (t.urgent : Int), .string t.opts] := rfl
  clear hp hq hL hx hxs
  generalize h.src = a0 at *
  generalize h.dst = a1 at *
  generalize h.proto.toNat = a2 at *
  generalize h.ttl.toNat = a3 at *
  generalize h.tos.toNat = a4 at *
  generalize h.id = a5 at *
  generalize h.df = a6 at *
  generalize t.src = b0 at *
  generalize t.dst = b1 at *
  generalize t.seq = b2 at *
  generalize t.ack = b3 at *
  generalize t.flags.toNat = b4 at *
  generalize t.window = b5 at *
  generalize t.urgent = b6 at *
  generalize t.opts = ob at *
  have hb0 : Below w.heap.size w w := Below.refl _ _
  have HB := Lib.hid hb0
  clear hb0
  have Hdi := Lib.hid hdi
  clear hdi
  have Hdt := Lib.hid hdt
  clear hdt
  have E1 := Lib.hid e1
  clear e1
  have E2 := Lib.hid e2
  clear e2
  have E3 := Lib.hid e3
  clear e3
  have Hic := Lib.hid hic
  clear hic
  have Htc := Lib.hid htc
  clear htc
  go_enter Try.func43, Try.ntmps43
  go_upto_region 1 with fail
  have hi := Blk.alloc (Blk.new w 63 #[.int .u32 0, .int .u32 0, .int .u8 0, .int .u8 0, .int .u8 0, .int .u16 0, .bool false]) (.cells #[.int .u16 0, .int .u16 0, .int .u32 0, .int .u32 0, .int .u8 0, .int .u16 0, .int .u16 0, .string ⟨#[]⟩] 60)
  have hj := Blk.new (w.alloc (.cells #[.int .u32 0, .int .u32 0, .int .u8 0, .int .u8 0, .int .u8 0, .int .u16 0, .bool false] 63)) 60 #[.int .u16 0, .int .u16 0, .int .u32 0, .int .u32 0, .int .u8 0, .int .u16 0, .int .u16 0, .string ⟨#[]⟩]
  rw [show (w.alloc (.cells #[.int .u32 0, .int .u32 0, .int .u8 0, .int .u8 0, .int .u8 0, .int .u16 0, .bool false] 63)).heap.size = w.heap.size + 1 by simp] at hj
  have hB := Below.alloc (Below.alloc (HB.out) (Nat.le_trans HB.out.size (by simp <;> omega)) (.cells #[.int .u32 0, .int .u32 0, .int .u8 0, .int .u8 0, .int .u8 0, .int .u16 0, .bool false] 63)) (Nat.le_trans HB.out.size (by simp <;> omega)) (.cells #[.int .u16 0, .int .u16 0, .int .u32 0, .int .u32 0, .int .u8 0, .int .u16 0, .int .u16 0, .string ⟨#[]⟩] 60)
  clear HB
  obtain ⟨gj, hgej⟩ : ∃ g, g = w.heap.size + 1 := ⟨_, rfl⟩
  rw [← hgej] at hj ⊢
  obtain ⟨gi, hgei⟩ : ∃ g, g = w.heap.size := ⟨_, rfl⟩
  rw [← hgei] at hi ⊢
  have hne_i_j : gi ≠ gj := by omega
  have hle_i : w.heap.size ≤ gi := by omega
  have hle_j : w.heap.size ≤ gj := by omega
  clear hgei hgej
  generalize (w.alloc _).alloc _ = wn1 at *
  have Hi := Lib.hid hi
  clear hi
  have Hj := Lib.hid hj
  clear hj
  have HB := Lib.hid hB
  clear hB
  obtain ⟨w1, hwnw1⟩ : ∃ W, W = wn1 := ⟨_, rfl⟩
  rw [← hwnw1] at Hi Hj HB ⊢
  clear hwnw1
  go_wp2_with fail
  (with_reducible refine (Hdi.out _).mono ?_)
  rintro e w2 ⟨rfl, hbq⟩
  have hi := Hi.out.below hbq Hi.out.lt
  clear Hi
  have Hi := Lib.hid hi
  clear hi
  have hj := Hj.out.below hbq Hj.out.lt
  clear Hj
  have Hj := Lib.hid hj
  clear hj
  have hB := HB.out.trans (hbq.mono HB.out.size)
  clear HB
  have HB := Lib.hid hB
  clear hB
  clear hbq
  go_upto_region 2 with (first | (refine wpl_put_new rfl #[.int .u32 (a0 : Int), .int .u32 (a1 : Int), .int .u8 (a2 : Int), .int .u8 (a3 : Int), .int .u8 (a4 : Int), .int .u16 (a5 : Int), .bool a6] ipI rfl (by kernel_rfl) rfl _ _ rfl rfl rfl rfl ?_))
  have li := Hi.out.lt
  have lj := Hj.out.lt
  have hh := Blk.new w2 63 #[.int .u32 (a0 : Int), .int .u32 (a1 : Int), .int .u8 (a2 : Int), .int .u8 (a3 : Int), .int .u8 (a4 : Int), .int .u16 (a5 : Int), .bool a6]
  have hi := Blk.alloc Hi.out (.cells #[.int .u32 (a0 : Int), .int .u32 (a1 : Int), .int .u8 (a2 : Int), .int .u8 (a3 : Int), .int .u8 (a4 : Int), .int .u16 (a5 : Int), .bool a6] 63)
  clear Hi
  have hj := Blk.alloc Hj.out (.cells #[.int .u32 (a0 : Int), .int .u32 (a1 : Int), .int .u8 (a2 : Int), .int .u8 (a3 : Int), .int .u8 (a4 : Int), .int .u16 (a5 : Int), .bool a6] 63)
  clear Hj
  have hB := HB.out.alloc HB.out.size (.cells #[.int .u32 (a0 : Int), .int .u32 (a1 : Int), .int .u8 (a2 : Int), .int .u8 (a3 : Int), .int .u8 (a4 : Int), .int .u16 (a5 : Int), .bool a6] 63)
  clear HB
  obtain ⟨gh, hge⟩ : ∃ g, g = w2.heap.size := ⟨_, rfl⟩
  rw [← hge] at hh ⊢
  have hle_h : w2.heap.size ≤ gh := by omega
  clear hge
  generalize w2.alloc _ = w3 at *
  have Hi := Lib.hid hi
  clear hi
  have Hj := Lib.hid hj
  clear hj
  have Hh := Lib.hid hh
  clear hh
  have HB := Lib.hid hB
  clear hB
  have n1 : gh ≠ gi := by omega
  have n2 : gh ≠ gj := by omega
  clear li lj hle_h
  by_cases hk : k = 0
  · by_cases hq : a2 = 6
    · subst hk
      have k1 : (a2 : Int) = 6 := by omega
      have c0 := Hh.out.cell 0
      have c1 := Hh.out.cell 1
      have c2 := Hh.out.cell 2
      have c3 := Hh.out.cell 3
      have c4 := Hh.out.cell 4
      have c5 := Hh.out.cell 5
      have c6 := Hh.out.cell 6
      simp at c0 c1 c2 c3 c4 c5 c6
      go_wp2_with fail
      (with_reducible refine (Hdt.out _).mono ?_)
      rintro e w4 ⟨rfl, hbq⟩
      have hi := Hi.out.below hbq Hi.out.lt
      clear Hi
      have Hi := Lib.hid hi
      clear hi
      have hj := Hj.out.below hbq Hj.out.lt
      clear Hj
      have Hj := Lib.hid hj
      clear hj
      have hh := Hh.out.below hbq Hh.out.lt
      clear Hh
      have Hh := Lib.hid hh
      clear hh
      have hB := HB.out.trans (hbq.mono HB.out.size)
      clear HB
      have HB := Lib.hid hB
      clear hB
      clear hbq
      go_upto_region 7 with (first | (refine wpl_put_new rfl #[.int .u16 (b0 : Int), .int .u16 (b1 : Int), .int .u32 (b2 : Int), .int .u32 (b3 : Int), .int .u8 (b4 : Int), .int .u16 (b5 : Int), .int .u16 (b6 : Int), .string ob] tcpI rfl (by kernel_rfl) rfl _ _ rfl rfl rfl rfl ?_))
      clear c0 c1 c2 c3 c4 c5 c6
      have li := Hi.out.lt
      have lj := Hj.out.lt
      have ht := Blk.new w4 60 #[.int .u16 (b0 : Int), .int .u16 (b1 : Int), .int .u32 (b2 : Int), .int .u32 (b3 : Int), .int .u8 (b4 : Int), .int .u16 (b5 : Int), .int .u16 (b6 : Int), .string ob]
      have hi := Blk.alloc Hi.out (.cells #[.int .u16 (b0 : Int), .int .u16 (b1 : Int), .int .u32 (b2 : Int), .int .u32 (b3 : Int), .int .u8 (b4 : Int), .int .u16 (b5 : Int), .int .u16 (b6 : Int), .string ob] 60)
      clear Hi
      have hj := Blk.alloc Hj.out (.cells #[.int .u16 (b0 : Int), .int .u16 (b1 : Int), .int .u32 (b2 : Int), .int .u32 (b3 : Int), .int .u8 (b4 : Int), .int .u16 (b5 : Int), .int .u16 (b6 : Int), .string ob] 60)
      clear Hj
      have hh := Blk.alloc Hh.out (.cells #[.int .u16 (b0 : Int), .int .u16 (b1 : Int), .int .u32 (b2 : Int), .int .u32 (b3 : Int), .int .u8 (b4 : Int), .int .u16 (b5 : Int), .int .u16 (b6 : Int), .string ob] 60)
      clear Hh
      have hB := HB.out.alloc HB.out.size (.cells #[.int .u16 (b0 : Int), .int .u16 (b1 : Int), .int .u32 (b2 : Int), .int .u32 (b3 : Int), .int .u8 (b4 : Int), .int .u16 (b5 : Int), .int .u16 (b6 : Int), .string ob] 60)
      clear HB
      obtain ⟨gt, hge⟩ : ∃ g, g = w4.heap.size := ⟨_, rfl⟩
      rw [← hge] at ht ⊢
      have hle_t : w4.heap.size ≤ gt := by omega
      clear hge
      generalize w4.alloc _ = w5 at *
      have Hi := Lib.hid hi
      clear hi
      have Hj := Lib.hid hj
      clear hj
      have Hh := Lib.hid hh
      clear hh
      have Ht := Lib.hid ht
      clear ht
      have HB := Lib.hid hB
      clear hB
      have n3 : gt ≠ gi := by omega
      have n4 : gt ≠ gj := by omega
      clear li lj hle_t
      have e3 := E3.out (by trivial) hq
      have hb5 := HB.out
      have n1' := Ne.symm n1
      have n2' := Ne.symm n2
      have n3' := Ne.symm n3
      have n4' := Ne.symm n4
      have n5 := hne_i_j
      have n5' := Ne.symm hne_i_j
      clear E3
      have E3 := Lib.hid e3
      clear e3
      have c0 := Hh.out.cell 0
      have c1 := Hh.out.cell 1
      have c2 := Hh.out.cell 2
      have c3 := Hh.out.cell 3
      have c4 := Hh.out.cell 4
      have c5 := Hh.out.cell 5
      have c6 := Hh.out.cell 6
      simp at c0 c1 c2 c3 c4 c5 c6
      have d0 := Ht.out.cell 0
      have d1 := Ht.out.cell 1
      have d2 := Ht.out.cell 2
      have d3 := Ht.out.cell 3
      have d4 := Ht.out.cell 4
      have d5 := Ht.out.cell 5
      have d6 := Ht.out.cell 6
      have d7 := Ht.out.cell 7
      simp at d0 d1 d2 d3 d4 d5 d6 d7
      have z0 := Hi.out.cell 0
      have z1 := Hi.out.cell 1
      have z2 := Hi.out.cell 2
      have z3 := Hi.out.cell 3
      have z4 := Hi.out.cell 4
      have z5 := Hi.out.cell 5
      have z6 := Hi.out.cell 6
      simp at z0 z1 z2 z3 z4 z5 z6
      have y0 := Hj.out.cell 0
      have y1 := Hj.out.cell 1
      have y2 := Hj.out.cell 2
      have y3 := Hj.out.cell 3
      have y4 := Hj.out.cell 4
      have y5 := Hj.out.cell 5
      have y6 := Hj.out.cell 6
      have y7 := Hj.out.cell 7
      simp at y0 y1 y2 y3 y4 y5 y6 y7
      have f1 := Hi.out.frozen
      have f2 := Hj.out.frozen
      clear hb5
      go_region
      generalize hWf : World.drew _ = Wf
      have hz : Blk Wf gi 63 #[.int .u32 (a0 : Int), .int .u32 (a1 : Int), .int .u8 6, .int .u8 (a3 : Int), .int .u8 (a4 : Int), .int .u16 (a5 : Int), .bool a6] := by
        rw [← hWf]
        refine Blk.drew ?_
        have := (((((((((((((((Hi.out.set_ 0 (.int .u32 (a0 : Int))).set_ 1 (.int .u32 (a1 : Int))).set_ 2 (.int .u8 6)).set_ 3 (.int .u8 (a3 : Int))).set_ 4 (.int .u8 (a4 : Int))).set_ 5 (.int .u16 (a5 : Int))).set_ 6 (.bool a6)).far (p := ⟨gj, 0, none⟩) hne_i_j (.int .u16 (b0 : Int))).far (p := ⟨gj, 1, none⟩) hne_i_j (.int .u16 (b1 : Int))).far (p := ⟨gj, 2, none⟩) hne_i_j (.int .u32 (b2 : Int))).far (p := ⟨gj, 3, none⟩) hne_i_j (.int .u32 (b3 : Int))).far (p := ⟨gj, 4, none⟩) hne_i_j (.int .u8 (b4 : Int))).far (p := ⟨gj, 5, none⟩) hne_i_j (.int .u16 (b5 : Int))).far (p := ⟨gj, 6, none⟩) hne_i_j (.int .u16 (b6 : Int))).far (p := ⟨gj, 7, none⟩) hne_i_j (.string ob))
        simpa using this
      have hy : Blk Wf gj 60 #[.int .u16 (b0 : Int), .int .u16 (b1 : Int), .int .u32 (b2 : Int), .int .u32 (b3 : Int), .int .u8 (b4 : Int), .int .u16 (b5 : Int), .int .u16 (b6 : Int), .string ob] := by
        rw [← hWf]
        refine Blk.drew ?_
        have := (((((((((((((((Hj.out.far (p := ⟨gi, 0, none⟩) (Ne.symm hne_i_j) (.int .u32 (a0 : Int))).far (p := ⟨gi, 1, none⟩) (Ne.symm hne_i_j) (.int .u32 (a1 : Int))).far (p := ⟨gi, 2, none⟩) (Ne.symm hne_i_j) (.int .u8 6)).far (p := ⟨gi, 3, none⟩) (Ne.symm hne_i_j) (.int .u8 (a3 : Int))).far (p := ⟨gi, 4, none⟩) (Ne.symm hne_i_j) (.int .u8 (a4 : Int))).far (p := ⟨gi, 5, none⟩) (Ne.symm hne_i_j) (.int .u16 (a5 : Int))).far (p := ⟨gi, 6, none⟩) (Ne.symm hne_i_j) (.bool a6)).set_ 0 (.int .u16 (b0 : Int))).set_ 1 (.int .u16 (b1 : Int))).set_ 2 (.int .u32 (b2 : Int))).set_ 3 (.int .u32 (b3 : Int))).set_ 4 (.int .u8 (b4 : Int))).set_ 5 (.int .u16 (b5 : Int))).set_ 6 (.int .u16 (b6 : Int))).set_ 7 (.string ob))
        simpa using this
      have hbz : Below w.heap.size w Wf := by
        rw [← hWf]
        refine Below.drew ?_
        repeat (first | (refine Below.setCell ?_ hle_i _) | (refine Below.setCell ?_ hle_j _))
        exact HB.out
      clear hWf f1 f2 c0 c1 c2 c3 c4 c5 c6 d0 d1 d2 d3 d4 d5 d6 d7 z0 z1 z2 z3 z4 z5 z6 y0 y1 y2 y3 y4 y5 y6 y7
      have z0 := hz.cell 0
      have z1 := hz.cell 1
      have z2 := hz.cell 2
      have z3 := hz.cell 3
      have z4 := hz.cell 4
      have z5 := hz.cell 5
      have z6 := hz.cell 6
      simp at z0 z1 z2 z3 z4 z5 z6
      have y0 := hy.cell 0
      have y1 := hy.cell 1
      have y2 := hy.cell 2
      have y3 := hy.cell 3
      have y4 := hy.cell 4
      have y5 := hy.cell 5
      have y6 := hy.cell 6
      have y7 := hy.cell 7
      simp at y0 y1 y2 y3 y4 y5 y6 y7
      go_wp2
      exact bodyPost_ret (v := .tuple #[.agg #[.int .u32 (a0 : Int), .int .u32 (a1 : Int), .int .u8 6, .int .u8 (a3 : Int), .int .u8 (a4 : Int), .int .u16 (a5 : Int), .bool a6], .agg #[.int .u16 (b0 : Int), .int .u16 (b1 : Int), .int .u32 (b2 : Int), .int .u32 (b3 : Int), .int .u8 (b4 : Int), .int .u16 (b5 : Int), .int .u16 (b6 : Int), .string ob], .string dd, .int .i64 (k2 : Int)]) (by simp [results, Try.results43, go_sem, z0, z1, z2, z3, z4, z5, z6, y0, y1, y2, y3, y4, y5, y6, y7]) rfl ⟨h, t, dd, k2, by rw [Hic.out, Htc.out, k1], hbz, E3.out⟩
    · subst hk
      have k1 : (a2 : Int) ≠ 6 := by omega
      have c0 := Hh.out.cell 0
      have c1 := Hh.out.cell 1
      have c2 := Hh.out.cell 2
      have c3 := Hh.out.cell 3
      have c4 := Hh.out.cell 4
      have c5 := Hh.out.cell 5
      have c6 := Hh.out.cell 6
      simp at c0 c1 c2 c3 c4 c5 c6
      go_wp2_with (first | (refine wpl_put Hi.out #[.int .u32 0, .int .u32 0, .int .u8 0, .int .u8 0, .int .u8 0, .int .u16 0, .bool false] ipI rfl (by kernel_rfl) rfl _ _ rfl rfl rfl rfl ?_) | (refine wpl_put (Hj.out.row_far (Ne.symm hne_i_j) #[.int .u32 0, .int .u32 0, .int .u8 0, .int .u8 0, .int .u8 0, .int .u16 0, .bool false]) #[.int .u16 0, .int .u16 0, .int .u32 0, .int .u32 0, .int .u8 0, .int .u16 0, .int .u16 0, .string ⟨#[]⟩] tcpI rfl (by kernel_rfl) rfl _ _ rfl rfl rfl rfl ?_))
      have hz := (Hi.out.row #[.int .u32 0, .int .u32 0, .int .u8 0, .int .u8 0, .int .u8 0, .int .u16 0, .bool false]).row_far hne_i_j #[.int .u16 0, .int .u16 0, .int .u32 0, .int .u32 0, .int .u8 0, .int .u16 0, .int .u16 0, .string ⟨#[]⟩]
      have hy := (Hj.out.row_far (Ne.symm hne_i_j) #[.int .u32 0, .int .u32 0, .int .u8 0, .int .u8 0, .int .u8 0, .int .u16 0, .bool false]).row #[.int .u16 0, .int .u16 0, .int .u32 0, .int .u32 0, .int .u8 0, .int .u16 0, .int .u16 0, .string ⟨#[]⟩]
      have hbz := below_row2 (below_row2 HB.out hle_i #[.int .u32 0, .int .u32 0, .int .u8 0, .int .u8 0, .int .u8 0, .int .u16 0, .bool false]) hle_j #[.int .u16 0, .int .u16 0, .int .u32 0, .int .u32 0, .int .u8 0, .int .u16 0, .int .u16 0, .string ⟨#[]⟩]
      generalize (World.setRow _ _ _).setRow _ _ = WZ at *
      have z0 := hz.cell 0
      have z1 := hz.cell 1
      have z2 := hz.cell 2
      have z3 := hz.cell 3
      have z4 := hz.cell 4
      have z5 := hz.cell 5
      have z6 := hz.cell 6
      simp at z0 z1 z2 z3 z4 z5 z6
      have y0 := hy.cell 0
      have y1 := hy.cell 1
      have y2 := hy.cell 2
      have y3 := hy.cell 3
      have y4 := hy.cell 4
      have y5 := hy.cell 5
      have y6 := hy.cell 6
      have y7 := hy.cell 7
      simp at y0 y1 y2 y3 y4 y5 y6 y7
      exact bodyPost_ret (v := .tuple #[.agg #[.int .u32 0, .int .u32 0, .int .u8 0, .int .u8 0, .int .u8 0, .int .u16 0, .bool false], .agg #[.int .u16 0, .int .u16 0, .int .u32 0, .int .u32 0, .int .u8 0, .int .u16 0, .int .u16 0, .string ⟨#[]⟩], .string ⟨#[]⟩, .int .i64 80]) (by simp [results, Try.results43, go_sem, z0, z1, z2, z3, z4, z5, z6, y0, y1, y2, y3, y4, y5, y6, y7]) rfl ⟨zIP, zTCP, ⟨#[]⟩, 80, rfl, hbz, hf_bad (by decide) (E2.out (by trivial) hq)⟩
  · have k1 : (k : Int) ≠ 0 := by omega
    go_wp2_with (first | (refine wpl_put Hi.out #[.int .u32 0, .int .u32 0, .int .u8 0, .int .u8 0, .int .u8 0, .int .u16 0, .bool false] ipI rfl (by kernel_rfl) rfl _ _ rfl rfl rfl rfl ?_) | (refine wpl_put (Hj.out.row_far (Ne.symm hne_i_j) #[.int .u32 0, .int .u32 0, .int .u8 0, .int .u8 0, .int .u8 0, .int .u16 0, .bool false]) #[.int .u16 0, .int .u16 0, .int .u32 0, .int .u32 0, .int .u8 0, .int .u16 0, .int .u16 0, .string ⟨#[]⟩] tcpI rfl (by kernel_rfl) rfl _ _ rfl rfl rfl rfl ?_))
    have hz := (Hi.out.row #[.int .u32 0, .int .u32 0, .int .u8 0, .int .u8 0, .int .u8 0, .int .u16 0, .bool false]).row_far hne_i_j #[.int .u16 0, .int .u16 0, .int .u32 0, .int .u32 0, .int .u8 0, .int .u16 0, .int .u16 0, .string ⟨#[]⟩]
    have hy := (Hj.out.row_far (Ne.symm hne_i_j) #[.int .u32 0, .int .u32 0, .int .u8 0, .int .u8 0, .int .u8 0, .int .u16 0, .bool false]).row #[.int .u16 0, .int .u16 0, .int .u32 0, .int .u32 0, .int .u8 0, .int .u16 0, .int .u16 0, .string ⟨#[]⟩]
    have hbz := below_row2 (below_row2 HB.out hle_i #[.int .u32 0, .int .u32 0, .int .u8 0, .int .u8 0, .int .u8 0, .int .u16 0, .bool false]) hle_j #[.int .u16 0, .int .u16 0, .int .u32 0, .int .u32 0, .int .u8 0, .int .u16 0, .int .u16 0, .string ⟨#[]⟩]
    generalize (World.setRow _ _ _).setRow _ _ = WZ at *
    have z0 := hz.cell 0
    have z1 := hz.cell 1
    have z2 := hz.cell 2
    have z3 := hz.cell 3
    have z4 := hz.cell 4
    have z5 := hz.cell 5
    have z6 := hz.cell 6
    simp at z0 z1 z2 z3 z4 z5 z6
    have y0 := hy.cell 0
    have y1 := hy.cell 1
    have y2 := hy.cell 2
    have y3 := hy.cell 3
    have y4 := hy.cell 4
    have y5 := hy.cell 5
    have y6 := hy.cell 6
    have y7 := hy.cell 7
    simp at y0 y1 y2 y3 y4 y5 y6 y7
    exact bodyPost_ret (v := .tuple #[.agg #[.int .u32 0, .int .u32 0, .int .u8 0, .int .u8 0, .int .u8 0, .int .u16 0, .bool false], .agg #[.int .u16 0, .int .u16 0, .int .u32 0, .int .u32 0, .int .u8 0, .int .u16 0, .int .u16 0, .string ⟨#[]⟩], .string ⟨#[]⟩, .int .i64 (k : Int)]) (by simp [results, Try.results43, go_sem, z0, z1, z2, z3, z4, z5, z6, y0, y1, y2, y3, y4, y5, y6, y7]) rfl ⟨zIP, zTCP, ⟨#[]⟩, k, rfl, hbz, hf_bad hk (E1.out hk)⟩
end Go.Proofs.Ytengegcnocdkoaa
end
section
set_option maxRecDepth 20000
namespace Go.Proofs.Ytengegcnocdkoaa
open Go.RowKit Go.BigFrame
/-- a packet's bytes with a segment's fields and other options' bytes -/
def laidL (L : List UInt8) (s : Sg) (O : List UInt8) : List UInt8 := L.take 12 ++ be4 s.s0 ++ be4 s.s2 ++ be2 s.s1 ++ be2 s.s3 ++ be4 s.s4 ++ be4 s.s5 ++ (L.drop 32).take 2 ++ be2 s.s7 ++ (L.drop 36).take 4 ++ O ++ L.drop (40 + O.length)
theorem cat_l (a b : ByteArray) : (a ++ b).data.toList = a.data.toList ++ b.data.toList := by simp [ByteArray.data_append]
set_option maxHeartbeats 4000000 in
theorem laid_any (x : ByteArray) (L : List UInt8) (hL : x.data.toList = L) (hx : L.length ≤ 4096) (s : Sg) (hs : s.wf) (A : Option Addr) (c : Nat) (O : ByteArray) (Ol : List UInt8) (hO : O.data.toList = Ol) (hOl : Ol.length ≤ 40) (h40 : 40 + Ol.length ≤ L.length) (w : World) :
    Calls Try.prog 52 #[.string x, .agg (s.c A c), .string O] w fun e w' => e = .returned (.string ⟨(laidL L s Ol).toArray⟩) ∧ Below w.heap.size w w' := by
  have hxs : x.size = L.length := by rw [← hL]; rfl
  have hOs : O.size = Ol.length := by rw [← hO]; rfl
  obtain ⟨P0, hP0⟩ : ∃ X : ByteArray, X = x.extract 0 12 := ⟨_, rfl⟩
  obtain ⟨P7, hP7⟩ : ∃ X : ByteArray, X = x.extract 32 34 := ⟨_, rfl⟩
  obtain ⟨P9, hP9⟩ : ∃ X : ByteArray, X = x.extract 36 40 := ⟨_, rfl⟩
  obtain ⟨P1, hP1⟩ : ∃ X : ByteArray, X = ⟨(be4 s.s0).toArray⟩ := ⟨_, rfl⟩
  obtain ⟨P2, hP2⟩ : ∃ X : ByteArray, X = ⟨(be4 s.s2).toArray⟩ := ⟨_, rfl⟩
  obtain ⟨P3, hP3⟩ : ∃ X : ByteArray, X = ⟨(be2 s.s1).toArray⟩ := ⟨_, rfl⟩
  obtain ⟨P4, hP4⟩ : ∃ X : ByteArray, X = ⟨(be2 s.s3).toArray⟩ := ⟨_, rfl⟩
  obtain ⟨P5, hP5⟩ : ∃ X : ByteArray, X = ⟨(be4 s.s4).toArray⟩ := ⟨_, rfl⟩
  obtain ⟨P6, hP6⟩ : ∃ X : ByteArray, X = ⟨(be4 s.s5).toArray⟩ := ⟨_, rfl⟩
  obtain ⟨P8, hP8⟩ : ∃ X : ByteArray, X = ⟨(be2 s.s7).toArray⟩ := ⟨_, rfl⟩
  have z0 : P0.size = 12 := by rw [hP0, ByteArray.size_extract]; omega
  have z7 : P7.size = 2 := by rw [hP7, ByteArray.size_extract]; omega
  have z9 : P9.size = 4 := by rw [hP9, ByteArray.size_extract]; omega
  have z1 : P1.size = 4 := by rw [hP1]; rfl
  have z2 : P2.size = 4 := by rw [hP2]; rfl
  have z3 : P3.size = 2 := by rw [hP3]; rfl
  have z4 : P4.size = 2 := by rw [hP4]; rfl
  have z5 : P5.size = 4 := by rw [hP5]; rfl
  have z6 : P6.size = 4 := by rw [hP6]; rfl
  have z8 : P8.size = 2 := by rw [hP8]; rfl
  obtain ⟨U1, hU1⟩ : ∃ X : ByteArray, X = P0 ++ P1 := ⟨_, rfl⟩
  have u1 : U1.size = 16 := by rw [hU1, ByteArray.size_append, z0, z1]
  obtain ⟨U2, hU2⟩ : ∃ X : ByteArray, X = U1 ++ P2 := ⟨_, rfl⟩
  have u2 : U2.size = 20 := by rw [hU2, ByteArray.size_append, u1, z2]
  obtain ⟨U3, hU3⟩ : ∃ X : ByteArray, X = U2 ++ P3 := ⟨_, rfl⟩
  have u3 : U3.size = 22 := by rw [hU3, ByteArray.size_append, u2, z3]
  obtain ⟨U4, hU4⟩ : ∃ X : ByteArray, X = U3 ++ P4 := ⟨_, rfl⟩
  have u4 : U4.size = 24 := by rw [hU4, ByteArray.size_append, u3, z4]
  obtain ⟨U5, hU5⟩ : ∃ X : ByteArray, X = U4 ++ P5 := ⟨_, rfl⟩
  have u5 : U5.size = 28 := by rw [hU5, ByteArray.size_append, u4, z5]
  obtain ⟨U6, hU6⟩ : ∃ X : ByteArray, X = U5 ++ P6 := ⟨_, rfl⟩
  have u6 : U6.size = 32 := by rw [hU6, ByteArray.size_append, u5, z6]
  obtain ⟨U7, hU7⟩ : ∃ X : ByteArray, X = U6 ++ P7 := ⟨_, rfl⟩
  have u7 : U7.size = 34 := by rw [hU7, ByteArray.size_append, u6, z7]
  obtain ⟨U8, hU8⟩ : ∃ X : ByteArray, X = U7 ++ P8 := ⟨_, rfl⟩
  have u8 : U8.size = 36 := by rw [hU8, ByteArray.size_append, u7, z8]
  obtain ⟨U9, hU9⟩ : ∃ X : ByteArray, X = U8 ++ P9 := ⟨_, rfl⟩
  have u9 : U9.size = 40 := by rw [hU9, ByteArray.size_append, u8, z9]
  obtain ⟨U10, hU10⟩ : ∃ X : ByteArray, X = U9 ++ O := ⟨_, rfl⟩
  have u10 : U10.size = 40 + Ol.length := by rw [hU10, ByteArray.size_append, u9, hOs]
  obtain ⟨T, hT⟩ : ∃ X : ByteArray, X = x.extract U10.size x.size := ⟨_, rfl⟩
  have zT : T.size ≤ L.length := by rw [hT, ByteArray.size_extract]; omega
  obtain ⟨V, hV⟩ : ∃ X : ByteArray, X = U10 ++ T := ⟨_, rfl⟩
  have hVL : V = ⟨(laidL L s Ol).toArray⟩ := by
    have e : V.data.toList = laidL L s Ol := by
      rw [hV, hU10, hU9, hU8, hU7, hU6, hU5, hU4, hU3, hU2, hU1]
      simp only [cat_l]
      rw [hP0, hP7, hP9, hT, u10, ext_list x L hL, ext_list x L hL, ext_list x L hL, ext_list x L hL, hO, hP1, hP2, hP3, hP4, hP5, hP6, hP8, hxs]
      unfold laidL
      simp only [List.drop_zero, Nat.sub_zero]
      rw [show (L.drop (40 + Ol.length)).take (L.length - (40 + Ol.length)) = L.drop (40 + Ol.length) by rw [List.take_of_length_le (by simp)]]
    rw [← e]
  have r1 : ∀ W, (Op.stringOp .add P0 P1).run Try.prog W = .ok (.string U1) W := fun W => by rw [hU1]; exact cat_run _ _ (by rw [z0, z1]; omega) W
  have r2 : ∀ W, (Op.stringOp .add U1 P2).run Try.prog W = .ok (.string U2) W := fun W => by rw [hU2]; exact cat_run _ _ (by rw [u1, z2]; omega) W
  have r3 : ∀ W, (Op.stringOp .add U2 P3).run Try.prog W = .ok (.string U3) W := fun W => by rw [hU3]; exact cat_run _ _ (by rw [u2, z3]; omega) W
  have r4 : ∀ W, (Op.stringOp .add U3 P4).run Try.prog W = .ok (.string U4) W := fun W => by rw [hU4]; exact cat_run _ _ (by rw [u3, z4]; omega) W
  have r5 : ∀ W, (Op.stringOp .add U4 P5).run Try.prog W = .ok (.string U5) W := fun W => by rw [hU5]; exact cat_run _ _ (by rw [u4, z5]; omega) W
  have r6 : ∀ W, (Op.stringOp .add U5 P6).run Try.prog W = .ok (.string U6) W := fun W => by rw [hU6]; exact cat_run _ _ (by rw [u5, z6]; omega) W
  have r7 : ∀ W, (Op.stringOp .add U6 P7).run Try.prog W = .ok (.string U7) W := fun W => by rw [hU7]; exact cat_run _ _ (by rw [u6, z7]; omega) W
  have r8 : ∀ W, (Op.stringOp .add U7 P8).run Try.prog W = .ok (.string U8) W := fun W => by rw [hU8]; exact cat_run _ _ (by rw [u7, z8]; omega) W
  have r9 : ∀ W, (Op.stringOp .add U8 P9).run Try.prog W = .ok (.string U9) W := fun W => by rw [hU9]; exact cat_run _ _ (by rw [u8, z9]; omega) W
  have r10 : ∀ W, (Op.stringOp .add U9 O).run Try.prog W = .ok (.string U10) W := fun W => by rw [hU10]; exact cat_run _ _ (by rw [u9, hOs]; omega) W
  have r11 : ∀ W, (Op.stringOp .add U10 T).run Try.prog W = .ok (.string V) W := fun W => by rw [hV]; exact cat_run _ _ (by omega) W
  have m1 := fun W => ref_four s.s0 W hs.b0
  rw [← hP1] at m1
  have m2 := fun W => ref_four s.s2 W hs.b2
  rw [← hP2] at m2
  have m3 := fun W => ref_bytes s.s1 W hs.b1
  rw [← hP3] at m3
  have m4 := fun W => ref_bytes s.s3 W hs.b3
  rw [← hP4] at m4
  have m5 := fun W => ref_four s.s4 W hs.b4
  rw [← hP5] at m5
  have m6 := fun W => ref_four s.s5 W hs.b5
  rw [← hP6] at m6
  have m8 := fun W => ref_bytes s.s7 W hs.b7
  rw [← hP8] at m8
  rw [← hVL]
  have i12 : (12 : Int) ≤ (x.size : Int) := by omega
  have i34 : (34 : Int) ≤ (x.size : Int) := by omega
  have i40 : (40 : Int) ≤ (x.size : Int) := by omega
  have iU : (U10.size : Int) ≤ (x.size : Int) := by omega
  clear hU1 hU2 hU3 hU4 hU5 hU6 hU7 hU8 hU9 hU10 hV hVL hP1 hP2 hP3 hP4 hP5 hP6 hP8 z0 z1 z2 z3 z4 z5 z6 z7 z8 z9 zT u1 u2 u3 u4 u5 u6 u7 u8 u9 u10 hO hOl h40 hL hx hs hxs hOs
  unfold Sg.c segO
  generalize (s.s0 : Int) = a0 at *
  generalize (s.s1 : Int) = a1 at *
  generalize (s.s2 : Int) = a2 at *
  generalize (s.s3 : Int) = a3 at *
  generalize (s.s4 : Int) = a4 at *
  generalize (s.s5 : Int) = a5 at *
  generalize (s.s7 : Int) = a7 at *
  have cf4 : ∀ (vals : Array Value) (w : World), (callFunc 88 vals).run Try.prog w = .ok (.enter 88 vals) w := fun _ _ => by kernel_rfl
  have cf2 : ∀ (vals : Array Value) (w : World), (callFunc 55 vals).run Try.prog w = .ok (.enter 55 vals) w := fun _ _ => by kernel_rfl
  have hb0 : Below w.heap.size w w := Below.refl _ _
  have HB := Lib.hid hb0
  clear hb0
  have M1 := Lib.hid m1
  clear m1
  have M2 := Lib.hid m2
  clear m2
  have M3 := Lib.hid m3
  clear m3
  have M4 := Lib.hid m4
  clear m4
  have M5 := Lib.hid m5
  clear m5
  have M6 := Lib.hid m6
  clear m6
  have M8 := Lib.hid m8
  clear m8
  have Cf4 := Lib.hid cf4
  clear cf4
  have Cf2 := Lib.hid cf2
  clear cf2
  have HP0 := Lib.hid hP0
  clear hP0
  have HP7 := Lib.hid hP7
  clear hP7
  have HP9 := Lib.hid hP9
  clear hP9
  have HT := Lib.hid hT
  clear hT
  go_enter Try.func52, Try.ntmps52
  go_upto_region 1 with fail
  have hs := Blk.new w 30 #[.int .u32 a0, .int .u16 a1, .int .u32 a2, .int .u16 a3, .int .u32 a4, .int .u32 a5, .int .u8 (s.f : Int), .int .u16 a7, .int .u16 (s.o.mss : Int), .int .i64 s.o.scale, .bool s.o.sack, .slice A s.o.bl.length c, .bool s.o.time, .int .u32 (s.o.val : Int), .int .u32 (s.o.echo : Int), .string s.d]
  have hB := HB.out.alloc HB.out.size (.cells #[.int .u32 a0, .int .u16 a1, .int .u32 a2, .int .u16 a3, .int .u32 a4, .int .u32 a5, .int .u8 (s.f : Int), .int .u16 a7, .int .u16 (s.o.mss : Int), .int .i64 s.o.scale, .bool s.o.sack, .slice A s.o.bl.length c, .bool s.o.time, .int .u32 (s.o.val : Int), .int .u32 (s.o.echo : Int), .string s.d] 30)
  clear HB
  obtain ⟨gs, hge⟩ : ∃ g, g = w.heap.size := ⟨_, rfl⟩
  rw [← hge] at hs ⊢
  clear hge
  generalize w.alloc _ = w1 at *
  have Hs := Lib.hid hs
  clear hs
  have HB := Lib.hid hB
  clear hB
  have hS0 : Fresh w1 w1 := Below.refl _ _
  have ne : Nonempty (Cls (Fresh w1)) := ⟨⟨w1, hS0⟩⟩
  have k0 : ∀ y : Cls (Fresh w1), y.w.cell? ⟨gs, 0, none⟩ = some (.int .u32 a0) := fun y => (Hs.out.below y.h Hs.out.lt).cell 0
  have k2 : ∀ y : Cls (Fresh w1), y.w.cell? ⟨gs, 2, none⟩ = some (.int .u32 a2) := fun y => (Hs.out.below y.h Hs.out.lt).cell 2
  have kM1 : ∀ y : Cls (Fresh w1), Calls Try.prog 88 #[.int .u32 a0] y.w fun e w'' => e = .returned (.string P1) ∧ Fresh w1 w'' ∧ Below y.w.heap.size y.w w'' := fun y => (M1.out y.w).mono fun e w' ⟨he, hb⟩ => ⟨he, Fresh.below y.h hb, hb⟩
  have kM2 : ∀ y : Cls (Fresh w1), Calls Try.prog 88 #[.int .u32 a2] y.w fun e w'' => e = .returned (.string P2) ∧ Fresh w1 w'' ∧ Below y.w.heap.size y.w w'' := fun y => (M2.out y.w).mono fun e w' ⟨he, hb⟩ => ⟨he, Fresh.below y.h hb, hb⟩
  have KM1 := Lib.hid kM1
  clear kM1
  have KM2 := Lib.hid kM2
  clear kM2
  have eHP0 := HP0.out.symm
  refine wp_region_flow 13 (Fresh w1) (fun w w' => Below w.heap.size w w') (by kernel_rfl) (by kernel_rfl) (by kernel_rfl) (fun w => Below.refl _ _) (Fresh.below hS0 (Below.drew (Below.refl _ _))) ?_
  simp only [List.take_succ_cons, List.take_zero, List.drop_succ_cons, List.drop_zero]
  repeat (first
    | (refine flow_quiet (fun w => Below.refl _ _) rfl rfl rfl rfl ?_; intro K hK; go_big_quiet_op; go_big_quiet_on)
    | (refine flow_call Cf4.out _ ?_ rfl rfl rfl _ KM1.out w1 ?_; (focus (simp only [List.map_toArray, List.map_cons, List.map_nil]; rfl)); intro K hK; go_big_quiet_op; go_big_quiet_on)
    | (refine flow_call Cf4.out _ ?_ rfl rfl rfl _ KM2.out w1 ?_; (focus (simp only [List.map_toArray, List.map_cons, List.map_nil]; rfl)); intro K hK; go_big_quiet_op; go_big_quiet_on))
  refine flow_nil ?_
  intro W2 f hW hF
  simp only [fillW, Act.put, List.setIfInBounds_toArray, List.set_cons_succ, List.set_cons_zero]
  clear KM1 KM2 k0 k2 eHP0 ne hF f
  have hW : Below w1.heap.size w1 W2 := hW
  have hs := Hs.out.below hW Hs.out.lt
  clear Hs
  have Hs := Lib.hid hs
  clear hs
  have hB := HB.out.trans (hW.mono HB.out.size)
  clear HB
  have HB := Lib.hid hB
  clear hB
  clear hW hS0

  go_upto_region 2 with fail
  have hS0 : Fresh W2 W2 := Below.refl _ _
  have ne : Nonempty (Cls (Fresh W2)) := ⟨⟨W2, hS0⟩⟩
  have k1 : ∀ y : Cls (Fresh W2), y.w.cell? ⟨gs, 1, none⟩ = some (.int .u16 a1) := fun y => (Hs.out.below y.h Hs.out.lt).cell 1
  have k3 : ∀ y : Cls (Fresh W2), y.w.cell? ⟨gs, 3, none⟩ = some (.int .u16 a3) := fun y => (Hs.out.below y.h Hs.out.lt).cell 3
  have k4 : ∀ y : Cls (Fresh W2), y.w.cell? ⟨gs, 4, none⟩ = some (.int .u32 a4) := fun y => (Hs.out.below y.h Hs.out.lt).cell 4
  have k5 : ∀ y : Cls (Fresh W2), y.w.cell? ⟨gs, 5, none⟩ = some (.int .u32 a5) := fun y => (Hs.out.below y.h Hs.out.lt).cell 5
  have kM3 : ∀ y : Cls (Fresh W2), Calls Try.prog 55 #[.int .u16 a1] y.w fun e w'' => e = .returned (.string P3) ∧ Fresh W2 w'' ∧ Below y.w.heap.size y.w w'' := fun y => (M3.out y.w).mono fun e w' ⟨he, hb⟩ => ⟨he, Fresh.below y.h hb, hb⟩
  have kM4 : ∀ y : Cls (Fresh W2), Calls Try.prog 55 #[.int .u16 a3] y.w fun e w'' => e = .returned (.string P4) ∧ Fresh W2 w'' ∧ Below y.w.heap.size y.w w'' := fun y => (M4.out y.w).mono fun e w' ⟨he, hb⟩ => ⟨he, Fresh.below y.h hb, hb⟩
  have kM5 : ∀ y : Cls (Fresh W2), Calls Try.prog 88 #[.int .u32 a4] y.w fun e w'' => e = .returned (.string P5) ∧ Fresh W2 w'' ∧ Below y.w.heap.size y.w w'' := fun y => (M5.out y.w).mono fun e w' ⟨he, hb⟩ => ⟨he, Fresh.below y.h hb, hb⟩
  have kM6 : ∀ y : Cls (Fresh W2), Calls Try.prog 88 #[.int .u32 a5] y.w fun e w'' => e = .returned (.string P6) ∧ Fresh W2 w'' ∧ Below y.w.heap.size y.w w'' := fun y => (M6.out y.w).mono fun e w' ⟨he, hb⟩ => ⟨he, Fresh.below y.h hb, hb⟩
  have KM3 := Lib.hid kM3
  clear kM3
  have KM4 := Lib.hid kM4
  clear kM4
  have KM5 := Lib.hid kM5
  clear kM5
  have KM6 := Lib.hid kM6
  clear kM6
  refine wp_region_flow 20 (Fresh W2) (fun w w' => Below w.heap.size w w') (by kernel_rfl) (by kernel_rfl) (by kernel_rfl) (fun w => Below.refl _ _) (Fresh.below hS0 (Below.drew (Below.refl _ _))) ?_
  simp only [List.take_succ_cons, List.take_zero, List.drop_succ_cons, List.drop_zero]
  repeat (first
    | (refine flow_quiet (fun w => Below.refl _ _) rfl rfl rfl rfl ?_; intro K hK; go_big_quiet_op; go_big_quiet_on)
    | (refine flow_call Cf2.out _ ?_ rfl rfl rfl _ KM3.out W2 ?_; (focus (simp only [List.map_toArray, List.map_cons, List.map_nil]; rfl)); intro K hK; go_big_quiet_op; go_big_quiet_on)
    | (refine flow_call Cf2.out _ ?_ rfl rfl rfl _ KM4.out W2 ?_; (focus (simp only [List.map_toArray, List.map_cons, List.map_nil]; rfl)); intro K hK; go_big_quiet_op; go_big_quiet_on)
    | (refine flow_call Cf4.out _ ?_ rfl rfl rfl _ KM5.out W2 ?_; (focus (simp only [List.map_toArray, List.map_cons, List.map_nil]; rfl)); intro K hK; go_big_quiet_op; go_big_quiet_on)
    | (refine flow_call Cf4.out _ ?_ rfl rfl rfl _ KM6.out W2 ?_; (focus (simp only [List.map_toArray, List.map_cons, List.map_nil]; rfl)); intro K hK; go_big_quiet_op; go_big_quiet_on))
  refine flow_nil ?_
  intro W3 f hW hF
  simp only [fillW, Act.put, List.setIfInBounds_toArray, List.set_cons_succ, List.set_cons_zero]
  clear KM3 KM4 KM5 KM6 k1 k3 k4 k5 ne hF f
  have hW : Below W2.heap.size W2 W3 := hW
  have hs := Hs.out.below hW Hs.out.lt
  clear Hs
  have Hs := Lib.hid hs
  clear hs
  have hB := HB.out.trans (hW.mono HB.out.size)
  clear HB
  have HB := Lib.hid hB
  clear hB
  clear hW hS0

  go_upto_region 3 with fail
  have hS0 : Fresh W3 W3 := Below.refl _ _
  have ne : Nonempty (Cls (Fresh W3)) := ⟨⟨W3, hS0⟩⟩
  have k7 : ∀ y : Cls (Fresh W3), y.w.cell? ⟨gs, 7, none⟩ = some (.int .u16 a7) := fun y => (Hs.out.below y.h Hs.out.lt).cell 7
  have kM8 : ∀ y : Cls (Fresh W3), Calls Try.prog 55 #[.int .u16 a7] y.w fun e w'' => e = .returned (.string P8) ∧ Fresh W3 w'' ∧ Below y.w.heap.size y.w w'' := fun y => (M8.out y.w).mono fun e w' ⟨he, hb⟩ => ⟨he, Fresh.below y.h hb, hb⟩
  have KM8 := Lib.hid kM8
  clear kM8
  have eHP7 := HP7.out.symm
  have eHP9 := HP9.out.symm
  refine wp_region_flow 14 (Fresh W3) (fun w w' => Below w.heap.size w w') (by kernel_rfl) (by kernel_rfl) (by kernel_rfl) (fun w => Below.refl _ _) (Fresh.below hS0 (Below.drew (Below.refl _ _))) ?_
  simp only [List.take_succ_cons, List.take_zero, List.drop_succ_cons, List.drop_zero]
  repeat (first
    | (refine flow_quiet (fun w => Below.refl _ _) rfl rfl rfl rfl ?_; intro K hK; go_big_quiet_op; go_big_quiet_on)
    | (refine flow_call Cf2.out _ ?_ rfl rfl rfl _ KM8.out W3 ?_; (focus (simp only [List.map_toArray, List.map_cons, List.map_nil]; rfl)); intro K hK; go_big_quiet_op; go_big_quiet_on))
  refine flow_nil ?_
  intro W4 f hW hF
  simp only [fillW, Act.put, List.setIfInBounds_toArray, List.set_cons_succ, List.set_cons_zero]
  clear KM8 k7 eHP7 eHP9 ne hF f
  have hW : Below W3.heap.size W3 W4 := hW
  have hs := Hs.out.below hW Hs.out.lt
  clear Hs
  have Hs := Lib.hid hs
  clear hs
  have hB := HB.out.trans (hW.mono HB.out.size)
  clear HB
  have HB := Lib.hid hB
  clear hB
  clear hW hS0

  have eHT := HT.out.symm
  go_wp2
  go_ret
  exact ⟨rfl, HB.out⟩
end Go.Proofs.Ytengegcnocdkoaa
end
section
set_option maxRecDepth 20000
namespace Go.Proofs.Ytengegcnocdkoaa
open Go.RowKit
theorem sumT_app (s : Nat) {a b c d : List UInt8} (h : a.length = c.length) (he : a.length % 2 = 0) : sumT s (a ++ b) (c ++ d) = sumT (sumT s a c) b d := by
  unfold sumT
  rw [wordsL_append a b he, wordsL_append c d (by omega), List.zip_append (by rw [wordsL_length, wordsL_length, h])]
  unfold turnsL
  rw [List.foldl_append]
def Pk.mid (P : Pk) (s : Sg) (O : List UInt8) : Pk := { P with p := adr s, n := nums s, w := be2 s.s7, o := O }
theorem Pk.mid_ok {P : Pk} (h : P.ok) (s : Sg) (O : List UInt8) : (P.mid s O).ok := ⟨h.a, h.h, rfl, rfl, h.c, rfl, h.q, h.d⟩
section
variable {P : Pk}
theorem pk_tail (h : P.ok) : P.all.drop (40 + P.o.length) = P.r := by
  rw [← List.drop_drop]
  have : P.all.drop 40 = P.o ++ P.r := by
    obtain ⟨_, _, _, _, _, _, _, _, _, _, _, _, _, _, _, _, _, _, _, _, _, _, _, _, _, _, _, _, _, _, _, _, _, _, _, _, _, _, _, _, _, _, rfl⟩ := Pk.bytes h
    rfl
  rw [this, List.drop_left]
theorem laid_parts (h : P.ok) (s : Sg) {O : List UInt8} (hO : P.o.length = O.length) : laidL P.all s O = (P.mid s O).all := by
  unfold laidL
  rw [← hO, pk_tail h]
  obtain ⟨_, _, _, _, _, _, _, _, _, _, _, _, _, _, _, _, _, _, _, _, _, _, _, _, _, _, _, _, _, _, _, _, _, _, _, _, _, _, _, _, _, _, rfl⟩ := Pk.bytes h
  simp only [List.append_assoc]
  rfl
theorem pk_12 (h : P.ok) : (P.all.drop 10).take 2 = P.h := by
  obtain ⟨_, _, _, _, _, _, _, _, _, _, _, _, _, _, _, _, _, _, _, _, _, _, _, _, _, _, _, _, _, _, _, _, _, _, _, _, _, _, _, _, _, _, rfl⟩ := Pk.bytes h
  rfl
theorem pk_38 (h : P.ok) : (P.all.drop 36).take 2 = P.q := by
  obtain ⟨_, _, _, _, _, _, _, _, _, _, _, _, _, _, _, _, _, _, _, _, _, _, _, _, _, _, _, _, _, _, _, _, _, _, _, _, _, _, _, _, _, _, rfl⟩ := Pk.bytes h
  rfl
theorem pk_20 (h : P.ok) : (P.all.drop 12).take 8 = P.p := by
  obtain ⟨_, _, _, _, _, _, _, _, _, _, _, _, _, _, _, _, _, _, _, _, _, _, _, _, _, _, _, _, _, _, _, _, _, _, _, _, _, _, _, _, _, _, rfl⟩ := Pk.bytes h
  rfl
theorem pk_32 (h : P.ok) : (P.all.drop 12).take 20 = P.p ++ P.n := by
  obtain ⟨_, _, _, _, _, _, _, _, _, _, _, _, _, _, _, _, _, _, _, _, _, _, _, _, _, _, _, _, _, _, _, _, _, _, _, _, _, _, _, _, _, _, rfl⟩ := Pk.bytes h
  rfl
theorem pk_36 (h : P.ok) : (P.all.drop 34).take 2 = P.w := by
  obtain ⟨_, _, _, _, _, _, _, _, _, _, _, _, _, _, _, _, _, _, _, _, _, _, _, _, _, _, _, _, _, _, _, _, _, _, _, _, _, _, _, _, _, _, rfl⟩ := Pk.bytes h
  rfl
theorem pk_40 (h : P.ok) : (P.all.drop 40).take P.o.length = P.o := by
  have : P.all.drop 40 = P.o ++ P.r := by
    obtain ⟨_, _, _, _, _, _, _, _, _, _, _, _, _, _, _, _, _, _, _, _, _, _, _, _, _, _, _, _, _, _, _, _, _, _, _, _, _, _, _, _, _, _, rfl⟩ := Pk.bytes h
    rfl
  rw [this, List.take_left]
theorem numL_two {l : List UInt8} (h : l.length = 2) : numL l = wd l := by
  obtain ⟨a, b, rfl⟩ := len1 h
  have := a.toNat_lt
  have := b.toNat_lt
  show ((0 * 256 + a.toNat) % 4294967296 * 256 + b.toNat) % 4294967296 = a.toNat * 256 + b.toNat
  omega
/-- the sums that are turned, and the bytes, as the reference has them -/
theorem rref_parts (h : P.ok) (s : Sg) {O : List UInt8} (hO : P.o.length = O.length) :
    ((P.mid s O).all.take 10 ++ be2 (sumT (wd P.h) P.p (adr s)) ++ ((P.mid s O).all.drop 12).take 24 ++ be2 (sumT (sumT (sumT (wd P.q) (P.p ++ P.n) (adr s ++ nums s)) P.w (be2 s.s7)) P.o O) ++ (P.mid s O).all.drop 38) = (P.lay s O).all := by
  rw [sumT_app _ (by rw [h.p, adr_len]) (by rw [h.p])]
  obtain ⟨_, _, _, _, _, _, _, _, _, _, _, _, _, _, _, _, _, _, _, _, _, _, _, _, _, _, _, _, _, _, _, _, _, _, _, _, _, _, _, _, _, _, rfl⟩ := Pk.bytes h
  unfold Pk.lay
  simp only [List.append_assoc]
  rfl
end
end Go.Proofs.Ytengegcnocdkoaa
end
