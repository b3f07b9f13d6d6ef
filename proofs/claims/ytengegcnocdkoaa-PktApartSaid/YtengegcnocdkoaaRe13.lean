/- Contracts and plain lemmas: PktOpen, PktApartP. -/
import Derived.Test.YtengegcnocdkoaaRe12
import Derived.Test.YtengegcnocdkoaaRe4
set_option linter.unusedVariables false
set_option linter.unusedSimpArgs false
set_option linter.unusedSectionVars false
section
set_option maxRecDepth 20000
namespace Go.Proofs.Ytengegcnocdkoaa
open Go.RowKit Go.ChangeShapes Go.WideShapes Go.BigFrame
section
variable {P : Program} {ops : Array Oper} {rest : List Oper} {op : Oper} {a : Act} {w : World} {Q : Exit → Act → World → Prop} {E : TypeId}
/-- .. into the block that was just laid: 'ho' is asked first, so an operation that is no store falls at once -/
theorem wpl_put_now {x y : Operand} {z : Array Value} {B : Nat} {W : World} (ho : op.op = .store E x y) (hd : op.dst = none) (hgd : op.guard = none) (hW : W = w.alloc (.cells z E)) (vs : Array Value) (hx : a.eval x = .pointer (some ⟨B, 0, none⟩)) (hB : B = w.heap.size) (hy : a.eval y = .agg vs)
    (hi : (P.info? E).map (·.size) = some vs.size) (hs : z.size = vs.size) (h1 : vs.all (·.oneCell') = true) (hn : wpList P ops Q rest a (w.alloc (.cells vs E))) : wpList P ops Q (op :: rest) a W := by
  subst hW
  exact wpl_put_new hB vs hi hs h1 hgd x y ho hd hx hy hn
end
theorem wpl_put_at {P : Program} {ops : Array Oper} {rest : List Oper} {op : Oper} {a : Act} {w : World} {Q : Exit → Act → World → Prop} {E : TypeId} {x y : Operand} {g : Nat} {cs : Array Value} (ho : op.op = .store E x y) (hd : op.dst = none) (hgd : op.guard = none) (h : Blk w g E cs) (hx : a.eval x = .pointer (some ⟨g, 0, none⟩)) (vs : Array Value) (hy : a.eval y = .agg vs)
    (hi : (P.info? E).map (·.size) = some vs.size) (hs : cs.size = vs.size) (h1 : vs.all (·.oneCell') = true) (hn : wpList P ops Q rest a (w.setRow g vs)) : wpList P ops Q (op :: rest) a w :=
  wpl_put h vs hi hs h1 hgd x y ho hd hx hy hn
theorem wpl_load_at {P : Program} {ops : Array Oper} {rest : List Oper} {op : Oper} {a : Act} {w : World} {Q : Exit → Act → World → Prop} {g : Nat} {E : TypeId} {cs : Array Value} {x : Operand} (ho : op.op = .load E x) (hx : a.eval x = .pointer (some ⟨g, 0, none⟩)) (hgd : op.guard = none) (h : Blk w g E cs) (hu : (P.underlying E).map TypeDesc.isRow = some true) (hi : (P.info? E).map (·.size) = some cs.size)
    (hn : wpList P ops Q rest (a.put op.dst (.agg cs)) w) : wpList P ops Q (op :: rest) a w :=
  wpl_load h hu hi hgd x ho hx hn
theorem below_rowU {B x : Nat} {w W : World} (h : Below B w W) (hx : B ≤ x) (vs : Array Value) : Below B w (W.setRow x vs) :=
  ⟨h.os, h.tape, h.output, Nat.le_trans h.size (Nat.le_of_eq (size_row W x vs).symm), fun i hi => (heap_row W x vs i (by omega)).trans (h.block i hi)⟩
/-- what is known of a segment that came in -/
structure SgF (w : World) (s : Sg) (A : Option Addr) (c : Nat) : Prop where
  ok : s.wf
  r : BlR w A s.o.bl
  n : s.o.bl.length ≤ maxLen
  d : s.d.size ≤ maxLen
theorem nat_of {a : Int} {n : Nat} (h : 0 ≤ a ∧ a < (n : Int)) : ∃ k : Nat, a = (k : Int) ∧ k < n := ⟨a.toNat, by omega, by omega⟩
section
variable {H : Type} {enc : TypeId × Value → H} {w : World} {base : Nat}
theorem open_sg {r : Reach} {b0 : Nat} {v : Value} {d : DataW H} {p : List MemPlace} (hv : Value.okWide Try.prog w r b0 30 v) (h : DataW.Trod enc Try.prog w base (fun _ => true) true 30 v d p) :
    ∃ (s : Sg) (A : Option Addr) (c : Nat), v = .agg (s.c A c) ∧ SgF w s A c := by
  obtain ⟨s0, s1, s2, s3, s4, s5, f, s7, o, A, c, dd, rfl, hf⟩ := open_seg hv h
  obtain ⟨n0, rfl, h0⟩ := nat_of (n := 4294967296) hf.b0
  obtain ⟨n1, rfl, h1⟩ := nat_of (n := 65536) hf.b1
  obtain ⟨n2, rfl, h2⟩ := nat_of (n := 4294967296) hf.b2
  obtain ⟨n3, rfl, h3⟩ := nat_of (n := 65536) hf.b3
  obtain ⟨n4, rfl, h4⟩ := nat_of (n := 4294967296) hf.b4
  obtain ⟨n5, rfl, h5⟩ := nat_of (n := 4294967296) hf.b5
  obtain ⟨n7, rfl, h7⟩ := nat_of (n := 65536) hf.b7
  exact ⟨⟨n0, n1, n2, n3, n4, n5, f, n7, o, dd⟩, A, c, rfl, ⟨⟨h0, h1, h2, h3, h4, h5, hf.f, h7, hf.o.1⟩, hf.o.2.1, Nat.le_trans hf.o.2.2.1 hf.o.2.2.2, hf.d⟩⟩
theorem open_sh {r : Reach} {b0 : Nat} {v : Value} {d : DataW H} {p : List MemPlace} (hv : Value.okWide Try.prog w r b0 46 v) (h : DataW.Trod enc Try.prog w base (fun _ => true) true 46 v d p) :
    ∃ x : Sh, v = .agg x.c ∧ x.wf := by
  obtain ⟨x0, x1, x2, x3, x4, x5, x6, x7, x8, x9, rfl, hf⟩ := open_shift hv h
  obtain ⟨n0, rfl, h0⟩ := nat_of (n := 4294967296) hf.b0
  obtain ⟨n1, rfl, h1⟩ := nat_of (n := 65536) hf.b1
  obtain ⟨n2, rfl, h2⟩ := nat_of (n := 4294967296) hf.b2
  obtain ⟨n3, rfl, h3⟩ := nat_of (n := 65536) hf.b3
  obtain ⟨n4, rfl, h4⟩ := nat_of (n := 4294967296) hf.b4
  obtain ⟨n5, rfl, h5⟩ := nat_of (n := 4294967296) hf.b5
  obtain ⟨n6, rfl, h6⟩ := nat_of (n := 4294967296) hf.b6
  obtain ⟨n7, rfl, h7⟩ := nat_of (n := 4294967296) hf.b7
  exact ⟨⟨n0, n1, n2, n3, n4, n5, n6, n7, x8, x9⟩, rfl, ⟨h0, h1, h2, h3, h4, h5, h6, h7⟩⟩
end
def heavyB (s : Sg) : Bool := decide ((s.d.size : Int) > 4096) || decide ((s.o.bl.length : Int) > 100)
theorem heavy_sg (w : World) (s : Sg) (A : Option Addr) (c : Nat) (hn : s.o.bl.length ≤ maxLen) (hd : s.d.size ≤ maxLen) : Calls Try.prog 9 #[.agg (s.c A c)] w fun e w' => e = .returned (.bool (heavyB s)) ∧ Below w.heap.size w w' :=
  heavy_any w _ _ _ _ _ _ _ _ _ _ _ _ A _ c _ _ s.d hn hd
theorem heavyB_no {s : Sg} (h : heavyB s = false) : s.d.size ≤ 4096 ∧ s.o.bl.length ≤ 100 := by
  unfold heavyB at h
  rw [Bool.or_eq_false_iff, decide_eq_false_iff_not, decide_eq_false_iff_not] at h
  omega
theorem wpl_load_g {P : Program} {ops : Array Oper} {rest : List Oper} {op : Oper} {a : Act} {w : World} {Q : Exit → Act → World → Prop} {g : Nat} {E : TypeId} {cs : Array Value} {x : Operand} (ho : op.op = .load E x) (hx : a.eval x = .pointer (some ⟨g, 0, none⟩)) (hw : Region.wanted op (yielded ops a.tmps) = true) (h : Blk w g E cs) (hu : (P.underlying E).map TypeDesc.isRow = some true) (hi : (P.info? E).map (·.size) = some cs.size)
    (hn : wpList P ops Q rest (a.put op.dst (.agg cs)) w) : wpList P ops Q (op :: rest) a w :=
  wpList_step fun K hK => by
    rw [if_pos hw]
    unfold Oper.wp execOp
    simp only [ho, Sem.run_bind]
    rw [hx, run_load_blk h hu hi]
    exact hK _ _ hn
theorem segT.is {s : Sg} {v : Value} {W : World} (h : segT s [v] W) : ∃ A c, v = .agg (s.c A c) ∧ BlR W A s.o.bl := by
  obtain ⟨A, c, h1, h2⟩ := h
  injection h1 with h1
  exact ⟨A, c, h1, h2⟩
section
variable {P : Program} {ops : Array Oper} {S : World → Prop} {R : World → World → Prop} {End : List Tmp → List Fc → Act → Prop} {rest : List Oper} {k : Nat} {T : List Tmp} {N : List Fc} {a : Act} {o : Oper}
/-- a call on a slot that is told by a fact; its value is told by another one -/
theorem flow_callG {d : Tmp} {f : FuncId} {y : Tmp} {xs : Array Operand} {ts : Array TypeId} {t : TypeId} {ps : String} {af : Array Edge} {g : Option (Nat × Bool)} (φ : List Value → World → Prop) (hst : ∀ l w w', R w w' → φ l w → φ l w')
    (hcf : ∀ (vals : Array Value) (w : World), (callFunc f vals).run P w = .ok (.enter f vals) w) (vals : Value → Array Value) (j : Nat) {i : Nat} {ψ : List Value → World → Prop} (hj : N[j]? = some ⟨i, [y], ψ⟩) (hwt : waitsB { dst := some d, op := .call { callee := .value (.func f), args := xs, argTypes := ts }, type := t, pos := ps, after := af, guard := g } i = true)
    (hv : ∀ f', xs.toList.map (fillW T f' a).eval = (vals (f' y)).toList) (hc : ∀ (x : Cls S) (u : Value), ψ [u] x.w → Calls P f (vals u) x.w fun e w'' => ∃ v, e = .returned v ∧ φ [v] w'' ∧ S w'' ∧ R x.w w'')
    (hg : guardW ops T { dst := some d, op := .call { callee := .value (.func f), args := xs, argTypes := ts }, type := t, pos := ps, after := af, guard := g } = true)
    (hw : Region.wanted { dst := some d, op := .call { callee := .value (.func f), args := xs, argTypes := ts }, type := t, pos := ps, after := af, guard := g } (yielded ops a.tmps) = true) (w0 : World)
    (h : ∀ K : Act → Prop, (∀ a, wpW P ops S R End (k + 1) rest (d :: T) (⟨k, [d], φ⟩ :: N) a → K a) → Oper.quiet P { dst := some d, op := .assign (.const undef), type := t, pos := "", after := #[], guard := none } a (fun _ => True) K) :
    wpW P ops S R End k ({ dst := some d, op := .call { callee := .value (.func f), args := xs, argTypes := ts }, type := t, pos := ps, after := af, guard := g } :: rest) T N a :=
  flow_fact φ hst (fun w f' hS hN => by
    have hv' : xs.map (fillW T f' a).eval = vals (f' y) := Array.ext' (by rw [Array.toList_map]; exact hv f')
    have he : (execOp (fillW T f' a).eval { dst := some d, op := .call { callee := .value (.func f), args := xs, argTypes := ts }, type := t, pos := ps, after := af, guard := g }).run P w = .ok (.enter f (vals (f' y))) w := by
      simp only [execOp, resolve, hv']
      simp [Act.eval, Deferred.ofValue, invoke, hcf]
    unfold gives
    rw [he]
    exact (hc ⟨w, hS⟩ (f' y) (known_at hN j hj hwt)).mono fun e w'' ⟨v, he, hφ, hs, hr⟩ => ⟨v, he, hφ, hs, hr⟩) hg hw w0 h
end
end Go.Proofs.Ytengegcnocdkoaa
end
section
set_option maxRecDepth 20000
namespace Go.Proofs.Ytengegcnocdkoaa
open Go.RowKit
section
variable {s t : Sg}
theorem pl_inj (ws : s.wf) (wt : t.wf) (ms : s.may = true) (mt : t.may = true) (h : s.pl = t.pl) : s = t := by
  rw [← (own_fine ws ms).2, ← (own_fine wt mt).2, h]
theorem tl_len (s : Sg) : s.pl.length = 20 + s.tl.length := I.enc_len _ _
theorem pl_app (s : Sg) : s.pl = I.headL s.ih (20 + s.tl.length) (I.sumL s.ih (20 + s.tl.length)) ++ s.tl := rfl
/-- A PACKET OF WHICH ONE BIT IS TURNED IS REFUSED -/
theorem flip_refused (w : s.wf) (h : s.may = true) (i j : Nat) (hj : j < 8) (hil : i < s.pl.length) : pdecE (s.pl.set i (s.pl[i] ^^^ UInt8.ofNat (2 ^ j))) ≠ 0 := by
  obtain ⟨l1, l2, l3, l4⟩ := Sg.len w h
  by_cases hi : i < 20
  · have hf : I.decE (s.pl.set i (s.pl[i] ^^^ UInt8.ofNat (2 ^ j))) ≠ 0 := I.decE_flip (h := s.ih) (l := s.tl) i j hi hj hil
    unfold pdecE
    rw [if_pos hf]
    omega
  · have hk : i - 20 < s.tl.length := by have := tl_len s; omega
    have e1 : s.pl[i] = s.tl[i - 20] := Option.some.inj (by
      rw [← List.getElem?_eq_getElem hil, ← List.getElem?_eq_getElem hk, pl_app, List.getElem?_append_right (by rw [I.headL_length]; omega), I.headL_length])
    have e2 : ∀ v, s.pl.set i v = I.encL s.ih (s.tl.set (i - 20) v) := by
      intro v
      unfold I.encL
      rw [List.length_set]
      rw [pl_app, List.set_append_right _ _ (by rw [I.headL_length]; omega), I.headL_length]
    rw [e1, e2]
    have hd : s.d.data.toList.length = s.d.size := rfl
    have ht : T.decE s.s0 s.s2 (s.tl.set (i - 20) (s.tl[i - 20] ^^^ UInt8.ofNat (2 ^ j))) = 55 := T.decE_flip (s := s.s0) (d := s.s2) (h := s.th) (data := s.d.data.toList) (by omega) (i - 20) j hj hk
    have kI : hI (I.encL s.ih (s.tl.set (i - 20) (s.tl[i - 20] ^^^ UInt8.ofNat (2 ^ j)))) = s.ih := I.decH_enc (Sg.ih_ok w)
    have kE : I.decE (I.encL s.ih (s.tl.set (i - 20) (s.tl[i - 20] ^^^ UInt8.ofNat (2 ^ j)))) = 0 := I.decE_enc (Sg.ih_ok w) (by rw [List.length_set]; omega)
    have kD : (I.encL s.ih (s.tl.set (i - 20) (s.tl[i - 20] ^^^ UInt8.ofNat (2 ^ j)))).drop 20 = s.tl.set (i - 20) (s.tl[i - 20] ^^^ UInt8.ofNat (2 ^ j)) := I.enc_drop _ _
    unfold pdecE
    rw [if_neg (by rw [kE]; simp), kI, if_neg (by show ¬ (6 : UInt8) ≠ 6; simp), kD]
    show (if T.decE s.s0 s.s2 _ ≠ 0 then (T.decE s.s0 s.s2 _ : Int) else _) ≠ 0
    rw [ht, if_pos (by decide)]
    decide
def negN (a : Nat) : Nat := (4294967296 - a) % 4294967296
theorem neg_int {a : Nat} (h : a < 4294967296) : (-(a : Int)) % 4294967296 = ((negN a : Nat) : Int) := by unfold negN; omega
/-- the shift that turns a segment back -/
def backS (s : Sg) (x : Sh) : Sh := ⟨s.s0, s.s1, s.s2, s.s3, negN x.x4, negN x.x5, negN x.x6, negN x.x7, 0, 0⟩
theorem back_add {a d : Nat} (ha : a < 4294967296) (hd : d < 4294967296) : ((a + d) % 4294967296 + negN d) % 4294967296 = a := by unfold negN; omega
/-- WHAT IS TURNED, AND TURNED BACK, IS WHAT IT WAS, BUT FOR ITS WINDOW -/
theorem turnS_back (w : s.wf) {x : Sh} (hx : x.wf) : { turnS (turnS s x) (backS s x) with s7 := s.s7 } = s := by
  obtain ⟨w0, w1, w2, w3, w4, w5, wf, w7, wo⟩ := w
  obtain ⟨o1, o2, o3, o4, o5⟩ := wo
  obtain ⟨b0, b1, b2, b3, b4, b5, b6, b7⟩ := hx
  obtain ⟨s0, s1, s2, s3, s4, s5, f, s7, o, d⟩ := s
  obtain ⟨mss, scale, sack, bl, time, val, echo⟩ := o
  dsimp only at *
  have e5 : (if ackB f = true then ((if ackB f = true then (s5 + x.x5) % 4294967296 else s5) + negN x.x5) % 4294967296 else (if ackB f = true then (s5 + x.x5) % 4294967296 else s5)) = s5 := by
    split
    · exact back_add w5 b5
    · rfl
  have ev : (if time = true then ((if time = true then (val + x.x6) % 4294967296 else val) + negN x.x6) % 4294967296 else (if time = true then (val + x.x6) % 4294967296 else val)) = val := by
    split
    · exact back_add o3 b6
    · rfl
  have ee : (if time = true then ((if time = true then (echo + x.x7) % 4294967296 else echo) + negN x.x7) % 4294967296 else (if time = true then (echo + x.x7) % 4294967296 else echo)) = echo := by
    split
    · exact back_add o4 b7
    · rfl
  have eb : (bl.map (tP x.x5)).map (tP (negN x.x5)) = bl := by
    rw [List.map_map]
    conv => rhs; rw [← List.map_id bl]
    refine List.map_congr_left fun p hp => ?_
    have := o5 p hp
    obtain ⟨p1, p2⟩ := p
    dsimp only at this
    have h1 : negN x.x5 = (4294967296 - x.x5) % 4294967296 := rfl
    show (((p1 + (x.x5 : Int)) % 4294967296 + (negN x.x5 : Int)) % 4294967296, ((p2 + (x.x5 : Int)) % 4294967296 + (negN x.x5 : Int)) % 4294967296) = (p1, p2)
    congr 1 <;> omega
  unfold turnS turnO backS
  dsimp only
  rw [back_add w4 b4, e5, ev, ee, eb]
theorem win_zero {a : Nat} (h : a < 65536) : (winT a 0 0).toNat = a := by
  unfold winT
  have : scN 0 = 0 := rfl
  rw [this]
  simp
  omega
end
end Go.Proofs.Ytengegcnocdkoaa
end
