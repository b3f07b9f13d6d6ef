/- Contracts and plain lemmas: PktOpen. -/
import Derived.Test.YtengegcnocdkoaaRb15
import Derived.Test.YtengegcnocdkoaaRb5
section
set_option linter.unusedVariables false
set_option linter.unusedSimpArgs false
set_option maxRecDepth 20000
namespace Go.Proofs.Ytengegcnocdkoaa
open Go.RowKit Go.ChangeShapes Go.WideShapes Go.BigFrame
/-- what is known of a segment that came in -/
structure SgF (w : World) (s : Sg) (A : Option Addr) (c : Nat) : Prop where
  ok : s.wf
  r : BlR w A s.o.bl
  n : s.o.bl.length ≤ maxLen
  d : s.d.size ≤ maxLen
theorem nat_of {a : Int} {n : Nat} (h : 0 ≤ a ∧ a < (n : Int)) : ∃ k : Nat, a = (k : Int) ∧ k < n := ⟨a.toNat, by omega, by omega⟩
section
variable {H : Type} {enc : TypeId × Value → H} {w : World} {base : Nat}
theorem open_sg {r : Reach} {b0 : Nat} {v : Value} {d : DataW H} {p : List MemPlace} (hv : Value.okWide Try.prog w r b0 30 v) (h : DataW.Trod enc Try.prog w base (fun _ => true) true 30 v d p) :
    ∃ (s : Sg) (A : Option Addr) (c : Nat), v = .agg (s.c A c) ∧ SgF w s A c := by
  obtain ⟨s0, s1, s2, s3, s4, s5, f, s7, o, A, c, dd, rfl, hf⟩ := open_seg hv h
  obtain ⟨n0, rfl, h0⟩ := nat_of (n := 4294967296) hf.b0
  obtain ⟨n1, rfl, h1⟩ := nat_of (n := 65536) hf.b1
  obtain ⟨n2, rfl, h2⟩ := nat_of (n := 4294967296) hf.b2
  obtain ⟨n3, rfl, h3⟩ := nat_of (n := 65536) hf.b3
  obtain ⟨n4, rfl, h4⟩ := nat_of (n := 4294967296) hf.b4
  obtain ⟨n5, rfl, h5⟩ := nat_of (n := 4294967296) hf.b5
  obtain ⟨n7, rfl, h7⟩ := nat_of (n := 65536) hf.b7
  exact ⟨⟨n0, n1, n2, n3, n4, n5, f, n7, o, dd⟩, A, c, rfl, ⟨⟨h0, h1, h2, h3, h4, h5, hf.f, h7, hf.o.1⟩, hf.o.2.1, Nat.le_trans hf.o.2.2.1 hf.o.2.2.2, hf.d⟩⟩
end
def heavyB (s : Sg) : Bool := decide ((s.d.size : Int) > 4096) || decide ((s.o.bl.length : Int) > 100)
theorem heavy_sg (w : World) (s : Sg) (A : Option Addr) (c : Nat) (hn : s.o.bl.length ≤ maxLen) (hd : s.d.size ≤ maxLen) : Calls Try.prog 9 #[.agg (s.c A c)] w fun e w' => e = .returned (.bool (heavyB s)) ∧ Below w.heap.size w w' :=
  heavy_any w _ _ _ _ _ _ _ _ _ _ _ _ A _ c _ _ s.d hn hd
theorem heavyB_no {s : Sg} (h : heavyB s = false) : s.d.size ≤ 4096 ∧ s.o.bl.length ≤ 100 := by
  unfold heavyB at h
  rw [Bool.or_eq_false_iff, decide_eq_false_iff_not, decide_eq_false_iff_not] at h
  omega
theorem wpl_load_g {P : Program} {ops : Array Oper} {rest : List Oper} {op : Oper} {a : Act} {w : World} {Q : Exit → Act → World → Prop} {g : Nat} {E : TypeId} {cs : Array Value} {x : Operand} (ho : op.op = .load E x) (hx : a.eval x = .pointer (some ⟨g, 0, none⟩)) (hw : Region.wanted op (yielded ops a.tmps) = true) (h : Blk w g E cs) (hu : (P.underlying E).map TypeDesc.isRow = some true) (hi : (P.info? E).map (·.size) = some cs.size)
    (hn : wpList P ops Q rest (a.put op.dst (.agg cs)) w) : wpList P ops Q (op :: rest) a w :=
  wpList_step fun K hK => by
    rw [if_pos hw]
    unfold Oper.wp execOp
    simp only [ho, Sem.run_bind]
    rw [hx, run_load_blk h hu hi]
    exact hK _ _ hn
theorem segT.is {s : Sg} {v : Value} {W : World} (h : segT s [v] W) : ∃ A c, v = .agg (s.c A c) ∧ BlR W A s.o.bl := by
  obtain ⟨A, c, h1, h2⟩ := h
  injection h1 with h1
  exact ⟨A, c, h1, h2⟩
section
variable {P : Program} {ops : Array Oper} {S : World → Prop} {R : World → World → Prop} {End : List Tmp → List Fc → Act → Prop} {rest : List Oper} {k : Nat} {T : List Tmp} {N : List Fc} {a : Act} {o : Oper}
end
end Go.Proofs.Ytengegcnocdkoaa
end
