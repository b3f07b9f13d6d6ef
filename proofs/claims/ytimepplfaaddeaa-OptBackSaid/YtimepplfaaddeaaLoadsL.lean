/- A whole struct is loaded from a block by a law (the walk's own way costs the kernel 20 s at a struct of 16 cells). -/
import Derived.Test.YtimepplfaaddeaaFlowA
import Derived.Deep.MidRow
set_option linter.unusedVariables false
set_option linter.unusedSimpArgs false
namespace Go.Proofs.Ytimepplfaaddeaa
open Go.RowKit Go.BigFrame

theorem Blk.range {w : World} {g : Nat} {E : TypeId} {cs : Array Value} (h : Blk w g E cs) : w.rangeAt g 0 cs.toList := fun j v hv => by
  have := h.cell j
  rw [Nat.zero_add, this]
  simpa using hv
theorem run_load_blk {P : Program} {w : World} {g : Nat} {E : TypeId} {cs : Array Value} (h : Blk w g E cs) (hu : (P.underlying E).map TypeDesc.isRow = some true) (hi : (P.info? E).map (·.size) = some cs.size) :
    (Instr.loadAt E (.pointer (some ⟨g, 0, none⟩))).run P w = .ok (.agg cs) w := by
  obtain ⟨d, hu, hd⟩ := Option.map_eq_some_iff.1 hu
  have := run_loadAt_mid (P := P) w g 0 E cs.toList d h.range hu hd (by rw [hi]; simp)
  simpa using this
theorem wpl_load {P : Program} {ops : Array Oper} {rest : List Oper} {op : Oper} {a : Act} {w : World} {Q : Exit → Act → World → Prop} {g : Nat} {E : TypeId} {cs : Array Value} (h : Blk w g E cs) (hu : (P.underlying E).map TypeDesc.isRow = some true) (hi : (P.info? E).map (·.size) = some cs.size)
    (hgd : op.guard = none) (x : Operand) (ho : op.op = .load E x) (hx : a.eval x = .pointer (some ⟨g, 0, none⟩)) (hn : wpList P ops Q rest (a.put op.dst (.agg cs)) w) : wpList P ops Q (op :: rest) a w := by
  obtain ⟨d, hu, hd⟩ := Option.map_eq_some_iff.1 hu
  exact wpList_load_mid hgd E x ho g 0 hx cs.toList d h.range hu hd (by rw [hi]; simp) (by simpa using hn)
section
variable {P : Program} {ops : Array Oper} {S : World → Prop} {R : World → World → Prop} {End : List Tmp → List Fc → Act → Prop} {rest : List Oper} {k : Nat} {T : List Tmp} {N : List Fc} {a : Act} {o : Oper}
theorem flow_load {d : Option Tmp} {E : TypeId} {x : Operand} {t : TypeId} {ps : String} {af : Array Edge} {g : Option (Nat × Bool)} (b : Nat) (cs : Array Value) (hb : ∀ y : Cls S, Blk y.w b E cs) (hu : (P.underlying E).map TypeDesc.isRow = some true) (hi : (P.info? E).map (·.size) = some cs.size)
    (hx : a.eval x = .pointer (some ⟨b, 0, none⟩)) (hRr : ∀ w, R w w)
    (hp : plainW ops T { dst := d, op := .load E x, type := t, pos := ps, after := af, guard := g } = true)
    (hg : guardW ops T { dst := d, op := .load E x, type := t, pos := ps, after := af, guard := g } = true) (hw : Region.wanted { dst := d, op := .load E x, type := t, pos := ps, after := af, guard := g } (yielded ops a.tmps) = true) (w0 : World)
    (h : ∀ K : Act → Prop, (∀ a, wpW P ops S R End (k + 1) rest T N a → K a) → Oper.quiet P { dst := d, op := .assign (.const (.agg cs)), type := t, pos := "", after := #[], guard := none } a (fun _ => True) K) :
    wpW P ops S R End k ({ dst := d, op := .load E x, type := t, pos := ps, after := af, guard := g } :: rest) T N a :=
  flow_val (.agg cs) (fun w f hS hN => gives_congr (exec_plain (fun _ _ e => by cases e) hp f) (by
    unfold gives
    simp only [execOp, Sem.run_bind]
    rw [hx, run_load_blk (hb ⟨w, hS⟩) hu hi]
    exact ⟨rfl, hS, hRr _⟩)) hg hw w0 h
end
end Go.Proofs.Ytimepplfaaddeaa
