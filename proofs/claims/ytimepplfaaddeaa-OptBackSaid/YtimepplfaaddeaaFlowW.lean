/- Arms of the walk in text order: an operation whose value hangs on one slot that is told by a fact; a variable that is laid. -/
import Derived.Test.YtimepplfaaddeaaFlowA
set_option linter.unusedVariables false
set_option linter.unusedSimpArgs false
namespace Go.Proofs.Ytimepplfaaddeaa
open Go.RowKit Go.BigFrame

section
variable {P : Program} {ops : Array Oper} {S : World → Prop} {R : World → World → Prop} {End : List Tmp → List Fc → Act → Prop} {rest : List Oper} {k : Nat} {T : List Tmp} {N : List Fc} {a : Act} {o : Oper}
theorem flow_of1 {d y : Tmp} {op : Op} {t : TypeId} {ps : String} {af : Array Edge} {g : Option (Nat × Bool)} (φ : List Value → World → Prop) (j : Nat) {i : Nat} {ψ : List Value → World → Prop} (hj : N[j]? = some ⟨i, [y], ψ⟩) (hwt : waitsB { dst := some d, op := op, type := t, pos := ps, after := af, guard := g } i = true)
    (hst : ∀ l w w', R w w' → φ l w → φ l w') (hRr : ∀ w, R w w)
    (hrun : ∀ f' w, ψ [f' y] w → ∃ v, (execOp (fillW T f' a).eval { dst := some d, op := op, type := t, pos := ps, after := af, guard := g }).run P w = .ok (.value v) w ∧ φ [v] w)
    (hg : guardW ops T { dst := some d, op := op, type := t, pos := ps, after := af, guard := g } = true) (hw : Region.wanted { dst := some d, op := op, type := t, pos := ps, after := af, guard := g } (yielded ops a.tmps) = true) (w0 : World)
    (h : ∀ K : Act → Prop, (∀ a, wpW P ops S R End (k + 1) rest (d :: T) (⟨k, [d], φ⟩ :: N) a → K a) → Oper.quiet P { dst := some d, op := .assign (.const undef), type := t, pos := "", after := #[], guard := none } a (fun _ => True) K) :
    wpW P ops S R End k ({ dst := some d, op := op, type := t, pos := ps, after := af, guard := g } :: rest) T N a :=
  flow_fact φ hst (fun w f hS hN => by
    obtain ⟨v, hv, hp⟩ := hrun f w (known_at hN j hj hwt)
    unfold gives
    rw [hv]
    exact ⟨hp, hS, hRr _⟩) hg hw w0 h
/-- what is known of a variable that was just laid -/
def newVar (B : Nat) (E : TypeId) (z : Array Value) (l : List Value) (W : World) : Prop := ∃ g, l = [.pointer (some ⟨g, 0, none⟩)] ∧ B ≤ g ∧ Blk W g E z
theorem newVar.of {B : Nat} {E : TypeId} {z : Array Value} (l : List Value) (w w' : World) (hb : Below w.heap.size w w') (h : newVar B E z l w) : newVar B E z l w' := by
  obtain ⟨g, h1, h2, h3⟩ := h
  exact ⟨g, h1, h2, h3.below hb h3.lt⟩
theorem flow_lay (B : Nat) (z : Array Value) {E : TypeId} {d : Nat} {t : TypeId} {ps : String} {af : Array Edge} {g : Option (Nat × Bool)}
    (hrun : ∀ w : World, (Instr.alloc E true (.tuple #[])).run P w = .ok (.pointer (some ⟨w.heap.size, 0, none⟩)) (w.alloc (.cells z E)))
    (hS : ∀ w w', S w → Below w.heap.size w w' → S w') (hB : ∀ w, S w → B ≤ w.heap.size)
    (hg : guardW ops T { dst := some d, op := .alloc E, type := t, pos := ps, after := af, guard := g } = true)
    (hw : Region.wanted { dst := some d, op := .alloc E, type := t, pos := ps, after := af, guard := g } (yielded ops a.tmps) = true) (w0 : World)
    (h : ∀ K : Act → Prop, (∀ a, wpW P ops S (fun w w' => Below w.heap.size w w') End (k + 1) rest (d :: T) (⟨k, [d], newVar B E z⟩ :: N) a → K a) → Oper.quiet P { dst := some d, op := .assign (.const undef), type := t, pos := "", after := #[], guard := none } a (fun _ => True) K) :
    wpW P ops S (fun w w' => Below w.heap.size w w') End k ({ dst := some d, op := .alloc E, type := t, pos := ps, after := af, guard := g } :: rest) T N a :=
  flow_fact (newVar B E z) newVar.of (fun w f hs hN => by
    have hb : Below w.heap.size w (w.alloc (.cells z E)) := (Below.refl _ _).alloc (Nat.le_refl _) _
    unfold gives
    simp only [execOp, Sem.run_bind]
    rw [hrun]
    exact ⟨⟨_, rfl, hB w hs, Blk.new _ _ _⟩, hS _ _ hs hb, hb⟩) hg hw w0 h
/-- what is told of a value with a new row in it -/
def rowIn (mk : Value → Value) (E : TypeId) (cs : Array Value) (n : Nat) (l : List Value) (W : World) : Prop := ∃ g, l = [mk (.slice (some ⟨g, 0, none⟩) n n)] ∧ Blk W g E cs
theorem rowIn.of {mk : Value → Value} {E : TypeId} {cs : Array Value} {n : Nat} (l : List Value) (w w' : World) (hb : Below w.heap.size w w') (h : rowIn mk E cs n l w) : rowIn mk E cs n l w' := by
  obtain ⟨g, h1, h3⟩ := h
  exact ⟨g, h1, h3.below hb h3.lt⟩
end
/-- the worlds that differ from W0 in new blocks alone -/
def Fresh (W0 W : World) : Prop := Below W0.heap.size W0 W
theorem Fresh.below {W0 W W' : World} (h : Fresh W0 W) (hb : Below W.heap.size W W') : Fresh W0 W' := Below.trans h (hb.mono (Below.size h))
end Go.Proofs.Ytimepplfaaddeaa
