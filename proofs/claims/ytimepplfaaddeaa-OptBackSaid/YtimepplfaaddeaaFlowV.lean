/- Arms of the walk in text order: a conversion of a slice that was just built; a call with such a slice among its arguments. -/
import Derived.Test.YtimepplfaaddeaaFlowA
set_option linter.unusedVariables false
set_option linter.unusedSimpArgs false
namespace Go.Proofs.Ytimepplfaaddeaa
open Go.RowKit Go.BigFrame

section
variable {P : Program} {ops : Array Oper} {S : World → Prop} {R : World → World → Prop} {End : List Tmp → List Fc → Act → Prop} {rest : List Oper} {k : Nat} {T : List Tmp} {N : List Fc} {a : Act} {o : Oper}
theorem flow_conv {d : Option Tmp} {y : Tmp} {A B : TypeId} {t : TypeId} {ps : String} {af : Array Edge} {g : Option (Nat × Bool)} (v : Value) (j : Nat) {i : Nat} {ψ : List Value → World → Prop} (hj : N[j]? = some ⟨i, [y], ψ⟩) (hwt : waitsB { dst := d, op := .convert A B (.tmp y), type := t, pos := ps, after := af, guard := g } i = true)
    (hyT : T.contains y = true) (hy : y < a.tmps.size) (hRr : ∀ w, R w w) (hx : ∀ u w, ψ [u] w → (convert A B u).run P w = .ok v w)
    (hg : guardW ops T { dst := d, op := .convert A B (.tmp y), type := t, pos := ps, after := af, guard := g } = true) (hw : Region.wanted { dst := d, op := .convert A B (.tmp y), type := t, pos := ps, after := af, guard := g } (yielded ops a.tmps) = true) (w0 : World)
    (h : ∀ K : Act → Prop, (∀ a, wpW P ops S R End (k + 1) rest T N a → K a) → Oper.quiet P { dst := d, op := .assign (.const v), type := t, pos := "", after := #[], guard := none } a (fun _ => True) K) :
    wpW P ops S R End k ({ dst := d, op := .convert A B (.tmp y), type := t, pos := ps, after := af, guard := g } :: rest) T N a :=
  flow_val v (fun w f hS hN => by
    have hv := hx _ _ (known_at hN j hj hwt)
    unfold gives
    simp only [execOp, Sem.run_bind]
    rw [fill_eval (by simpa using hyT) hy, hv]
    exact ⟨rfl, hS, hRr _⟩) hg hw w0 h
theorem flow_callY {d : Option Tmp} {f : FuncId} {y : Tmp} {xs : Array Operand} {ts : Array TypeId} {t : TypeId} {ps : String} {af : Array Edge} {g : Option (Nat × Bool)}
    (hcf : ∀ (vals : Array Value) (w : World), (callFunc f vals).run P w = .ok (.enter f vals) w) (v : Value) (vals : Value → Array Value) (j : Nat) {i : Nat} {ψ : List Value → World → Prop} (hj : N[j]? = some ⟨i, [y], ψ⟩) (hwt : waitsB { dst := d, op := .call { callee := .value (.func f), args := xs, argTypes := ts }, type := t, pos := ps, after := af, guard := g } i = true)
    (hv : ∀ f', xs.toList.map (fillW T f' a).eval = (vals (f' y)).toList) (hc : ∀ (x : Cls S) (u : Value), ψ [u] x.w → Calls P f (vals u) x.w fun e w'' => e = .returned v ∧ S w'' ∧ R x.w w'')
    (hg : guardW ops T { dst := d, op := .call { callee := .value (.func f), args := xs, argTypes := ts }, type := t, pos := ps, after := af, guard := g } = true)
    (hw : Region.wanted { dst := d, op := .call { callee := .value (.func f), args := xs, argTypes := ts }, type := t, pos := ps, after := af, guard := g } (yielded ops a.tmps) = true) (w0 : World)
    (h : ∀ K : Act → Prop, (∀ a, wpW P ops S R End (k + 1) rest T N a → K a) → Oper.quiet P { dst := d, op := .assign (.const v), type := t, pos := "", after := #[], guard := none } a (fun _ => True) K) :
    wpW P ops S R End k ({ dst := d, op := .call { callee := .value (.func f), args := xs, argTypes := ts }, type := t, pos := ps, after := af, guard := g } :: rest) T N a :=
  flow_val v (fun w f' hS hN => by
    have hv' : xs.map (fillW T f' a).eval = vals (f' y) := Array.ext' (by rw [Array.toList_map]; exact hv f')
    have he : (execOp (fillW T f' a).eval { dst := d, op := .call { callee := .value (.func f), args := xs, argTypes := ts }, type := t, pos := ps, after := af, guard := g }).run P w = .ok (.enter f (vals (f' y))) w := by
      simp only [execOp, resolve, hv']
      simp [Act.eval, Deferred.ofValue, invoke, hcf]
    unfold gives
    rw [he]
    exact (hc ⟨w, hS⟩ (f' y) (known_at hN j hj hwt)).mono fun e w'' ⟨he, hs, hr⟩ => ⟨v, he, rfl, hs, hr⟩) hg hw w0 h
end
end Go.Proofs.Ytimepplfaaddeaa
