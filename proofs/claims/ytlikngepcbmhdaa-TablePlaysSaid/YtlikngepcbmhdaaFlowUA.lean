/- A region that draws its order, one walk with facts, where some operations write: the single operations. -/
import Derived.Test.YtlikngepcbmhdaaFlowU
set_option linter.unusedVariables false
set_option linter.unusedSimpArgs false
set_option linter.unusedSectionVars false
namespace Go.Proofs.Ytlikngepcbmhdaa
open Go.RowKit

section
variable {P : Program} {ops : Array Oper} {S : World → Prop} {R : Nat → World → World → Prop} {U : List (Nat × (World → Prop))} {End : List Tmp → List Fc → Act → Prop} {rest : List Oper} {k : Nat} {T : List Tmp} {N : List Fc} {a : Act} {o : Oper}
theorem flowu_nil (h : End T N a) : wpU P ops S R U End k [] T N a := h
theorem flowu_skip {d : Option Tmp} {op : Op} {t : TypeId} {ps : String} {af : Array Edge} {g : Option (Nat × Bool)} (hg : guardW ops T { dst := d, op := op, type := t, pos := ps, after := af, guard := g } = true) (hw : Region.wanted { dst := d, op := op, type := t, pos := ps, after := af, guard := g } (yielded ops a.tmps) = false) (w0 : World)
    (h : ∀ K : Act → Prop, (∀ a, wpU P ops S R U End (k + 1) rest T N a → K a) → Oper.quiet P { dst := d, op := .assign (.const undef), type := t, pos := "", after := #[], guard := none } a (fun _ => True) K) : wpU P ops S R U End k ({ dst := d, op := op, type := t, pos := ps, after := af, guard := g } :: rest) T N a :=
  ⟨hg, by rw [if_neg (by rw [hw]; exact Bool.false_ne_true)]; exact on_value t h w0⟩
theorem flowu_quiet (hRr : ∀ i w, R i w w) (hg : guardW ops T o = true) (hw : Region.wanted o (yielded ops a.tmps) = true) (hp : plainW ops T o = true) (hne : noEnterB o = true)
    (h : ∀ K : Act → Prop, (∀ a, wpU P ops S R U End (k + 1) rest T N a → K a) → o.quiet P a (fun w' => ∃ x : Cls S, w' = x.w) K) : wpU P ops S R U End k (o :: rest) T N a := by
  obtain ⟨v, hv, hn⟩ := h _ (fun _ h => h)
  refine ⟨hg, ?_⟩
  rw [if_pos hw]
  refine .inl (old_val P ops S R U ⟨v, fun w f hS _ _ => gives_congr (exec_plain (noEnter_select hne) hp f) ?_, hn⟩)
  have h1 := hv w ⟨⟨w, hS⟩, rfl⟩
  unfold Oper.quietAt at h1
  unfold gives
  have hno := fun f args w' => noEnter (P := P) (a := a) (w := w) (w' := w') (f := f) (args := args) hne
  generalize (execOp a.eval o).run P w = r at *
  cases r with
  | ok n w' =>
    cases n <;> simp only [Oper.quietUpon] at h1 <;> simp only
    case value u => obtain ⟨rfl, rfl⟩ := h1; exact ⟨rfl, hS, hRr _ _⟩
    case skip => obtain ⟨rfl, rfl⟩ := h1; exact ⟨rfl, hS, hRr _ _⟩
    case enter f args => exact absurd rfl (hno f args w')
  | halt x w' => simp only [Oper.quietUpon] at h1
theorem flowu_nilCheck {d : Option Tmp} {x : Operand} {t : TypeId} {ps : String} {af : Array Edge} {g : Option (Nat × Bool)} (p : Addr) (hx : a.eval x = .pointer (some p)) (hRr : ∀ i w, R i w w) (hg : guardW ops T { dst := d, op := .nilCheck x, type := t, pos := ps, after := af, guard := g } = true)
    (hw : Region.wanted { dst := d, op := .nilCheck x, type := t, pos := ps, after := af, guard := g } (yielded ops a.tmps) = true) (hp : plainW ops T { dst := d, op := .nilCheck x, type := t, pos := ps, after := af, guard := g } = true) (w0 : World)
    (h : ∀ K : Act → Prop, (∀ a, wpU P ops S R U End (k + 1) rest T N a → K a) → Oper.quiet P { dst := d, op := .assign (.const (.pointer (some p))), type := t, pos := "", after := #[], guard := none } a (fun _ => True) K) :
    wpU P ops S R U End k ({ dst := d, op := .nilCheck x, type := t, pos := ps, after := af, guard := g } :: rest) T N a := by
  refine ⟨hg, ?_⟩
  rw [if_pos hw]
  refine .inl (old_val P ops S R U ⟨.pointer (some p), fun w f hS _ _ => gives_congr (exec_plain (fun _ _ e => by cases e) hp f) ?_, on_value t h w0⟩)
  simp only [gives, execOp, hx, Sem.run_pure]
  exact ⟨trivial, hS, hRr _ _⟩
/-- a call whose value is told ahead -/
theorem flowu_call {d : Option Tmp} {f : FuncId} {xs : Array Operand} {ts : Array TypeId} {t : TypeId} {ps : String} {af : Array Edge} {g : Option (Nat × Bool)}
    (hcf : ∀ (vals : Array Value) (w : World), (callFunc f vals).run P w = .ok (.enter f vals) w) (vals : Array Value) (hv : xs.map a.eval = vals)
    (hg : guardW ops T { dst := d, op := .call { callee := .value (.func f), args := xs, argTypes := ts }, type := t, pos := ps, after := af, guard := g } = true)
    (hw : Region.wanted { dst := d, op := .call { callee := .value (.func f), args := xs, argTypes := ts }, type := t, pos := ps, after := af, guard := g } (yielded ops a.tmps) = true)
    (hp : plainW ops T { dst := d, op := .call { callee := .value (.func f), args := xs, argTypes := ts }, type := t, pos := ps, after := af, guard := g } = true) (v : Value)
    (hc : ∀ x : Cls S, Calls P f vals x.w fun e w'' => e = .returned v ∧ S w'' ∧ R k x.w w'') (w0 : World)
    (h : ∀ K : Act → Prop, (∀ a, wpU P ops S R U End (k + 1) rest T N a → K a) → Oper.quiet P { dst := d, op := .assign (.const v), type := t, pos := "", after := #[], guard := none } a (fun _ => True) K) :
    wpU P ops S R U End k ({ dst := d, op := .call { callee := .value (.func f), args := xs, argTypes := ts }, type := t, pos := ps, after := af, guard := g } :: rest) T N a := by
  refine ⟨hg, ?_⟩
  rw [if_pos hw]
  refine .inl (old_val P ops S R U ⟨v, fun w f' hS _ _ => gives_congr (exec_plain (fun _ _ e => by cases e) hp f') ?_, on_value t h w0⟩)
  have he : (execOp a.eval { dst := d, op := .call { callee := .value (.func f), args := xs, argTypes := ts }, type := t, pos := ps, after := af, guard := g }).run P w = .ok (.enter f vals) w := by
    simp [execOp, resolve, Act.eval, Deferred.ofValue, invoke, hcf, ← hv]
  unfold gives
  rw [he]
  exact (hc ⟨w, hS⟩).mono fun e w'' ⟨he, hs, hr⟩ => ⟨v, he, rfl, hs, hr⟩
/-- an operation whose slot is told by a fact from then on -/
theorem flowu_fact0 {d : Tmp} {op : Op} {t : TypeId} {ps : String} {af : Array Edge} {g : Option (Nat × Bool)} (φ : List Value → World → Prop) (hst : ∀ l i w w', i ≠ k → R i w w' → φ l w → φ l w')
    (hrun : ∀ w f, S w → knownW { dst := some d, op := op, type := t, pos := ps, after := af, guard := g } N f w → untilU U k w → gives P { dst := some d, op := op, type := t, pos := ps, after := af, guard := g } (fillW T f a) w fun u w' => φ [u] w' ∧ S w' ∧ R k w w')
    (hg : guardW ops T { dst := some d, op := op, type := t, pos := ps, after := af, guard := g } = true) (hw : Region.wanted { dst := some d, op := op, type := t, pos := ps, after := af, guard := g } (yielded ops a.tmps) = true) (w0 : World)
    (h : ∀ K : Act → Prop, (∀ a, wpU P ops S R U End (k + 1) rest (d :: T) (⟨k, [d], φ⟩ :: N) a → K a) → Oper.quiet P { dst := some d, op := .assign (.const undef), type := t, pos := "", after := #[], guard := none } a (fun _ => True) K) :
    wpU P ops S R U End k ({ dst := some d, op := op, type := t, pos := ps, after := af, guard := g } :: rest) T N a := by
  refine ⟨hg, ?_⟩
  rw [if_pos hw]
  refine .inr ⟨[([d], φ)], fun x hx => ?_, fun w f hS hN hut => ?_, on_value t h w0⟩
  · obtain rfl : x = ([d], φ) := by simpa using hx
    exact ⟨fun t ht => .inl (by rw [List.mem_singleton.1 ht]), hst⟩
  · have := hrun w f hS hN hut
    have e : updW f (some d) = fun u t => if some d = some t then u else f t := rfl
    unfold gives at *
    generalize (execOp (fillW T f a).eval { dst := some d, op := op, type := t, pos := ps, after := af, guard := g }).run P w = r at *
    have key : ∀ u w', φ [u] w' ∧ S w' ∧ R k w w' → (∀ x ∈ [([d], φ)], x.2 (x.1.map (updW f (some d) u)) w') ∧ S w' ∧ R k w w' := fun u w' ⟨h1, h2, h3⟩ => ⟨fun x hx => by
      obtain rfl : x = ([d], φ) := by simpa using hx
      simpa [updW] using h1, h2, h3⟩
    cases r with
    | ok n w' =>
      cases n <;> simp only at this ⊢
      case value u => exact key _ _ this
      case skip => exact key _ _ this
      case enter f args => exact this.mono fun e w'' ⟨v, he, hp⟩ => ⟨v, he, key _ _ hp⟩
    | halt x w' => exact this
theorem flowu_fact {d : Tmp} {op : Op} {t : TypeId} {ps : String} {af : Array Edge} {g : Option (Nat × Bool)} (φ : List Value → World → Prop) (hst : ∀ l i w w', R i w w' → φ l w → φ l w')
    (hrun : ∀ w f, S w → knownW { dst := some d, op := op, type := t, pos := ps, after := af, guard := g } N f w → untilU U k w → gives P { dst := some d, op := op, type := t, pos := ps, after := af, guard := g } (fillW T f a) w fun u w' => φ [u] w' ∧ S w' ∧ R k w w')
    (hg : guardW ops T { dst := some d, op := op, type := t, pos := ps, after := af, guard := g } = true) (hw : Region.wanted { dst := some d, op := op, type := t, pos := ps, after := af, guard := g } (yielded ops a.tmps) = true) (w0 : World)
    (h : ∀ K : Act → Prop, (∀ a, wpU P ops S R U End (k + 1) rest (d :: T) (⟨k, [d], φ⟩ :: N) a → K a) → Oper.quiet P { dst := some d, op := .assign (.const undef), type := t, pos := "", after := #[], guard := none } a (fun _ => True) K) :
    wpU P ops S R U End k ({ dst := some d, op := op, type := t, pos := ps, after := af, guard := g } :: rest) T N a :=
  flowu_fact0 φ (fun l i w w' _ => hst l i w w') hrun hg hw w0 h
/-- an operation whose value is the same in all that the facts tell -/
theorem flowu_val {d : Option Tmp} {op : Op} {t : TypeId} {ps : String} {af : Array Edge} {g : Option (Nat × Bool)} (v : Value)
    (hrun : ∀ w f, S w → knownW { dst := d, op := op, type := t, pos := ps, after := af, guard := g } N f w → untilU U k w → gives P { dst := d, op := op, type := t, pos := ps, after := af, guard := g } (fillW T f a) w fun u w' => u = v ∧ S w' ∧ R k w w')
    (hg : guardW ops T { dst := d, op := op, type := t, pos := ps, after := af, guard := g } = true) (hw : Region.wanted { dst := d, op := op, type := t, pos := ps, after := af, guard := g } (yielded ops a.tmps) = true) (w0 : World)
    (h : ∀ K : Act → Prop, (∀ a, wpU P ops S R U End (k + 1) rest T N a → K a) → Oper.quiet P { dst := d, op := .assign (.const v), type := t, pos := "", after := #[], guard := none } a (fun _ => True) K) :
    wpU P ops S R U End k ({ dst := d, op := op, type := t, pos := ps, after := af, guard := g } :: rest) T N a := by
  refine ⟨hg, ?_⟩
  rw [if_pos hw]
  exact .inl (old_val P ops S R U ⟨v, hrun, on_value t h w0⟩)
/-- a call of a Go function, whose value is told by a fact -/
theorem flowu_callF {d : Tmp} {f : FuncId} {xs : Array Operand} {ts : Array TypeId} {t : TypeId} {ps : String} {af : Array Edge} {g : Option (Nat × Bool)} (φ : List Value → World → Prop) (hst : ∀ l i w w', R i w w' → φ l w → φ l w')
    (hcf : ∀ (vals : Array Value) (w : World), (callFunc f vals).run P w = .ok (.enter f vals) w) (vals : Array Value) (hv : xs.map a.eval = vals)
    (hp : plainW ops T { dst := some d, op := .call { callee := .value (.func f), args := xs, argTypes := ts }, type := t, pos := ps, after := af, guard := g } = true)
    (hc : ∀ x : Cls S, Calls P f vals x.w fun e w'' => ∃ v, e = .returned v ∧ φ [v] w'' ∧ S w'' ∧ R k x.w w'')
    (hg : guardW ops T { dst := some d, op := .call { callee := .value (.func f), args := xs, argTypes := ts }, type := t, pos := ps, after := af, guard := g } = true)
    (hw : Region.wanted { dst := some d, op := .call { callee := .value (.func f), args := xs, argTypes := ts }, type := t, pos := ps, after := af, guard := g } (yielded ops a.tmps) = true) (w0 : World)
    (h : ∀ K : Act → Prop, (∀ a, wpU P ops S R U End (k + 1) rest (d :: T) (⟨k, [d], φ⟩ :: N) a → K a) → Oper.quiet P { dst := some d, op := .assign (.const undef), type := t, pos := "", after := #[], guard := none } a (fun _ => True) K) :
    wpU P ops S R U End k ({ dst := some d, op := .call { callee := .value (.func f), args := xs, argTypes := ts }, type := t, pos := ps, after := af, guard := g } :: rest) T N a :=
  flowu_fact φ hst (fun w f' hS hN hut => gives_congr (exec_plain (fun _ _ e => by cases e) hp f') (by
    have he : (execOp a.eval { dst := some d, op := .call { callee := .value (.func f), args := xs, argTypes := ts }, type := t, pos := ps, after := af, guard := g }).run P w = .ok (.enter f vals) w := by
      simp [execOp, resolve, Act.eval, Deferred.ofValue, invoke, hcf, ← hv]
    unfold gives
    rw [he]
    exact hc ⟨w, hS⟩)) hg hw w0 h
/-- a move of a slot that is told by a fact -/
theorem flowu_move {d y : Tmp} {op : Op} {t : TypeId} {ps : String} {af : Array Edge} {g : Option (Nat × Bool)} (hop : ∀ (ρ : Operand → Value), execOp ρ { dst := some d, op := op, type := t, pos := ps, after := af, guard := g } = pure (.value (ρ (.tmp y)))) (j : Nat) {i : Nat} {ψ : List Value → World → Prop} (hj : N[j]? = some ⟨i, [y], ψ⟩) (hwt : waitsB { dst := some d, op := op, type := t, pos := ps, after := af, guard := g } i = true)
    (hyT : T.contains y = true) (hy : y < a.tmps.size) (hst : ∀ l i w w', R i w w' → ψ l w → ψ l w') (hRr : ∀ i w, R i w w)
    (hg : guardW ops T { dst := some d, op := op, type := t, pos := ps, after := af, guard := g } = true) (hw : Region.wanted { dst := some d, op := op, type := t, pos := ps, after := af, guard := g } (yielded ops a.tmps) = true) (w0 : World)
    (h : ∀ K : Act → Prop, (∀ a, wpU P ops S R U End (k + 1) rest (d :: T) (⟨k, [d], ψ⟩ :: N) a → K a) → Oper.quiet P { dst := some d, op := .assign (.const undef), type := t, pos := "", after := #[], guard := none } a (fun _ => True) K) :
    wpU P ops S R U End k ({ dst := some d, op := op, type := t, pos := ps, after := af, guard := g } :: rest) T N a :=
  flowu_fact ψ hst (fun w f hS hN hut => by
    unfold gives
    rw [hop]
    simp only [Sem.run_pure]
    rw [fill_eval (by simpa using hyT) hy]
    exact ⟨known_at hN j hj hwt, hS, hRr _ _⟩) hg hw w0 h
/-- a part of a tuple that is told by a fact -/
theorem flowu_extract {d y : Tmp} {n : Nat} {t : TypeId} {ps : String} {af : Array Edge} {g : Option (Nat × Bool)} (φ : List Value → World → Prop) (j : Nat) {i : Nat} {ψ : List Value → World → Prop} (hj : N[j]? = some ⟨i, [y], ψ⟩) (hwt : waitsB { dst := some d, op := .extract (.tmp y) n, type := t, pos := ps, after := af, guard := g } i = true)
    (hyT : T.contains y = true) (hy : y < a.tmps.size) (hst : ∀ l i w w', R i w w' → φ l w → φ l w') (hRr : ∀ i w, R i w w) (hx : ∀ u w, ψ [u] w → ∃ v, (Instr.extract u n).run P w = .ok v w ∧ φ [v] w)
    (hg : guardW ops T { dst := some d, op := .extract (.tmp y) n, type := t, pos := ps, after := af, guard := g } = true) (hw : Region.wanted { dst := some d, op := .extract (.tmp y) n, type := t, pos := ps, after := af, guard := g } (yielded ops a.tmps) = true) (w0 : World)
    (h : ∀ K : Act → Prop, (∀ a, wpU P ops S R U End (k + 1) rest (d :: T) (⟨k, [d], φ⟩ :: N) a → K a) → Oper.quiet P { dst := some d, op := .assign (.const undef), type := t, pos := "", after := #[], guard := none } a (fun _ => True) K) :
    wpU P ops S R U End k ({ dst := some d, op := .extract (.tmp y) n, type := t, pos := ps, after := af, guard := g } :: rest) T N a :=
  flowu_fact φ hst (fun w f hS hN hut => by
    obtain ⟨v, hv, hp⟩ := hx _ _ (known_at hN j hj hwt)
    unfold gives
    simp only [execOp, Sem.run_bind]
    rw [fill_eval (by simpa using hyT) hy, hv]
    exact ⟨hp, hS, hRr _ _⟩) hg hw w0 h
/-- .. whose value is the same in all that the fact tells -/
theorem flowu_extractV {d y : Tmp} {n : Nat} {t : TypeId} {ps : String} {af : Array Edge} {g : Option (Nat × Bool)} (v : Value) (j : Nat) {i : Nat} {ψ : List Value → World → Prop} (hj : N[j]? = some ⟨i, [y], ψ⟩) (hwt : waitsB { dst := some d, op := .extract (.tmp y) n, type := t, pos := ps, after := af, guard := g } i = true)
    (hyT : T.contains y = true) (hy : y < a.tmps.size) (hRr : ∀ i w, R i w w) (hx : ∀ u w, ψ [u] w → (Instr.extract u n).run P w = .ok v w)
    (hg : guardW ops T { dst := some d, op := .extract (.tmp y) n, type := t, pos := ps, after := af, guard := g } = true) (hw : Region.wanted { dst := some d, op := .extract (.tmp y) n, type := t, pos := ps, after := af, guard := g } (yielded ops a.tmps) = true) (w0 : World)
    (h : ∀ K : Act → Prop, (∀ a, wpU P ops S R U End (k + 1) rest T N a → K a) → Oper.quiet P { dst := some d, op := .assign (.const v), type := t, pos := "", after := #[], guard := none } a (fun _ => True) K) :
    wpU P ops S R U End k ({ dst := some d, op := .extract (.tmp y) n, type := t, pos := ps, after := af, guard := g } :: rest) T N a := by
  refine ⟨hg, ?_⟩
  rw [if_pos hw]
  refine .inl (old_val P ops S R U ⟨v, fun w f hS hN hut => ?_, on_value t h w0⟩)
  have hv := hx _ _ (known_at hN j hj hwt)
  unfold gives
  simp only [execOp, Sem.run_bind]
  rw [fill_eval (by simpa using hyT) hy, hv]
  exact ⟨rfl, hS, hRr _ _⟩
theorem flowu_build {E : TypeId} {d A : Nat} {n : Nat} {parts : Array (Nat × Operand)} {t : TypeId} {ps : String} {af : Array Edge} {g : Option (Nat × Bool)} (vals : Array (Nat × Value)) (hv : (parts.map fun (i, x) => (i, a.eval x)) = vals) (cs : Array Value)
    (hrun : ∀ w : World, (Instr.buildSlice A n vals).run P w = .ok (.slice (some ⟨w.heap.size, 0, none⟩) n n) (w.alloc (.cells cs E)))
    (hS : ∀ w w', S w → Below w.heap.size w w' → S w')
    (hp : plainW ops T { dst := some d, op := .buildSlice A n parts, type := t, pos := ps, after := af, guard := g } = true)
    (hg : guardW ops T { dst := some d, op := .buildSlice A n parts, type := t, pos := ps, after := af, guard := g } = true)
    (hw : Region.wanted { dst := some d, op := .buildSlice A n parts, type := t, pos := ps, after := af, guard := g } (yielded ops a.tmps) = true) (w0 : World)
    (h : ∀ K : Act → Prop, (∀ a, wpU P ops S (fun _ w w' => Below w.heap.size w w') U End (k + 1) rest (d :: T) (⟨k, [d], newRow E cs n⟩ :: N) a → K a) → Oper.quiet P { dst := some d, op := .assign (.const undef), type := t, pos := "", after := #[], guard := none } a (fun _ => True) K) :
    wpU P ops S (fun _ w w' => Below w.heap.size w w') U End k ({ dst := some d, op := .buildSlice A n parts, type := t, pos := ps, after := af, guard := g } :: rest) T N a :=
  flowu_fact (newRow E cs n) (fun l _ => newRow.of l) (fun w f hs hN hut => gives_congr (exec_plain (fun _ _ e => by cases e) hp f) (by
    have hb : Below w.heap.size w (w.alloc (.cells cs E)) := (Below.refl _ _).alloc (Nat.le_refl _) _
    unfold gives
    simp only [execOp, Sem.run_bind]
    rw [hv, hrun]
    exact ⟨⟨_, rfl, Blk.new _ _ _⟩, hS _ _ hs hb, hb⟩)) hg hw w0 h
/-- a call of one argument, which is told by a fact; its value is the same in all that the fact tells -/
theorem flowu_call1 {d : Option Tmp} {f : FuncId} {y : Tmp} {ts : Array TypeId} {t : TypeId} {ps : String} {af : Array Edge} {g : Option (Nat × Bool)}
    (hcf : ∀ (vals : Array Value) (w : World), (callFunc f vals).run P w = .ok (.enter f vals) w) (v : Value) (j : Nat) {i : Nat} {ψ : List Value → World → Prop} (hj : N[j]? = some ⟨i, [y], ψ⟩) (hwt : waitsB { dst := d, op := .call { callee := .value (.func f), args := #[.tmp y], argTypes := ts }, type := t, pos := ps, after := af, guard := g } i = true)
    (hyT : T.contains y = true) (hy : y < a.tmps.size) (hc : ∀ (x : Cls S) (u : Value), ψ [u] x.w → Calls P f #[u] x.w fun e w'' => e = .returned v ∧ S w'' ∧ R k x.w w'')
    (hg : guardW ops T { dst := d, op := .call { callee := .value (.func f), args := #[.tmp y], argTypes := ts }, type := t, pos := ps, after := af, guard := g } = true)
    (hw : Region.wanted { dst := d, op := .call { callee := .value (.func f), args := #[.tmp y], argTypes := ts }, type := t, pos := ps, after := af, guard := g } (yielded ops a.tmps) = true) (w0 : World)
    (h : ∀ K : Act → Prop, (∀ a, wpU P ops S R U End (k + 1) rest T N a → K a) → Oper.quiet P { dst := d, op := .assign (.const v), type := t, pos := "", after := #[], guard := none } a (fun _ => True) K) :
    wpU P ops S R U End k ({ dst := d, op := .call { callee := .value (.func f), args := #[.tmp y], argTypes := ts }, type := t, pos := ps, after := af, guard := g } :: rest) T N a :=
  flowu_val v (fun w f' hS hN hut => by
    have he : (execOp (fillW T f' a).eval { dst := d, op := .call { callee := .value (.func f), args := #[.tmp y], argTypes := ts }, type := t, pos := ps, after := af, guard := g }).run P w = .ok (.enter f #[f' y]) w := by
      have h1 : (#[Operand.tmp y].map (fillW T f' a).eval) = #[f' y] := by simp [fill_eval (T := T) (a := a) (f := f') (y := y) (by simpa using hyT) hy]
      simp only [execOp, resolve, h1]
      simp [Act.eval, Deferred.ofValue, invoke, hcf]
    unfold gives
    rw [he]
    exact (hc ⟨w, hS⟩ (f' y) (known_at hN j hj hwt)).mono fun e w'' ⟨he, hs, hr⟩ => ⟨v, he, rfl, hs, hr⟩) hg hw w0 h
/-- a fact on the world alone, known at an operation that waits for it -/
theorem known_w {o : Oper} {f : Tmp → Value} {w : World} (h : knownW o N f w) (j : Nat) {i : Nat} {ψ : List Value → World → Prop} (hj : N[j]? = some ⟨i, [], ψ⟩) (hw : waitsB o i = true) : ψ [] w := h _ (List.mem_of_getElem? hj) hw
/-- a value that is told, and a fact on the world besides -/
theorem flowu_stay0 {d : Option Tmp} {op : Op} {t : TypeId} {ps : String} {af : Array Edge} {g : Option (Nat × Bool)} (v : Value) (ψ : List Value → World → Prop) (hst : ∀ l i w w', i ≠ k → R i w w' → ψ l w → ψ l w')
    (hrun : ∀ w f, S w → knownW { dst := d, op := op, type := t, pos := ps, after := af, guard := g } N f w → untilU U k w → gives P { dst := d, op := op, type := t, pos := ps, after := af, guard := g } (fillW T f a) w fun u w' => (u = v ∧ ψ [] w') ∧ S w' ∧ R k w w')
    (hg : guardW ops T { dst := d, op := op, type := t, pos := ps, after := af, guard := g } = true) (hw : Region.wanted { dst := d, op := op, type := t, pos := ps, after := af, guard := g } (yielded ops a.tmps) = true) (w0 : World)
    (h : ∀ K : Act → Prop, (∀ a, wpU P ops S R U End (k + 1) rest T (⟨k, [], ψ⟩ :: N) a → K a) → Oper.quiet P { dst := d, op := .assign (.const v), type := t, pos := "", after := #[], guard := none } a (fun _ => True) K) :
    wpU P ops S R U End k ({ dst := d, op := op, type := t, pos := ps, after := af, guard := g } :: rest) T N a := by
  refine ⟨hg, ?_⟩
  rw [if_pos hw]
  refine .inl ⟨v, [([], ψ)], fun x hx => ?_, fun w f h1 h2 h3 => ?_, on_value (Nx := wpU P ops S R U End (k + 1) rest T (⟨k, [], ψ⟩ :: N)) t h w0⟩
  · obtain rfl : x = ([], ψ) := by simpa using hx
    exact ⟨(fun t ht => by cases ht), hst⟩
  · have := hrun w f h1 h2 h3
    have key : ∀ u w', ((u = v ∧ ψ [] w') ∧ S w' ∧ R k w w') → (u = v ∧ ∀ x ∈ [(([] : List Tmp), ψ)], x.2 (x.1.map f) w') ∧ S w' ∧ R k w w' := fun u w' ⟨⟨q1, q2⟩, q3⟩ => ⟨⟨q1, fun x hx => by
      obtain rfl : x = ([], ψ) := by simpa using hx
      exact q2⟩, q3⟩
    unfold gives at *
    generalize (execOp (fillW T f a).eval { dst := d, op := op, type := t, pos := ps, after := af, guard := g }).run P w = r at *
    cases r with
    | ok n w' =>
      cases n <;> simp only at this ⊢
      case value u => exact key _ _ this
      case skip => exact key _ _ this
      case enter f args => exact this.mono fun e w'' ⟨v, he, hp⟩ => ⟨v, he, key _ _ hp⟩
    | halt x w' => exact this
theorem flowu_stay {d : Option Tmp} {op : Op} {t : TypeId} {ps : String} {af : Array Edge} {g : Option (Nat × Bool)} (v : Value) (ψ : List Value → World → Prop) (hst : ∀ l i w w', R i w w' → ψ l w → ψ l w')
    (hrun : ∀ w f, S w → knownW { dst := d, op := op, type := t, pos := ps, after := af, guard := g } N f w → untilU U k w → gives P { dst := d, op := op, type := t, pos := ps, after := af, guard := g } (fillW T f a) w fun u w' => (u = v ∧ ψ [] w') ∧ S w' ∧ R k w w')
    (hg : guardW ops T { dst := d, op := op, type := t, pos := ps, after := af, guard := g } = true) (hw : Region.wanted { dst := d, op := op, type := t, pos := ps, after := af, guard := g } (yielded ops a.tmps) = true) (w0 : World)
    (h : ∀ K : Act → Prop, (∀ a, wpU P ops S R U End (k + 1) rest T (⟨k, [], ψ⟩ :: N) a → K a) → Oper.quiet P { dst := d, op := .assign (.const v), type := t, pos := "", after := #[], guard := none } a (fun _ => True) K) :
    wpU P ops S R U End k ({ dst := d, op := op, type := t, pos := ps, after := af, guard := g } :: rest) T N a :=
  flowu_stay0 v ψ (fun l i w w' _ => hst l i w w') hrun hg hw w0 h
/-- a quiet operation, which reads what a fact on the world tells -/
theorem flowu_quietK (j : Nat) {i : Nat} {ψ : List Value → World → Prop} (hj : N[j]? = some ⟨i, [], ψ⟩) (hwt : waitsB o i = true) (hRr : ∀ i w, R i w w) (hg : guardW ops T o = true) (hw : Region.wanted o (yielded ops a.tmps) = true) (hp : plainW ops T o = true) (hne : noEnterB o = true)
    (h : ∀ K : Act → Prop, (∀ a, wpU P ops S R U End (k + 1) rest T N a → K a) → o.quiet P a (fun w' => ∃ x : Cls (fun W => S W ∧ ψ [] W), w' = x.w) K) : wpU P ops S R U End k (o :: rest) T N a := by
  obtain ⟨v, hv, hn⟩ := h _ (fun _ h => h)
  refine ⟨hg, ?_⟩
  rw [if_pos hw]
  refine .inl (old_val P ops S R U ⟨v, fun w f hS hN _ => gives_congr (exec_plain (noEnter_select hne) hp f) ?_, hn⟩)
  have h1 := hv w ⟨⟨w, hS, known_w hN j hj hwt⟩, rfl⟩
  unfold Oper.quietAt at h1
  unfold gives
  have hno := fun f args w' => noEnter (P := P) (a := a) (w := w) (w' := w') (f := f) (args := args) hne
  generalize (execOp a.eval o).run P w = r at *
  cases r with
  | ok n w' =>
    cases n <;> simp only [Oper.quietUpon] at h1 <;> simp only
    case value u => obtain ⟨rfl, rfl⟩ := h1; exact ⟨rfl, hS, hRr _ _⟩
    case skip => obtain ⟨rfl, rfl⟩ := h1; exact ⟨rfl, hS, hRr _ _⟩
    case enter f args => exact absurd rfl (hno f args w')
  | halt x w' => simp only [Oper.quietUpon] at h1
/-- a quiet operation, behind which a fact on the world is told anew -/
theorem flowu_keep {d : Option Tmp} {op : Op} {t : TypeId} {ps : String} {af : Array Edge} {g : Option (Nat × Bool)} (v : Value) (j : Nat) {i : Nat} {ψ : List Value → World → Prop} (hj : N[j]? = some ⟨i, [], ψ⟩) (hwt : waitsB { dst := d, op := op, type := t, pos := ps, after := af, guard := g } i = true) (hst : ∀ l i w w', R i w w' → ψ l w → ψ l w') (hRr : ∀ i w, R i w w)
    (hex : ∀ w, (execOp a.eval { dst := d, op := op, type := t, pos := ps, after := af, guard := g }).run P w = .ok (.value v) w) (hsel : ∀ cs x, op ≠ .select cs x) (hp : plainW ops T { dst := d, op := op, type := t, pos := ps, after := af, guard := g } = true)
    (hg : guardW ops T { dst := d, op := op, type := t, pos := ps, after := af, guard := g } = true) (hw : Region.wanted { dst := d, op := op, type := t, pos := ps, after := af, guard := g } (yielded ops a.tmps) = true) (w0 : World)
    (h : ∀ K : Act → Prop, (∀ a, wpU P ops S R U End (k + 1) rest T (⟨k, [], ψ⟩ :: N) a → K a) → Oper.quiet P { dst := d, op := .assign (.const v), type := t, pos := "", after := #[], guard := none } a (fun _ => True) K) :
    wpU P ops S R U End k ({ dst := d, op := op, type := t, pos := ps, after := af, guard := g } :: rest) T N a :=
  flowu_stay v ψ hst (fun w f hS hN hut => gives_congr (exec_plain hsel hp f) (by
    unfold gives
    rw [hex w]
    exact ⟨⟨rfl, known_w hN j hj hwt⟩, hS, hRr _ _⟩)) hg hw w0 h
/-- a call, where a fact on the world is known -/
theorem flowu_callK {d : Option Tmp} {f : FuncId} {xs : Array Operand} {ts : Array TypeId} {t : TypeId} {ps : String} {af : Array Edge} {g : Option (Nat × Bool)} (j : Nat) {i : Nat} {ψ : List Value → World → Prop} (hj : N[j]? = some ⟨i, [], ψ⟩)
    (hwt : waitsB { dst := d, op := .call { callee := .value (.func f), args := xs, argTypes := ts }, type := t, pos := ps, after := af, guard := g } i = true)
    (hcf : ∀ (vals : Array Value) (w : World), (callFunc f vals).run P w = .ok (.enter f vals) w) (vals : Array Value) (hv : xs.map a.eval = vals)
    (hg : guardW ops T { dst := d, op := .call { callee := .value (.func f), args := xs, argTypes := ts }, type := t, pos := ps, after := af, guard := g } = true)
    (hw : Region.wanted { dst := d, op := .call { callee := .value (.func f), args := xs, argTypes := ts }, type := t, pos := ps, after := af, guard := g } (yielded ops a.tmps) = true)
    (hp : plainW ops T { dst := d, op := .call { callee := .value (.func f), args := xs, argTypes := ts }, type := t, pos := ps, after := af, guard := g } = true) (v : Value)
    (hc : ∀ w, S w → ψ [] w → Calls P f vals w fun e w'' => e = .returned v ∧ S w'' ∧ R k w w'') (w0 : World)
    (h : ∀ K : Act → Prop, (∀ a, wpU P ops S R U End (k + 1) rest T N a → K a) → Oper.quiet P { dst := d, op := .assign (.const v), type := t, pos := "", after := #[], guard := none } a (fun _ => True) K) :
    wpU P ops S R U End k ({ dst := d, op := .call { callee := .value (.func f), args := xs, argTypes := ts }, type := t, pos := ps, after := af, guard := g } :: rest) T N a := by
  refine ⟨hg, ?_⟩
  rw [if_pos hw]
  refine .inl (old_val P ops S R U ⟨v, fun w f' hS hN _ => gives_congr (exec_plain (fun _ _ e => by cases e) hp f') ?_, on_value t h w0⟩)
  have he : (execOp a.eval { dst := d, op := .call { callee := .value (.func f), args := xs, argTypes := ts }, type := t, pos := ps, after := af, guard := g }).run P w = .ok (.enter f vals) w := by
    simp [execOp, resolve, Act.eval, Deferred.ofValue, invoke, hcf, ← hv]
  unfold gives
  rw [he]
  exact (hc w hS (known_w hN j hj hwt)).mono fun e w'' ⟨he, hs, hr⟩ => ⟨v, he, rfl, hs, hr⟩
/-- a call that writes: what holds until then is known; its value is told by a fact -/
theorem flowu_callX {d : Tmp} {f : FuncId} {xs : Array Operand} {ts : Array TypeId} {t : TypeId} {ps : String} {af : Array Edge} {g : Option (Nat × Bool)} (φ : List Value → World → Prop) (hst : ∀ l i w w', R i w w' → φ l w → φ l w')
    (hcf : ∀ (vals : Array Value) (w : World), (callFunc f vals).run P w = .ok (.enter f vals) w) (vals : Array Value) (hv : xs.map a.eval = vals)
    (hp : plainW ops T { dst := some d, op := .call { callee := .value (.func f), args := xs, argTypes := ts }, type := t, pos := ps, after := af, guard := g } = true)
    (hc : ∀ w, S w → untilU U k w → Calls P f vals w fun e w'' => ∃ v, e = .returned v ∧ φ [v] w'' ∧ S w'' ∧ R k w w'')
    (hg : guardW ops T { dst := some d, op := .call { callee := .value (.func f), args := xs, argTypes := ts }, type := t, pos := ps, after := af, guard := g } = true)
    (hw : Region.wanted { dst := some d, op := .call { callee := .value (.func f), args := xs, argTypes := ts }, type := t, pos := ps, after := af, guard := g } (yielded ops a.tmps) = true) (w0 : World)
    (h : ∀ K : Act → Prop, (∀ a, wpU P ops S R U End (k + 1) rest (d :: T) (⟨k, [d], φ⟩ :: N) a → K a) → Oper.quiet P { dst := some d, op := .assign (.const undef), type := t, pos := "", after := #[], guard := none } a (fun _ => True) K) :
    wpU P ops S R U End k ({ dst := some d, op := .call { callee := .value (.func f), args := xs, argTypes := ts }, type := t, pos := ps, after := af, guard := g } :: rest) T N a :=
  flowu_fact φ hst (fun w f' hS hN hut => gives_congr (exec_plain (fun _ _ e => by cases e) hp f') (by
    have he : (execOp a.eval { dst := some d, op := .call { callee := .value (.func f), args := xs, argTypes := ts }, type := t, pos := ps, after := af, guard := g }).run P w = .ok (.enter f vals) w := by
      simp [execOp, resolve, Act.eval, Deferred.ofValue, invoke, hcf, ← hv]
    unfold gives
    rw [he]
    exact hc w hS hut)) hg hw w0 h
end
end Go.Proofs.Ytlikngepcbmhdaa
