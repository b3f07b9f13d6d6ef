/- A region that draws its order, one walk with facts: the single operations. -/
import Derived.Test.YtnnpahjopfkchaaFlow
set_option linter.unusedVariables false
set_option linter.unusedSimpArgs false
set_option linter.unusedSectionVars false
namespace Go.Proofs.Ytnnpahjopfkchaa
open Go.RowKit

section
variable {P : Program} {ops : Array Oper} {S : World → Prop} {R : World → World → Prop} {End : List Tmp → List Fc → Act → Prop} {rest : List Oper} {k : Nat} {T : List Tmp} {N : List Fc} {a : Act} {o : Oper}
def plainW (ops : Array Oper) (T : List Tmp) (o : Oper) : Bool := (o.looksAt ops).all fun t => T.all fun s => s != t
theorem exec_plain (hns : ∀ cs x, o.op ≠ .select cs x) (hp : plainW ops T o = true) (f : Tmp → Value) : execOp (fillW T f a).eval o = execOp a.eval o :=
  exec_congr (ops := ops) hns fun t ht => fillW_out f T a t fun hT => by
    have := List.all_eq_true.1 (List.all_eq_true.1 hp t ht) t hT
    simp at this
theorem noEnter_select (h : noEnterB o = true) : ∀ cs x, o.op ≠ .select cs x := fun cs x e => by unfold noEnterB at h; rw [e] at h; cases h
theorem flow_nil (h : End T N a) : wpW P ops S R End k [] T N a := h
theorem flow_skip {d : Option Tmp} {op : Op} {t : TypeId} {ps : String} {af : Array Edge} {g : Option (Nat × Bool)} (hg : guardW ops T { dst := d, op := op, type := t, pos := ps, after := af, guard := g } = true) (hw : Region.wanted { dst := d, op := op, type := t, pos := ps, after := af, guard := g } (yielded ops a.tmps) = false) (w0 : World)
    (h : ∀ K : Act → Prop, (∀ a, wpW P ops S R End (k + 1) rest T N a → K a) → Oper.quiet P { dst := d, op := .assign (.const undef), type := t, pos := "", after := #[], guard := none } a (fun _ => True) K) : wpW P ops S R End k ({ dst := d, op := op, type := t, pos := ps, after := af, guard := g } :: rest) T N a :=
  ⟨hg, by rw [if_neg (by rw [hw]; exact Bool.false_ne_true)]; exact on_value t h w0⟩
theorem flow_quiet (hRr : ∀ w, R w w) (hg : guardW ops T o = true) (hw : Region.wanted o (yielded ops a.tmps) = true) (hp : plainW ops T o = true) (hne : noEnterB o = true)
    (h : ∀ K : Act → Prop, (∀ a, wpW P ops S R End (k + 1) rest T N a → K a) → o.quiet P a (fun w' => ∃ x : Cls S, w' = x.w) K) : wpW P ops S R End k (o :: rest) T N a := by
  obtain ⟨v, hv, hn⟩ := h _ (fun _ h => h)
  refine ⟨hg, ?_⟩
  rw [if_pos hw]
  refine .inl ⟨v, fun w f hS _ => gives_congr (exec_plain (noEnter_select hne) hp f) ?_, hn⟩
  have h1 := hv w ⟨⟨w, hS⟩, rfl⟩
  unfold Oper.quietAt at h1
  unfold gives
  have hno := fun f args w' => noEnter (P := P) (a := a) (w := w) (w' := w') (f := f) (args := args) hne
  generalize (execOp a.eval o).run P w = r at *
  cases r with
  | ok n w' =>
    cases n <;> simp only [Oper.quietUpon] at h1 <;> simp only
    case value u => obtain ⟨rfl, rfl⟩ := h1; exact ⟨rfl, hS, hRr _⟩
    case skip => obtain ⟨rfl, rfl⟩ := h1; exact ⟨rfl, hS, hRr _⟩
    case enter f args => exact absurd rfl (hno f args w')
  | halt x w' => simp only [Oper.quietUpon] at h1
theorem flow_nilCheck {d : Option Tmp} {x : Operand} {t : TypeId} {ps : String} {af : Array Edge} {g : Option (Nat × Bool)} (p : Addr) (hx : a.eval x = .pointer (some p)) (hRr : ∀ w, R w w) (hg : guardW ops T { dst := d, op := .nilCheck x, type := t, pos := ps, after := af, guard := g } = true)
    (hw : Region.wanted { dst := d, op := .nilCheck x, type := t, pos := ps, after := af, guard := g } (yielded ops a.tmps) = true) (hp : plainW ops T { dst := d, op := .nilCheck x, type := t, pos := ps, after := af, guard := g } = true) (w0 : World)
    (h : ∀ K : Act → Prop, (∀ a, wpW P ops S R End (k + 1) rest T N a → K a) → Oper.quiet P { dst := d, op := .assign (.const (.pointer (some p))), type := t, pos := "", after := #[], guard := none } a (fun _ => True) K) :
    wpW P ops S R End k ({ dst := d, op := .nilCheck x, type := t, pos := ps, after := af, guard := g } :: rest) T N a := by
  refine ⟨hg, ?_⟩
  rw [if_pos hw]
  refine .inl ⟨.pointer (some p), fun w f hS _ => gives_congr (exec_plain (fun _ _ e => by cases e) hp f) ?_, on_value t h w0⟩
  simp only [gives, execOp, hx, Sem.run_pure]
  exact ⟨trivial, hS, hRr _⟩
/-- a call whose value is told ahead -/
theorem flow_call {d : Option Tmp} {f : FuncId} {xs : Array Operand} {ts : Array TypeId} {t : TypeId} {ps : String} {af : Array Edge} {g : Option (Nat × Bool)}
    (hcf : ∀ (vals : Array Value) (w : World), (callFunc f vals).run P w = .ok (.enter f vals) w) (vals : Array Value) (hv : xs.map a.eval = vals)
    (hg : guardW ops T { dst := d, op := .call { callee := .value (.func f), args := xs, argTypes := ts }, type := t, pos := ps, after := af, guard := g } = true)
    (hw : Region.wanted { dst := d, op := .call { callee := .value (.func f), args := xs, argTypes := ts }, type := t, pos := ps, after := af, guard := g } (yielded ops a.tmps) = true)
    (hp : plainW ops T { dst := d, op := .call { callee := .value (.func f), args := xs, argTypes := ts }, type := t, pos := ps, after := af, guard := g } = true) (v : Value)
    (hc : ∀ x : Cls S, Calls P f vals x.w fun e w'' => e = .returned v ∧ S w'' ∧ R x.w w'') (w0 : World)
    (h : ∀ K : Act → Prop, (∀ a, wpW P ops S R End (k + 1) rest T N a → K a) → Oper.quiet P { dst := d, op := .assign (.const v), type := t, pos := "", after := #[], guard := none } a (fun _ => True) K) :
    wpW P ops S R End k ({ dst := d, op := .call { callee := .value (.func f), args := xs, argTypes := ts }, type := t, pos := ps, after := af, guard := g } :: rest) T N a := by
  refine ⟨hg, ?_⟩
  rw [if_pos hw]
  refine .inl ⟨v, fun w f' hS _ => gives_congr (exec_plain (fun _ _ e => by cases e) hp f') ?_, on_value t h w0⟩
  have he : (execOp a.eval { dst := d, op := .call { callee := .value (.func f), args := xs, argTypes := ts }, type := t, pos := ps, after := af, guard := g }).run P w = .ok (.enter f vals) w := by
    simp [execOp, resolve, Act.eval, Deferred.ofValue, invoke, hcf, ← hv]
  unfold gives
  rw [he]
  exact (hc ⟨w, hS⟩).mono fun e w'' ⟨he, hs, hr⟩ => ⟨v, he, rfl, hs, hr⟩
/-- an operation whose slot is told by a fact from then on -/
theorem flow_fact {d : Tmp} {op : Op} {t : TypeId} {ps : String} {af : Array Edge} {g : Option (Nat × Bool)} (φ : List Value → World → Prop) (hst : ∀ l w w', R w w' → φ l w → φ l w')
    (hrun : ∀ w f, S w → knownW { dst := some d, op := op, type := t, pos := ps, after := af, guard := g } N f w → gives P { dst := some d, op := op, type := t, pos := ps, after := af, guard := g } (fillW T f a) w fun u w' => φ [u] w' ∧ S w' ∧ R w w')
    (hg : guardW ops T { dst := some d, op := op, type := t, pos := ps, after := af, guard := g } = true) (hw : Region.wanted { dst := some d, op := op, type := t, pos := ps, after := af, guard := g } (yielded ops a.tmps) = true) (w0 : World)
    (h : ∀ K : Act → Prop, (∀ a, wpW P ops S R End (k + 1) rest (d :: T) (⟨k, [d], φ⟩ :: N) a → K a) → Oper.quiet P { dst := some d, op := .assign (.const undef), type := t, pos := "", after := #[], guard := none } a (fun _ => True) K) :
    wpW P ops S R End k ({ dst := some d, op := op, type := t, pos := ps, after := af, guard := g } :: rest) T N a := by
  refine ⟨hg, ?_⟩
  rw [if_pos hw]
  refine .inr ⟨[([d], φ)], fun x hx => ?_, fun w f hS hN => ?_, on_value t h w0⟩
  · obtain rfl : x = ([d], φ) := by simpa using hx
    exact ⟨fun t ht => .inl (by rw [List.mem_singleton.1 ht]), hst⟩
  · have := hrun w f hS hN
    have e : updW f (some d) = fun u t => if some d = some t then u else f t := rfl
    unfold gives at *
    generalize (execOp (fillW T f a).eval { dst := some d, op := op, type := t, pos := ps, after := af, guard := g }).run P w = r at *
    have key : ∀ u w', φ [u] w' ∧ S w' ∧ R w w' → (∀ x ∈ [([d], φ)], x.2 (x.1.map (updW f (some d) u)) w') ∧ S w' ∧ R w w' := fun u w' ⟨h1, h2, h3⟩ => ⟨fun x hx => by
      obtain rfl : x = ([d], φ) := by simpa using hx
      simpa [updW] using h1, h2, h3⟩
    cases r with
    | ok n w' =>
      cases n <;> simp only at this ⊢
      case value u => exact key _ _ this
      case skip => exact key _ _ this
      case enter f args => exact this.mono fun e w'' ⟨v, he, hp⟩ => ⟨v, he, key _ _ hp⟩
    | halt x w' => exact this
/-- an operation whose value is the same in all that the facts tell -/
theorem flow_val {d : Option Tmp} {op : Op} {t : TypeId} {ps : String} {af : Array Edge} {g : Option (Nat × Bool)} (v : Value)
    (hrun : ∀ w f, S w → knownW { dst := d, op := op, type := t, pos := ps, after := af, guard := g } N f w → gives P { dst := d, op := op, type := t, pos := ps, after := af, guard := g } (fillW T f a) w fun u w' => u = v ∧ S w' ∧ R w w')
    (hg : guardW ops T { dst := d, op := op, type := t, pos := ps, after := af, guard := g } = true) (hw : Region.wanted { dst := d, op := op, type := t, pos := ps, after := af, guard := g } (yielded ops a.tmps) = true) (w0 : World)
    (h : ∀ K : Act → Prop, (∀ a, wpW P ops S R End (k + 1) rest T N a → K a) → Oper.quiet P { dst := d, op := .assign (.const v), type := t, pos := "", after := #[], guard := none } a (fun _ => True) K) :
    wpW P ops S R End k ({ dst := d, op := op, type := t, pos := ps, after := af, guard := g } :: rest) T N a := by
  refine ⟨hg, ?_⟩
  rw [if_pos hw]
  exact .inl ⟨v, hrun, on_value t h w0⟩
/-- what is told of a slot, at an operation that waits for it -/
theorem known_at {o : Oper} {f : Tmp → Value} {w : World} (h : knownW o N f w) (j : Nat) {i : Nat} {y : Tmp} {ψ : List Value → World → Prop} (hj : N[j]? = some ⟨i, [y], ψ⟩) (hw : waitsB o i = true) : ψ [f y] w := h _ (List.mem_of_getElem? hj) hw
theorem fill_eval {f : Tmp → Value} {y : Tmp} (hy : y ∈ T) (hs : y < a.tmps.size) : (fillW T f a).eval (.tmp y) = f y := by
  have := fillW_in f T a y hy hs
  simp only [Act.eval, Array.getD_eq_getD_getElem?, this, Option.getD_some]
theorem fill_eval_out {f : Tmp → Value} {y : Tmp} (hy : y ∉ T) : (fillW T f a).eval (.tmp y) = a.eval (.tmp y) := by
  have := fillW_out f T a y hy
  simp only [Act.eval, Array.getD_eq_getD_getElem?, this]
/-- a call of a Go function, whose value is told by a fact -/
theorem flow_callF {d : Tmp} {f : FuncId} {xs : Array Operand} {ts : Array TypeId} {t : TypeId} {ps : String} {af : Array Edge} {g : Option (Nat × Bool)} (φ : List Value → World → Prop) (hst : ∀ l w w', R w w' → φ l w → φ l w')
    (hcf : ∀ (vals : Array Value) (w : World), (callFunc f vals).run P w = .ok (.enter f vals) w) (vals : Array Value) (hv : xs.map a.eval = vals)
    (hp : plainW ops T { dst := some d, op := .call { callee := .value (.func f), args := xs, argTypes := ts }, type := t, pos := ps, after := af, guard := g } = true)
    (hc : ∀ x : Cls S, Calls P f vals x.w fun e w'' => ∃ v, e = .returned v ∧ φ [v] w'' ∧ S w'' ∧ R x.w w'')
    (hg : guardW ops T { dst := some d, op := .call { callee := .value (.func f), args := xs, argTypes := ts }, type := t, pos := ps, after := af, guard := g } = true)
    (hw : Region.wanted { dst := some d, op := .call { callee := .value (.func f), args := xs, argTypes := ts }, type := t, pos := ps, after := af, guard := g } (yielded ops a.tmps) = true) (w0 : World)
    (h : ∀ K : Act → Prop, (∀ a, wpW P ops S R End (k + 1) rest (d :: T) (⟨k, [d], φ⟩ :: N) a → K a) → Oper.quiet P { dst := some d, op := .assign (.const undef), type := t, pos := "", after := #[], guard := none } a (fun _ => True) K) :
    wpW P ops S R End k ({ dst := some d, op := .call { callee := .value (.func f), args := xs, argTypes := ts }, type := t, pos := ps, after := af, guard := g } :: rest) T N a :=
  flow_fact φ hst (fun w f' hS hN => gives_congr (exec_plain (fun _ _ e => by cases e) hp f') (by
    have he : (execOp a.eval { dst := some d, op := .call { callee := .value (.func f), args := xs, argTypes := ts }, type := t, pos := ps, after := af, guard := g }).run P w = .ok (.enter f vals) w := by
      simp [execOp, resolve, Act.eval, Deferred.ofValue, invoke, hcf, ← hv]
    unfold gives
    rw [he]
    exact hc ⟨w, hS⟩)) hg hw w0 h
/-- a move of a slot that is told by a fact -/
theorem flow_move {d y : Tmp} {op : Op} {t : TypeId} {ps : String} {af : Array Edge} {g : Option (Nat × Bool)} (hop : ∀ (ρ : Operand → Value), execOp ρ { dst := some d, op := op, type := t, pos := ps, after := af, guard := g } = pure (.value (ρ (.tmp y)))) (j : Nat) {i : Nat} {ψ : List Value → World → Prop} (hj : N[j]? = some ⟨i, [y], ψ⟩) (hwt : waitsB { dst := some d, op := op, type := t, pos := ps, after := af, guard := g } i = true)
    (hyT : T.contains y = true) (hy : y < a.tmps.size) (hst : ∀ l w w', R w w' → ψ l w → ψ l w') (hRr : ∀ w, R w w)
    (hg : guardW ops T { dst := some d, op := op, type := t, pos := ps, after := af, guard := g } = true) (hw : Region.wanted { dst := some d, op := op, type := t, pos := ps, after := af, guard := g } (yielded ops a.tmps) = true) (w0 : World)
    (h : ∀ K : Act → Prop, (∀ a, wpW P ops S R End (k + 1) rest (d :: T) (⟨k, [d], ψ⟩ :: N) a → K a) → Oper.quiet P { dst := some d, op := .assign (.const undef), type := t, pos := "", after := #[], guard := none } a (fun _ => True) K) :
    wpW P ops S R End k ({ dst := some d, op := op, type := t, pos := ps, after := af, guard := g } :: rest) T N a :=
  flow_fact ψ hst (fun w f hS hN => by
    unfold gives
    rw [hop]
    simp only [Sem.run_pure]
    rw [fill_eval (by simpa using hyT) hy]
    exact ⟨known_at hN j hj hwt, hS, hRr _⟩) hg hw w0 h
/-- a part of a tuple that is told by a fact -/
theorem flow_extract {d y : Tmp} {n : Nat} {t : TypeId} {ps : String} {af : Array Edge} {g : Option (Nat × Bool)} (φ : List Value → World → Prop) (j : Nat) {i : Nat} {ψ : List Value → World → Prop} (hj : N[j]? = some ⟨i, [y], ψ⟩) (hwt : waitsB { dst := some d, op := .extract (.tmp y) n, type := t, pos := ps, after := af, guard := g } i = true)
    (hyT : T.contains y = true) (hy : y < a.tmps.size) (hst : ∀ l w w', R w w' → φ l w → φ l w') (hRr : ∀ w, R w w) (hx : ∀ u w, ψ [u] w → ∃ v, (Instr.extract u n).run P w = .ok v w ∧ φ [v] w)
    (hg : guardW ops T { dst := some d, op := .extract (.tmp y) n, type := t, pos := ps, after := af, guard := g } = true) (hw : Region.wanted { dst := some d, op := .extract (.tmp y) n, type := t, pos := ps, after := af, guard := g } (yielded ops a.tmps) = true) (w0 : World)
    (h : ∀ K : Act → Prop, (∀ a, wpW P ops S R End (k + 1) rest (d :: T) (⟨k, [d], φ⟩ :: N) a → K a) → Oper.quiet P { dst := some d, op := .assign (.const undef), type := t, pos := "", after := #[], guard := none } a (fun _ => True) K) :
    wpW P ops S R End k ({ dst := some d, op := .extract (.tmp y) n, type := t, pos := ps, after := af, guard := g } :: rest) T N a :=
  flow_fact φ hst (fun w f hS hN => by
    obtain ⟨v, hv, hp⟩ := hx _ _ (known_at hN j hj hwt)
    unfold gives
    simp only [execOp, Sem.run_bind]
    rw [fill_eval (by simpa using hyT) hy, hv]
    exact ⟨hp, hS, hRr _⟩) hg hw w0 h
/-- .. whose value is the same in all that the fact tells -/
theorem flow_extractV {d y : Tmp} {n : Nat} {t : TypeId} {ps : String} {af : Array Edge} {g : Option (Nat × Bool)} (v : Value) (j : Nat) {i : Nat} {ψ : List Value → World → Prop} (hj : N[j]? = some ⟨i, [y], ψ⟩) (hwt : waitsB { dst := some d, op := .extract (.tmp y) n, type := t, pos := ps, after := af, guard := g } i = true)
    (hyT : T.contains y = true) (hy : y < a.tmps.size) (hRr : ∀ w, R w w) (hx : ∀ u w, ψ [u] w → (Instr.extract u n).run P w = .ok v w)
    (hg : guardW ops T { dst := some d, op := .extract (.tmp y) n, type := t, pos := ps, after := af, guard := g } = true) (hw : Region.wanted { dst := some d, op := .extract (.tmp y) n, type := t, pos := ps, after := af, guard := g } (yielded ops a.tmps) = true) (w0 : World)
    (h : ∀ K : Act → Prop, (∀ a, wpW P ops S R End (k + 1) rest T N a → K a) → Oper.quiet P { dst := some d, op := .assign (.const v), type := t, pos := "", after := #[], guard := none } a (fun _ => True) K) :
    wpW P ops S R End k ({ dst := some d, op := .extract (.tmp y) n, type := t, pos := ps, after := af, guard := g } :: rest) T N a := by
  refine ⟨hg, ?_⟩
  rw [if_pos hw]
  refine .inl ⟨v, fun w f hS hN => ?_, on_value t h w0⟩
  have hv := hx _ _ (known_at hN j hj hwt)
  unfold gives
  simp only [execOp, Sem.run_bind]
  rw [fill_eval (by simpa using hyT) hy, hv]
  exact ⟨rfl, hS, hRr _⟩
/-- what is known of a slice that was just built, as a fact of the flow -/
def newRow (E : TypeId) (cs : Array Value) (n : Nat) (l : List Value) (W : World) : Prop := ∃ g, l = [.slice (some ⟨g, 0, none⟩) n n] ∧ Blk W g E cs
theorem newRow.of {E : TypeId} {cs : Array Value} {n : Nat} (l : List Value) (w w' : World) (hb : Below w.heap.size w w') (h : newRow E cs n l w) : newRow E cs n l w' := by
  obtain ⟨g, hu, hk⟩ := h
  exact ⟨g, hu, hk.below hb hk.lt⟩
theorem flow_build {E : TypeId} {d A : Nat} {n : Nat} {parts : Array (Nat × Operand)} {t : TypeId} {ps : String} {af : Array Edge} {g : Option (Nat × Bool)} (vals : Array (Nat × Value)) (hv : (parts.map fun (i, x) => (i, a.eval x)) = vals) (cs : Array Value)
    (hrun : ∀ w : World, (Instr.buildSlice A n vals).run P w = .ok (.slice (some ⟨w.heap.size, 0, none⟩) n n) (w.alloc (.cells cs E)))
    (hS : ∀ w w', S w → Below w.heap.size w w' → S w')
    (hp : plainW ops T { dst := some d, op := .buildSlice A n parts, type := t, pos := ps, after := af, guard := g } = true)
    (hg : guardW ops T { dst := some d, op := .buildSlice A n parts, type := t, pos := ps, after := af, guard := g } = true)
    (hw : Region.wanted { dst := some d, op := .buildSlice A n parts, type := t, pos := ps, after := af, guard := g } (yielded ops a.tmps) = true) (w0 : World)
    (h : ∀ K : Act → Prop, (∀ a, wpW P ops S (fun w w' => Below w.heap.size w w') End (k + 1) rest (d :: T) (⟨k, [d], newRow E cs n⟩ :: N) a → K a) → Oper.quiet P { dst := some d, op := .assign (.const undef), type := t, pos := "", after := #[], guard := none } a (fun _ => True) K) :
    wpW P ops S (fun w w' => Below w.heap.size w w') End k ({ dst := some d, op := .buildSlice A n parts, type := t, pos := ps, after := af, guard := g } :: rest) T N a :=
  flow_fact (newRow E cs n) newRow.of (fun w f hs hN => gives_congr (exec_plain (fun _ _ e => by cases e) hp f) (by
    have hb : Below w.heap.size w (w.alloc (.cells cs E)) := (Below.refl _ _).alloc (Nat.le_refl _) _
    unfold gives
    simp only [execOp, Sem.run_bind]
    rw [hv, hrun]
    exact ⟨⟨_, rfl, Blk.new _ _ _⟩, hS _ _ hs hb, hb⟩)) hg hw w0 h
/-- a call of one argument, which is told by a fact; its value is the same in all that the fact tells -/
theorem flow_call1 {d : Option Tmp} {f : FuncId} {y : Tmp} {ts : Array TypeId} {t : TypeId} {ps : String} {af : Array Edge} {g : Option (Nat × Bool)}
    (hcf : ∀ (vals : Array Value) (w : World), (callFunc f vals).run P w = .ok (.enter f vals) w) (v : Value) (j : Nat) {i : Nat} {ψ : List Value → World → Prop} (hj : N[j]? = some ⟨i, [y], ψ⟩) (hwt : waitsB { dst := d, op := .call { callee := .value (.func f), args := #[.tmp y], argTypes := ts }, type := t, pos := ps, after := af, guard := g } i = true)
    (hyT : T.contains y = true) (hy : y < a.tmps.size) (hc : ∀ (x : Cls S) (u : Value), ψ [u] x.w → Calls P f #[u] x.w fun e w'' => e = .returned v ∧ S w'' ∧ R x.w w'')
    (hg : guardW ops T { dst := d, op := .call { callee := .value (.func f), args := #[.tmp y], argTypes := ts }, type := t, pos := ps, after := af, guard := g } = true)
    (hw : Region.wanted { dst := d, op := .call { callee := .value (.func f), args := #[.tmp y], argTypes := ts }, type := t, pos := ps, after := af, guard := g } (yielded ops a.tmps) = true) (w0 : World)
    (h : ∀ K : Act → Prop, (∀ a, wpW P ops S R End (k + 1) rest T N a → K a) → Oper.quiet P { dst := d, op := .assign (.const v), type := t, pos := "", after := #[], guard := none } a (fun _ => True) K) :
    wpW P ops S R End k ({ dst := d, op := .call { callee := .value (.func f), args := #[.tmp y], argTypes := ts }, type := t, pos := ps, after := af, guard := g } :: rest) T N a :=
  flow_val v (fun w f' hS hN => by
    have he : (execOp (fillW T f' a).eval { dst := d, op := .call { callee := .value (.func f), args := #[.tmp y], argTypes := ts }, type := t, pos := ps, after := af, guard := g }).run P w = .ok (.enter f #[f' y]) w := by
      have h1 : (#[Operand.tmp y].map (fillW T f' a).eval) = #[f' y] := by simp [fill_eval (T := T) (a := a) (f := f') (y := y) (by simpa using hyT) hy]
      simp only [execOp, resolve, h1]
      simp [Act.eval, Deferred.ofValue, invoke, hcf]
    unfold gives
    rw [he]
    exact (hc ⟨w, hS⟩ (f' y) (known_at hN j hj hwt)).mono fun e w'' ⟨he, hs, hr⟩ => ⟨v, he, rfl, hs, hr⟩) hg hw w0 h
end
end Go.Proofs.Ytnnpahjopfkchaa
