/- A region that draws its order, one walk with facts: x, e := f(..), where x is a variable that the region lays, f a call that may write to a row. -/
import Derived.Test.YtimepplfaaddeaaFlowUB
import Derived.Test.YtimepplfaaddeaaFlowS
import Derived.Test.YtimepplfaaddeaaLoadsL
set_option linter.unusedVariables false
set_option linter.unusedSimpArgs false
set_option linter.unusedSectionVars false
namespace Go.Proofs.Ytimepplfaaddeaa
open Go.RowKit

section
variable {P : Program} {ops : Array Oper} {S : World → Prop} {R : Nat → World → World → Prop} {U : List (Nat × (World → Prop))} {End : List Tmp → List Fc → Act → Prop} {rest : List Oper} {k : Nat} {T : List Tmp} {N : List Fc} {a : Act} {o : Oper}
/-- an operation whose slot is told by a fact, together with slots that it looks at -/
theorem flowu_rel {d : Tmp} {op : Op} {t : TypeId} {ps : String} {af : Array Edge} {g : Option (Nat × Bool)} (ys : List Tmp) (φ : List Value → World → Prop) (hst : ∀ l i w w', i ≠ k → R i w w' → φ l w → φ l w')
    (hys : (ys.all fun y => T.contains y && (Oper.looksAt ops { dst := some d, op := op, type := t, pos := ps, after := af, guard := g }).contains y) = true) (hd : ys.contains d = false)
    (hrun : ∀ w f, S w → knownW { dst := some d, op := op, type := t, pos := ps, after := af, guard := g } N f w → untilU U k w → gives P { dst := some d, op := op, type := t, pos := ps, after := af, guard := g } (fillW T f a) w fun u w' => φ (u :: ys.map f) w' ∧ S w' ∧ R k w w')
    (hg : guardW ops T { dst := some d, op := op, type := t, pos := ps, after := af, guard := g } = true) (hw : Region.wanted { dst := some d, op := op, type := t, pos := ps, after := af, guard := g } (yielded ops a.tmps) = true) (w0 : World)
    (h : ∀ K : Act → Prop, (∀ a, wpU P ops S R U End (k + 1) rest (d :: T) (⟨k, d :: ys, φ⟩ :: N) a → K a) → Oper.quiet P { dst := some d, op := .assign (.const undef), type := t, pos := "", after := #[], guard := none } a (fun _ => True) K) :
    wpU P ops S R U End k ({ dst := some d, op := op, type := t, pos := ps, after := af, guard := g } :: rest) T N a := by
  refine ⟨hg, ?_⟩
  rw [if_pos hw]
  refine .inr ⟨[(d :: ys, φ)], fun x hx => ?_, fun w f hS hN hut => ?_, on_value t h w0⟩
  · obtain rfl : x = (d :: ys, φ) := by simpa using hx
    refine ⟨fun t ht => ?_, hst⟩
    rcases List.mem_cons.1 ht with rfl | ht
    · exact .inl rfl
    · have := List.all_eq_true.1 hys t ht
      rw [Bool.and_eq_true] at this
      exact .inr ⟨by simpa using this.1, by simpa using this.2⟩
  · have := hrun w f hS hN hut
    have hmap : ∀ u, (d :: ys).map (updW f (some d) u) = u :: ys.map f := fun u => by
      rw [List.map_cons]
      congr 1
      · simp [updW]
      · refine List.map_congr_left fun y hy => ?_
        unfold updW
        rw [if_neg]
        intro e
        injection e with e
        subst e
        simp at hd
        exact hd hy
    have key : ∀ u w', φ (u :: ys.map f) w' ∧ S w' ∧ R k w w' → (∀ x ∈ [(d :: ys, φ)], x.2 (x.1.map (updW f (some d) u)) w') ∧ S w' ∧ R k w w' := fun u w' ⟨h1, h2, h3⟩ => ⟨fun x hx => by
      obtain rfl : x = (d :: ys, φ) := by simpa using hx
      show φ ((d :: ys).map (updW f (some d) u)) w'
      rw [hmap]
      exact h1, h2, h3⟩
    unfold gives at *
    generalize (execOp (fillW T f a).eval { dst := some d, op := op, type := t, pos := ps, after := af, guard := g }).run P w = r at *
    cases r with
    | ok n w' =>
      cases n <;> simp only at this ⊢
      case value u => exact key _ _ this
      case skip => exact key _ _ this
      case enter f args => exact this.mono fun e w'' ⟨v, he, hp⟩ => ⟨v, he, key _ _ hp⟩
    | halt x w' => exact this
/-- a fact of two slots, known at an operation that waits for it -/
theorem known_at2 {o : Oper} {f : Tmp → Value} {w : World} (h : knownW o N f w) (j : Nat) {i : Nat} {y z : Tmp} {ψ : List Value → World → Prop} (hj : N[j]? = some ⟨i, [y, z], ψ⟩) (hw : waitsB o i = true) : ψ [f y, f z] w := h _ (List.mem_of_getElem? hj) hw

/-- an operation whose value is told ahead, and which writes: a fact on the world behind it (and how it stood until then) -/
theorem flowu_do {d : Option Tmp} {op : Op} {t : TypeId} {ps : String} {af : Array Edge} {g : Option (Nat × Bool)} (v : Value) (ψ : List Value → World → Prop) (hst : ∀ l i w w', i ≠ k → R i w w' → ψ l w → ψ l w') (hsel : ∀ cs x, op ≠ .select cs x)
    (hp : plainW ops T { dst := d, op := op, type := t, pos := ps, after := af, guard := g } = true)
    (hrun : ∀ w, S w → untilU U k w → ∃ w', (execOp a.eval { dst := d, op := op, type := t, pos := ps, after := af, guard := g }).run P w = .ok (.value v) w' ∧ ψ [] w' ∧ S w' ∧ R k w w')
    (hg : guardW ops T { dst := d, op := op, type := t, pos := ps, after := af, guard := g } = true) (hw : Region.wanted { dst := d, op := op, type := t, pos := ps, after := af, guard := g } (yielded ops a.tmps) = true) (w0 : World)
    (h : ∀ K : Act → Prop, (∀ a, wpU P ops S R U End (k + 1) rest T (⟨k, [], ψ⟩ :: N) a → K a) → Oper.quiet P { dst := d, op := .assign (.const v), type := t, pos := "", after := #[], guard := none } a (fun _ => True) K) :
    wpU P ops S R U End k ({ dst := d, op := op, type := t, pos := ps, after := af, guard := g } :: rest) T N a :=
  flowu_stay0 v ψ hst (fun w f hS hN hut => gives_congr (exec_plain hsel hp f) (by
    obtain ⟨w', h1, h2, h3, h4⟩ := hrun w hS hut
    unfold gives
    rw [h1]
    exact ⟨⟨rfl, h2⟩, h3, h4⟩)) hg hw w0 h
/-- a call with a slot among its arguments that a fact tells; its value is the same in all that the fact tells -/
theorem flowu_callY {d : Option Tmp} {f : FuncId} {y : Tmp} {xs : Array Operand} {ts : Array TypeId} {t : TypeId} {ps : String} {af : Array Edge} {g : Option (Nat × Bool)}
    (hcf : ∀ (vals : Array Value) (w : World), (callFunc f vals).run P w = .ok (.enter f vals) w) (v : Value) (vals : Value → Array Value) (j : Nat) {i : Nat} {ψ : List Value → World → Prop} (hj : N[j]? = some ⟨i, [y], ψ⟩) (hwt : waitsB { dst := d, op := .call { callee := .value (.func f), args := xs, argTypes := ts }, type := t, pos := ps, after := af, guard := g } i = true)
    (hv : ∀ f', xs.toList.map (fillW T f' a).eval = (vals (f' y)).toList) (hc : ∀ (x : Cls S) (u : Value), ψ [u] x.w → Calls P f (vals u) x.w fun e w'' => e = .returned v ∧ S w'' ∧ R k x.w w'')
    (hg : guardW ops T { dst := d, op := .call { callee := .value (.func f), args := xs, argTypes := ts }, type := t, pos := ps, after := af, guard := g } = true)
    (hw : Region.wanted { dst := d, op := .call { callee := .value (.func f), args := xs, argTypes := ts }, type := t, pos := ps, after := af, guard := g } (yielded ops a.tmps) = true) (w0 : World)
    (h : ∀ K : Act → Prop, (∀ a, wpU P ops S R U End (k + 1) rest T N a → K a) → Oper.quiet P { dst := d, op := .assign (.const v), type := t, pos := "", after := #[], guard := none } a (fun _ => True) K) :
    wpU P ops S R U End k ({ dst := d, op := .call { callee := .value (.func f), args := xs, argTypes := ts }, type := t, pos := ps, after := af, guard := g } :: rest) T N a :=
  flowu_val v (fun w f' hS hN hut => by
    have hv' : xs.map (fillW T f' a).eval = vals (f' y) := Array.ext' (by rw [Array.toList_map]; exact hv f')
    have he : (execOp (fillW T f' a).eval { dst := d, op := .call { callee := .value (.func f), args := xs, argTypes := ts }, type := t, pos := ps, after := af, guard := g }).run P w = .ok (.enter f (vals (f' y))) w := by
      simp only [execOp, resolve, hv']
      simp [Act.eval, Deferred.ofValue, invoke, hcf]
    unfold gives
    rw [he]
    exact (hc ⟨w, hS⟩ (f' y) (known_at hN j hj hwt)).mono fun e w'' ⟨he, hs, hr⟩ => ⟨v, he, rfl, hs, hr⟩) hg hw w0 h
/-- a whole struct is loaded from a block that all worlds of the class have -/
theorem flowu_load {d : Option Tmp} {E : TypeId} {x : Operand} {t : TypeId} {ps : String} {af : Array Edge} {g : Option (Nat × Bool)} (b : Nat) (cs : Array Value) (hb : ∀ y : Cls S, Blk y.w b E cs) (hu : (P.underlying E).map TypeDesc.isRow = some true) (hi : (P.info? E).map (·.size) = some cs.size)
    (hx : a.eval x = .pointer (some ⟨b, 0, none⟩)) (hRr : ∀ i w, R i w w)
    (hp : plainW ops T { dst := d, op := .load E x, type := t, pos := ps, after := af, guard := g } = true)
    (hg : guardW ops T { dst := d, op := .load E x, type := t, pos := ps, after := af, guard := g } = true) (hw : Region.wanted { dst := d, op := .load E x, type := t, pos := ps, after := af, guard := g } (yielded ops a.tmps) = true) (w0 : World)
    (h : ∀ K : Act → Prop, (∀ a, wpU P ops S R U End (k + 1) rest T N a → K a) → Oper.quiet P { dst := d, op := .assign (.const (.agg cs)), type := t, pos := "", after := #[], guard := none } a (fun _ => True) K) :
    wpU P ops S R U End k ({ dst := d, op := .load E x, type := t, pos := ps, after := af, guard := g } :: rest) T N a :=
  flowu_val (.agg cs) (fun w f hS hN hut => gives_congr (exec_plain (fun _ _ e => by cases e) hp f) (by
    unfold gives
    simp only [execOp, Sem.run_bind]
    rw [hx, run_load_blk (hb ⟨w, hS⟩) hu hi]
    exact ⟨rfl, hS, hRr _ _⟩)) hg hw w0 h

/-! x, e := f(..) -/
variable {ρ : Type} (ag : ρ → Array Value) (ok : ρ → Value) (Q : ρ → World → Prop)
def tupR (r : ρ) : Value := .tuple #[.agg (ag r), ok r]
def tupQ (l : List Value) (W : World) : Prop := ∃ r, l = [tupR ag ok r] ∧ Q r W
def tupM (l : List Value) (_ : World) : Prop := ∃ r, l = [tupR ag ok r, tupR ag ok r]
def tupA (l : List Value) (_ : World) : Prop := ∃ r, l = [.agg (ag r), tupR ag ok r]
def tupO (l : List Value) (_ : World) : Prop := ∃ r, l = [ok r, tupR ag ok r]
def tupE (l : List Value) (_ : World) : Prop := ∃ r, l = [ok r, ok r]
/-- a variable that was laid: some cells in it -/
def varAny (B : Nat) (E : TypeId) (n : Nat) (l : List Value) (W : World) : Prop := ∃ g, l = [.pointer (some ⟨g, 0, none⟩)] ∧ B ≤ g ∧ ∃ cs, cs.size = n ∧ Blk W g E cs
def varIn (B : Nat) (E : TypeId) (l : List Value) (W : World) : Prop := ∃ r g, l = [.pointer (some ⟨g, 0, none⟩), .agg (ag r)] ∧ B ≤ g ∧ Blk W g E (ag r)
/-- a new block of type E turns, and nothing else -/
def TurnsNew (B : Nat) (E : TypeId) (n : Nat) (w w' : World) : Prop := ∃ g cs cs', B ≤ g ∧ cs.size = n ∧ cs'.size = n ∧ Blk w g E cs ∧ Blk w' g E cs' ∧ w.grownBy w' (some g)
/-- operation kc may write to the row, operation ks to a new block of type E, the others lay new blocks alone -/
def RVar (kc ks : Nat) (row : Option Nat) (B : Nat) (E : TypeId) (n : Nat) (i : Nat) (w w' : World) : Prop := Below w.heap.size w w' ∨ (i = kc ∧ w.grownBy w' row) ∨ (i = ks ∧ TurnsNew B E n w w')
theorem RVar.refl {kc ks : Nat} {row : Option Nat} {B : Nat} {E : TypeId} {n : Nat} (i : Nat) (w : World) : RVar kc ks row B E n i w w := .inl (Below.refl _ _)
theorem RVar.of_below {kc ks : Nat} {row : Option Nat} {B : Nat} {E : TypeId} {n i : Nat} {w w' : World} (h : Below w.heap.size w w') : RVar kc ks row B E n i w w' := .inl h
theorem varAny.stays {kc ks : Nat} {row : Option Nat} {B : Nat} {E : TypeId} {n : Nat} (hrow : ∀ q, row = some q → q < B) (l : List Value) (i : Nat) (w w' : World) (hr : RVar kc ks row B E n i w w') (h : varAny B E n l w) : varAny B E n l w' := by
  obtain ⟨g, h1, h2, cs, h3, h4⟩ := h
  rcases hr with hr | ⟨_, hr⟩ | ⟨_, g', cs1, cs2, q1, q2, q3, q4, q5, q6⟩
  · exact ⟨g, h1, h2, cs, h3, h4.below hr h4.lt⟩
  · exact ⟨g, h1, h2, cs, h3, h4.grown hr (fun e => by have := hrow g e.symm; omega)⟩
  · by_cases e : g = g'
    · subst e; exact ⟨g, h1, h2, cs2, q3, q5⟩
    · exact ⟨g, h1, h2, cs, h3, h4.grown q6 (fun e' => e (Option.some.inj e'))⟩
theorem varIn.stays {kc ks : Nat} {row : Option Nat} {B : Nat} {E : TypeId} {n : Nat} (hrow : ∀ q, row = some q → q < B) (l : List Value) (i : Nat) (w w' : World) (hi : i ≠ ks) (hr : RVar kc ks row B E n i w w') (h : varIn ag B E l w) : varIn ag B E l w' := by
  obtain ⟨r, g, h1, h2, h4⟩ := h
  rcases hr with hr | ⟨_, hr⟩ | ⟨e, _⟩
  · exact ⟨r, g, h1, h2, h4.below hr h4.lt⟩
  · exact ⟨r, g, h1, h2, h4.grown hr (fun e => by have := hrow g e.symm; omega)⟩
  · exact absurd e hi
/-- a row that is owned stays so -/
theorem own_var {kc ks : Nat} {row : Option Nat} {B : Nat} {E : TypeId} {n : Nat} {i : Nat} {w w' : World} {base size m : Nat} {e : TypeId} {v : Value} {xs : List Value} (hi : i ≠ kc) (hE : e ≠ E) (hr : RVar kc ks row B E n i w w') (h : w.ownsRow base e size v m xs) : w'.ownsRow base e size v m xs := by
  rcases hr with hr | ⟨e, _⟩ | ⟨_, g', cs1, cs2, q1, q2, q3, q4, q5, q6⟩
  · exact h.kept (only_of_below hr none) (by cases v.ownBlock <;> simp)
  · exact absurd e hi
  · exact h.kept q6 (.inr (own_blk_ne h q4 hE))
theorem flowt_end {v1 v2 v3 v4 v5 v6 : Value} {W : World} {B : Nat} {E : TypeId} (h28 : tupQ ag ok Q [v1] W) (h29 : tupM ag ok [v2, v1] W) (h30 : tupA ag ok [v3, v2] W) (h31 : tupO ag ok [v4, v2] W) (h33 : varIn ag B E [v5, v3] W) (h34 : tupE ok [v6, v4] W) :
    ∃ r g, Q r W ∧ v1 = tupR ag ok r ∧ v2 = tupR ag ok r ∧ v3 = .agg (ag r) ∧ v4 = ok r ∧ v5 = .pointer (some ⟨g, 0, none⟩) ∧ v6 = ok r ∧ B ≤ g ∧ Blk W g E (ag r) := by
  obtain ⟨r, e1, hQ⟩ := h28
  injection e1 with e1
  obtain ⟨r2, e2⟩ := h29
  injection e2 with e2 e2'
  injection e2' with e2'
  obtain ⟨r3, e3⟩ := h30
  injection e3 with e3 e3'
  injection e3' with e3'
  obtain ⟨r4, e4⟩ := h31
  injection e4 with e4 e4'
  injection e4' with e4'
  obtain ⟨r5, g, e5, hB, hk⟩ := h33
  injection e5 with e5 e5'
  injection e5' with e5'
  obtain ⟨r6, e6⟩ := h34
  injection e6 with e6 e6'
  injection e6' with e6'
  have t2 : v2 = tupR ag ok r := by rw [e2, ← e2', e1]
  have inj : ∀ r r', tupR ag ok r = tupR ag ok r' → ag r = ag r' ∧ ok r = ok r' := by
    intro r r' h
    unfold tupR at h
    injection h with h
    injection h with h
    injection h with h1 h2
    injection h1 with h1
    injection h2 with h2
    exact ⟨h1, h2⟩
  obtain ⟨a3, _⟩ := inj r r3 (by rw [← t2, e3'])
  obtain ⟨_, a4⟩ := inj r r4 (by rw [← t2, e4'])
  have a5 : ag r5 = ag r := by rw [e3] at e5'; injection e5' with e5'; rw [← e5', a3]
  exact ⟨r, g, hQ, e1, t2, by rw [e3, a3], by rw [e4, a4], e5, by rw [e6, ← e6', e4, a4], hB, by rw [← a5]; exact hk⟩
variable {kc ks : Nat} {row : Option Nat} {B : Nat} {E : TypeId} {n : Nat}
theorem flowt_call {d : Tmp} {f : FuncId} {xs : Array Operand} {ts : Array TypeId} {t : TypeId} {ps : String} {af : Array Edge} {g : Option (Nat × Bool)} (hk : k = kc) (hQ : ∀ r i w w', i ≠ kc → RVar kc ks row B E n i w w' → Q r w → Q r w')
    (hcf : ∀ (vals : Array Value) (w : World), (callFunc f vals).run P w = .ok (.enter f vals) w) (vals : Array Value) (hv : xs.map a.eval = vals)
    (hp : plainW ops T { dst := some d, op := .call { callee := .value (.func f), args := xs, argTypes := ts }, type := t, pos := ps, after := af, guard := g } = true)
    (hc : ∀ w, S w → untilU U k w → Calls P f vals w fun e w'' => ∃ r, e = .returned (tupR ag ok r) ∧ Q r w'' ∧ S w'' ∧ RVar kc ks row B E n k w w'')
    (hg : guardW ops T { dst := some d, op := .call { callee := .value (.func f), args := xs, argTypes := ts }, type := t, pos := ps, after := af, guard := g } = true)
    (hw : Region.wanted { dst := some d, op := .call { callee := .value (.func f), args := xs, argTypes := ts }, type := t, pos := ps, after := af, guard := g } (yielded ops a.tmps) = true) (w0 : World)
    (h : ∀ K : Act → Prop, (∀ a, wpU P ops S (RVar kc ks row B E n) U End (k + 1) rest (d :: T) (⟨k, [d], tupQ ag ok Q⟩ :: N) a → K a) → Oper.quiet P { dst := some d, op := .assign (.const undef), type := t, pos := "", after := #[], guard := none } a (fun _ => True) K) :
    wpU P ops S (RVar kc ks row B E n) U End k ({ dst := some d, op := .call { callee := .value (.func f), args := xs, argTypes := ts }, type := t, pos := ps, after := af, guard := g } :: rest) T N a :=
  flowu_rel [] (tupQ ag ok Q) (fun l i w w' hi hr ⟨r, h1, h2⟩ => ⟨r, h1, hQ r i w w' (hk ▸ hi) hr h2⟩) rfl rfl (fun w f' hS hN hut => gives_congr (exec_plain (fun _ _ e => by cases e) hp f') (by
    have he : (execOp a.eval { dst := some d, op := .call { callee := .value (.func f), args := xs, argTypes := ts }, type := t, pos := ps, after := af, guard := g }).run P w = .ok (.enter f vals) w := by
      simp [execOp, resolve, Act.eval, Deferred.ofValue, invoke, hcf, ← hv]
    unfold gives
    rw [he]
    exact (hc w hS hut).mono fun e w'' ⟨r, h1, h2, h3, h4⟩ => ⟨_, h1, ⟨r, rfl, h2⟩, h3, h4⟩)) hg hw w0 h
theorem flowt_move {d y : Tmp} {op : Op} {t : TypeId} {ps : String} {af : Array Edge} {g : Option (Nat × Bool)} (hop : ∀ (ρ : Operand → Value), execOp ρ { dst := some d, op := op, type := t, pos := ps, after := af, guard := g } = pure (.value (ρ (.tmp y)))) (j : Nat) {i : Nat} (hj : N[j]? = some ⟨i, [y], tupQ ag ok Q⟩) (hwt : waitsB { dst := some d, op := op, type := t, pos := ps, after := af, guard := g } i = true)
    (hyT : T.contains y = true) (hy : y < a.tmps.size) (hRr : ∀ i w, R i w w)
    (hys : (([y] : List Tmp).all fun y => T.contains y && (Oper.looksAt ops { dst := some d, op := op, type := t, pos := ps, after := af, guard := g }).contains y) = true) (hd : ([y] : List Tmp).contains d = false)
    (hg : guardW ops T { dst := some d, op := op, type := t, pos := ps, after := af, guard := g } = true) (hw : Region.wanted { dst := some d, op := op, type := t, pos := ps, after := af, guard := g } (yielded ops a.tmps) = true) (w0 : World)
    (h : ∀ K : Act → Prop, (∀ a, wpU P ops S R U End (k + 1) rest (d :: T) (⟨k, [d, y], tupM ag ok⟩ :: N) a → K a) → Oper.quiet P { dst := some d, op := .assign (.const undef), type := t, pos := "", after := #[], guard := none } a (fun _ => True) K) :
    wpU P ops S R U End k ({ dst := some d, op := op, type := t, pos := ps, after := af, guard := g } :: rest) T N a :=
  flowu_rel [y] (tupM ag ok) (fun _ _ _ _ _ _ h => h) hys hd (fun w f hS hN hut => by
    obtain ⟨r, h1, h2⟩ := known_at hN j hj hwt
    injection h1 with h1
    unfold gives
    rw [hop]
    simp only [Sem.run_pure]
    rw [fill_eval (by simpa using hyT) hy]
    exact ⟨⟨r, by simp [h1]⟩, hS, hRr _ _⟩) hg hw w0 h
theorem flowt_first {d y z : Tmp} {t : TypeId} {ps : String} {af : Array Edge} {g : Option (Nat × Bool)} (j : Nat) {i : Nat} (hj : N[j]? = some ⟨i, [y, z], tupM ag ok⟩) (hwt : waitsB { dst := some d, op := .extract (.tmp y) 0, type := t, pos := ps, after := af, guard := g } i = true)
    (hyT : T.contains y = true) (hy : y < a.tmps.size) (hRr : ∀ i w, R i w w)
    (hys : (([y] : List Tmp).all fun y => T.contains y && (Oper.looksAt ops { dst := some d, op := .extract (.tmp y) 0, type := t, pos := ps, after := af, guard := g }).contains y) = true) (hd : ([y] : List Tmp).contains d = false)
    (hg : guardW ops T { dst := some d, op := .extract (.tmp y) 0, type := t, pos := ps, after := af, guard := g } = true) (hw : Region.wanted { dst := some d, op := .extract (.tmp y) 0, type := t, pos := ps, after := af, guard := g } (yielded ops a.tmps) = true) (w0 : World)
    (h : ∀ K : Act → Prop, (∀ a, wpU P ops S R U End (k + 1) rest (d :: T) (⟨k, [d, y], tupA ag ok⟩ :: N) a → K a) → Oper.quiet P { dst := some d, op := .assign (.const undef), type := t, pos := "", after := #[], guard := none } a (fun _ => True) K) :
    wpU P ops S R U End k ({ dst := some d, op := .extract (.tmp y) 0, type := t, pos := ps, after := af, guard := g } :: rest) T N a :=
  flowu_rel [y] (tupA ag ok) (fun _ _ _ _ _ _ h => h) hys hd (fun w f hS hN hut => by
    obtain ⟨r, h1⟩ := known_at2 hN j hj hwt
    injection h1 with h1 _
    unfold gives
    simp only [execOp, Sem.run_bind]
    rw [fill_eval (by simpa using hyT) hy, h1, show (Instr.extract (tupR ag ok r) 0).run P w = .ok (.agg (ag r)) w from rfl]
    exact ⟨⟨r, by simp [h1]⟩, hS, hRr _ _⟩) hg hw w0 h
theorem flowt_second {d y z : Tmp} {t : TypeId} {ps : String} {af : Array Edge} {g : Option (Nat × Bool)} (j : Nat) {i : Nat} (hj : N[j]? = some ⟨i, [y, z], tupM ag ok⟩) (hwt : waitsB { dst := some d, op := .extract (.tmp y) 1, type := t, pos := ps, after := af, guard := g } i = true)
    (hyT : T.contains y = true) (hy : y < a.tmps.size) (hRr : ∀ i w, R i w w)
    (hys : (([y] : List Tmp).all fun y => T.contains y && (Oper.looksAt ops { dst := some d, op := .extract (.tmp y) 1, type := t, pos := ps, after := af, guard := g }).contains y) = true) (hd : ([y] : List Tmp).contains d = false)
    (hg : guardW ops T { dst := some d, op := .extract (.tmp y) 1, type := t, pos := ps, after := af, guard := g } = true) (hw : Region.wanted { dst := some d, op := .extract (.tmp y) 1, type := t, pos := ps, after := af, guard := g } (yielded ops a.tmps) = true) (w0 : World)
    (h : ∀ K : Act → Prop, (∀ a, wpU P ops S R U End (k + 1) rest (d :: T) (⟨k, [d, y], tupO ag ok⟩ :: N) a → K a) → Oper.quiet P { dst := some d, op := .assign (.const undef), type := t, pos := "", after := #[], guard := none } a (fun _ => True) K) :
    wpU P ops S R U End k ({ dst := some d, op := .extract (.tmp y) 1, type := t, pos := ps, after := af, guard := g } :: rest) T N a :=
  flowu_rel [y] (tupO ag ok) (fun _ _ _ _ _ _ h => h) hys hd (fun w f hS hN hut => by
    obtain ⟨r, h1⟩ := known_at2 hN j hj hwt
    injection h1 with h1 _
    unfold gives
    simp only [execOp, Sem.run_bind]
    rw [fill_eval (by simpa using hyT) hy, h1, show (Instr.extract (tupR ag ok r) 1).run P w = .ok (ok r) w from rfl]
    exact ⟨⟨r, by simp [h1]⟩, hS, hRr _ _⟩) hg hw w0 h
/-- e is written -/
theorem flowt_assign {d y z : Tmp} {op : Op} {t : TypeId} {ps : String} {af : Array Edge} {g : Option (Nat × Bool)} (hop : ∀ (ρ : Operand → Value), execOp ρ { dst := some d, op := op, type := t, pos := ps, after := af, guard := g } = pure (.value (ρ (.tmp y)))) (j : Nat) {i : Nat} (hj : N[j]? = some ⟨i, [y, z], tupO ag ok⟩) (hwt : waitsB { dst := some d, op := op, type := t, pos := ps, after := af, guard := g } i = true)
    (hyT : T.contains y = true) (hy : y < a.tmps.size) (hRr : ∀ i w, R i w w)
    (hys : (([y] : List Tmp).all fun y => T.contains y && (Oper.looksAt ops { dst := some d, op := op, type := t, pos := ps, after := af, guard := g }).contains y) = true) (hd : ([y] : List Tmp).contains d = false)
    (hg : guardW ops T { dst := some d, op := op, type := t, pos := ps, after := af, guard := g } = true) (hw : Region.wanted { dst := some d, op := op, type := t, pos := ps, after := af, guard := g } (yielded ops a.tmps) = true) (w0 : World)
    (h : ∀ K : Act → Prop, (∀ a, wpU P ops S R U End (k + 1) rest (d :: T) (⟨k, [d, y], tupE ok⟩ :: N) a → K a) → Oper.quiet P { dst := some d, op := .assign (.const undef), type := t, pos := "", after := #[], guard := none } a (fun _ => True) K) :
    wpU P ops S R U End k ({ dst := some d, op := op, type := t, pos := ps, after := af, guard := g } :: rest) T N a :=
  flowu_rel [y] (tupE ok) (fun _ _ _ _ _ _ h => h) hys hd (fun w f hS hN hut => by
    obtain ⟨r, h1⟩ := known_at2 hN j hj hwt
    injection h1 with h1 _
    unfold gives
    rw [hop]
    simp only [Sem.run_pure]
    rw [fill_eval (by simpa using hyT) hy]
    exact ⟨⟨r, by simp [h1]⟩, hS, hRr _ _⟩) hg hw w0 h
/-- x is laid -/
theorem flowt_alloc (z : Array Value) {d : Nat} {t : TypeId} {ps : String} {af : Array Edge} {g : Option (Nat × Bool)}
    (hrun : ∀ w : World, (Instr.alloc E true (.tuple #[])).run P w = .ok (.pointer (some ⟨w.heap.size, 0, none⟩)) (w.alloc (.cells z E))) (hz : z.size = n)
    (hrow : ∀ q, row = some q → q < B) (hS : ∀ w w', S w → Below w.heap.size w w' → S w') (hB : ∀ w, S w → B ≤ w.heap.size)
    (hg : guardW ops T { dst := some d, op := .alloc E, type := t, pos := ps, after := af, guard := g } = true)
    (hw : Region.wanted { dst := some d, op := .alloc E, type := t, pos := ps, after := af, guard := g } (yielded ops a.tmps) = true) (w0 : World)
    (h : ∀ K : Act → Prop, (∀ a, wpU P ops S (RVar kc ks row B E n) U End (k + 1) rest (d :: T) (⟨k, [d], varAny B E n⟩ :: N) a → K a) → Oper.quiet P { dst := some d, op := .assign (.const undef), type := t, pos := "", after := #[], guard := none } a (fun _ => True) K) :
    wpU P ops S (RVar kc ks row B E n) U End k ({ dst := some d, op := .alloc E, type := t, pos := ps, after := af, guard := g } :: rest) T N a :=
  flowu_fact (varAny B E n) (varAny.stays hrow) (fun w f hs hN hut => by
    have hb : Below w.heap.size w (w.alloc (.cells z E)) := (Below.refl _ _).alloc (Nat.le_refl _) _
    unfold gives
    simp only [execOp, Sem.run_bind]
    rw [hrun]
    exact ⟨⟨_, rfl, hB w hs, z, hz, Blk.new _ _ _⟩, hS _ _ hs hb, .inl hb⟩) hg hw w0 h
/-- x is written -/
theorem flowt_store {y x z : Tmp} {t : TypeId} {ps : String} {af : Array Edge} {g : Option (Nat × Bool)} (hk : k = ks) (j j' : Nat) {i i' : Nat}
    (hj : N[j]? = some ⟨i, [y], varAny B E n⟩) (hwt : waitsB { dst := none, op := .store E (.tmp y) (.tmp x), type := t, pos := ps, after := af, guard := g } i = true) (hyT : T.contains y = true) (hy : y < a.tmps.size)
    (hj' : N[j']? = some ⟨i', [x, z], tupA ag ok⟩) (hwt' : waitsB { dst := none, op := .store E (.tmp y) (.tmp x), type := t, pos := ps, after := af, guard := g } i' = true) (hxT : T.contains x = true) (hx : x < a.tmps.size)
    (hys : (([y, x] : List Tmp).all fun y' => T.contains y' && (Oper.looksAt ops { dst := none, op := .store E (.tmp y) (.tmp x), type := t, pos := ps, after := af, guard := g }).contains y') = true)
    (hrow : ∀ q, row = some q → q < B) (hsz : ∀ w : World, (sizeOf E).run P w = .ok n w) (hn : ∀ r, (ag r).size = n) (h1 : ∀ r, ∀ v ∈ (ag r).toList, v.oneCell' = true) (hput : ∀ r (cs : Array Value), cs.size = n → putFrom cs 0 (ag r).toList = ag r)
    (hS : ∀ w w' b, S w → B ≤ b → b < w.heap.size → w.grownBy w' (some b) → S w')
    (hg : guardW ops T { dst := none, op := .store E (.tmp y) (.tmp x), type := t, pos := ps, after := af, guard := g } = true) (hw : Region.wanted { dst := none, op := .store E (.tmp y) (.tmp x), type := t, pos := ps, after := af, guard := g } (yielded ops a.tmps) = true)
    (h : wpU P ops S (RVar kc ks row B E n) U End (k + 1) rest T (⟨k, [y, x], varIn ag B E⟩ :: N) a) :
    wpU P ops S (RVar kc ks row B E n) U End k ({ dst := none, op := .store E (.tmp y) (.tmp x), type := t, pos := ps, after := af, guard := g } :: rest) T N a := by
  refine ⟨hg, ?_⟩
  rw [if_pos hw]
  refine .inr ⟨[([y, x], varIn ag B E)], fun d hd => ?_, fun w f hs hN hut => ?_, h⟩
  · obtain rfl : d = ([y, x], varIn ag B E) := by simpa using hd
    refine ⟨fun t' ht => ?_, fun l i w w' hi hr h => varIn.stays ag hrow l i w w' (hk ▸ hi) hr h⟩
    have := List.all_eq_true.1 hys t' ht
    rw [Bool.and_eq_true] at this
    exact .inr ⟨by simpa using this.1, by simpa using this.2⟩
  · obtain ⟨b, hb, hB, cs, hcs, hbk⟩ := known_at hN j hj hwt
    injection hb with hb
    obtain ⟨r, hr⟩ := known_at2 hN j' hj' hwt'
    injection hr with hr _
    obtain ⟨W', q1, q2, q3, q4, q5, q6, q7⟩ := run_storeCells (P := P) b E (ag r).toList 0 w cs hbk (by simp [hcs, hn]) (h1 r)
    rw [hput r cs hcs] at q2
    have hgr : w.grownBy W' (some b) := ⟨q5, q6, q7, by omega, fun i hi hne => q3 i (fun e => hne (by rw [e]))⟩
    have hsv : (storeVar E ⟨b, 0, none⟩ (.agg (ag r))).run P w = .ok () W' := by
      unfold storeVar
      simp only [Sem.run_bind, hsz, Result.andThen_ok, Value.cells, hn]
      simp only [ne_eq, not_true_eq_false, if_false]
      exact q1
    have hst : (Instr.storeAt E (.pointer (some ⟨b, 0, none⟩)) (.agg (ag r))).run P w = .ok () W' := by
      unfold Instr.storeAt
      simp only [Sem.run_bind]
      rw [show (Instr.sureAddr (.pointer (some ⟨b, 0, none⟩))).run P w = .ok ⟨b, 0, none⟩ w from rfl]
      exact hsv
    unfold gives
    simp only [execOp, Sem.run_bind]
    rw [fill_eval (by simpa using hyT) hy, fill_eval (by simpa using hxT) hx, hb, hr, hst]
    refine ⟨fun d hd => ?_, hS _ _ b hs hB hbk.lt hgr, .inr (.inr ⟨hk, b, cs, ag r, hB, hcs, hn r, hbk, q2, hgr⟩)⟩
    obtain rfl : d = ([y, x], varIn ag B E) := by simpa using hd
    exact ⟨r, b, by simp [updW, hb, hr], hB, q2⟩
end
end Go.Proofs.Ytimepplfaaddeaa
