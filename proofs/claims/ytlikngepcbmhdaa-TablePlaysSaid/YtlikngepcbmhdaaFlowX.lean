/- A region that draws its order, one walk with facts: a slice is built and appended to a row of the call's own. -/
import Derived.Test.YtlikngepcbmhdaaFlowUA
import Derived.Test.YtlikngepcbmhdaaWords
set_option linter.unusedVariables false
set_option linter.unusedSimpArgs false
set_option linter.unusedSectionVars false
namespace Go.Proofs.Ytlikngepcbmhdaa
open Go.RowKit

/-- operation ka writes into the block row (and makes new blocks), the others make new blocks -/
def RApp (ka : Nat) (row : Option Nat) (i : Nat) (w w' : World) : Prop := if i = ka then w.grownBy w' row else Below w.heap.size w w'
theorem RApp.of_below {ka : Nat} {row : Option Nat} {i : Nat} {w w' : World} (h : Below w.heap.size w w') : RApp ka row i w w' := by
  unfold RApp
  split
  · exact only_of_below h row
  · exact h
theorem RApp.refl {ka : Nat} {row : Option Nat} (i : Nat) (w : World) : RApp ka row i w w := RApp.of_below (Below.refl _ _)
theorem RApp.below {ka : Nat} {row : Option Nat} {i : Nat} {w w' : World} (h : RApp ka row i w w') (hi : i ≠ ka) : Below w.heap.size w w' := by
  unfold RApp at h
  rwa [if_neg hi] at h
theorem RApp.grown {ka : Nat} {row : Option Nat} {i : Nat} {w w' : World} (h : RApp ka row i w w') : w.grownBy w' row := by
  unfold RApp at h
  split at h
  · exact h
  · exact only_of_below h row
/-- what is known of a row that was just built -/
def rowAt (B : Nat) (E : TypeId) (cs : Array Value) (n : Nat) (l : List Value) (W : World) : Prop := ∃ g, l = [.slice (some ⟨g, 0, none⟩) n n] ∧ B ≤ g ∧ Blk W g E cs
theorem rowAt.stays {B : Nat} {E : TypeId} {cs : Array Value} {n ka : Nat} {row : Option Nat} (hrow : ∀ k, row = some k → k < B) (l : List Value) (i : Nat) (w w' : World) (hr : RApp ka row i w w') (h : rowAt B E cs n l w) : rowAt B E cs n l w' := by
  obtain ⟨g, h1, h2, h3⟩ := h
  exact ⟨g, h1, h2, h3.grown hr.grown (fun e => by have := hrow g e.symm; omega)⟩
/-- .. and of the row behind the append -/
def rowNow (B base : Nat) (E : TypeId) (size n : Nat) (xs : List Value) (row : Option Nat) (l : List Value) (W : World) : Prop :=
  ∃ v, l = [v] ∧ W.ownsRow base E size v n xs ∧ (v.ownBlock = row ∨ ∃ g, B ≤ g ∧ v.ownBlock = some g)
theorem rowNow.stays {B base : Nat} {E : TypeId} {size n : Nat} {xs : List Value} {row : Option Nat} {ka : Nat} (l : List Value) (i : Nat) (w w' : World) (hi : i ≠ ka) (hr : RApp ka row i w w') (h : rowNow B base E size n xs row l w) : rowNow B base E size n xs row l w' := by
  obtain ⟨v, h1, h2, h3⟩ := h
  refine ⟨v, h1, h2.kept (only_of_below (hr.below hi) none) ?_, h3⟩
  cases v.ownBlock <;> simp

section
variable {P : Program} {ops : Array Oper} {S : World → Prop} {U : List (Nat × (World → Prop))} {End : List Tmp → List Fc → Act → Prop} {rest : List Oper} {k : Nat} {T : List Tmp} {N : List Fc} {a : Act} {o : Oper} {ka : Nat} {row : Option Nat}
theorem flowx_build (B : Nat) {E : TypeId} {d A : Nat} {n : Nat} {parts : Array (Nat × Operand)} {t : TypeId} {ps : String} {af : Array Edge} {g : Option (Nat × Bool)} (vals : Array (Nat × Value)) (hv : (parts.map fun (i, x) => (i, a.eval x)) = vals) (cs : Array Value)
    (hrun : ∀ w : World, (Instr.buildSlice A n vals).run P w = .ok (.slice (some ⟨w.heap.size, 0, none⟩) n n) (w.alloc (.cells cs E)))
    (hS : ∀ w w', S w → Below w.heap.size w w' → S w') (hB : ∀ w, S w → B ≤ w.heap.size) (hrow : ∀ k, row = some k → k < B)
    (hp : plainW ops T { dst := some d, op := .buildSlice A n parts, type := t, pos := ps, after := af, guard := g } = true)
    (hg : guardW ops T { dst := some d, op := .buildSlice A n parts, type := t, pos := ps, after := af, guard := g } = true)
    (hw : Region.wanted { dst := some d, op := .buildSlice A n parts, type := t, pos := ps, after := af, guard := g } (yielded ops a.tmps) = true) (w0 : World)
    (h : ∀ K : Act → Prop, (∀ a, wpU P ops S (RApp ka row) U End (k + 1) rest (d :: T) (⟨k, [d], rowAt B E cs n⟩ :: N) a → K a) → Oper.quiet P { dst := some d, op := .assign (.const undef), type := t, pos := "", after := #[], guard := none } a (fun _ => True) K) :
    wpU P ops S (RApp ka row) U End k ({ dst := some d, op := .buildSlice A n parts, type := t, pos := ps, after := af, guard := g } :: rest) T N a :=
  flowu_fact (rowAt B E cs n) (rowAt.stays hrow) (fun w f hs hN hut => gives_congr (exec_plain (fun _ _ e => by cases e) hp f) (by
    have hb : Below w.heap.size w (w.alloc (.cells cs E)) := (Below.refl _ _).alloc (Nat.le_refl _) _
    unfold gives
    simp only [execOp, Sem.run_bind]
    rw [hv, hrun]
    exact ⟨⟨_, rfl, hB w hs, Blk.new _ _ _⟩, hS _ _ hs hb, RApp.of_below hb⟩)) hg hw w0 h
/-- the append of a row that a fact tells, to one that is owned until then -/
theorem flowx_append {d : Nat} {s : Operand} {y : Tmp} {t ty : TypeId} {ps : String} {af : Array Edge} {g : Option (Nat × Bool)} (B base : Nat) {E : TypeId} (i : TypeInfo) (z : Value) (size bytes : Nat) (ht : P.underlying t = some (.slice E)) (hi : P.info? E = some i) (hz : i.zero = some z)
    (hsize : i.size = size) (hby : i.bytes = bytes) (hzs : z.cells.size = size) (hsz : 0 < size) (v : Value) (n : Nat) (xs : List Value) (m : Nat) (cs : Array Value) (j : Nat) {iy : Nat}
    (hj : N[j]? = some ⟨iy, [y], rowAt B E cs m⟩) (hwt : waitsB { dst := some d, op := .call { callee := .builtin .append, args := #[s, .tmp y], argTypes := #[t, t] }, type := ty, pos := ps, after := af, guard := g } iy = true)
    (hyT : T.contains y = true) (hy : y < a.tmps.size) (hs : ∀ f, (fillW T f a).eval s = v) (hrow : v.ownBlock = row) (hk : k = ka)
    (hU : ∀ w, S w → untilU U k w → w.ownsRow base E size v n xs) (hcs : cs.size = m * size) (h1 : ∀ u ∈ cs.toList, u.oneCell' = true)
    (h63 : n + m ≤ maxLen) (hbytes : (n + m) * bytes ≤ 140737488355328) (hbase : ∀ w, S w → base ≤ w.heap.size) (hB : ∀ w, S w → B ≤ w.heap.size) (hS : ∀ w w', S w → w.grownBy w' row → S w')
    (hg : guardW ops T { dst := some d, op := .call { callee := .builtin .append, args := #[s, .tmp y], argTypes := #[t, t] }, type := ty, pos := ps, after := af, guard := g } = true)
    (hw : Region.wanted { dst := some d, op := .call { callee := .builtin .append, args := #[s, .tmp y], argTypes := #[t, t] }, type := ty, pos := ps, after := af, guard := g } (yielded ops a.tmps) = true) (w0 : World)
    (h : ∀ K : Act → Prop, (∀ a, wpU P ops S (RApp ka row) U End (k + 1) rest (d :: T) (⟨k, [d], rowNow B base E size (n + m) (xs ++ cs.toList) row⟩ :: N) a → K a) → Oper.quiet P { dst := some d, op := .assign (.const undef), type := ty, pos := "", after := #[], guard := none } a (fun _ => True) K) :
    wpU P ops S (RApp ka row) U End k ({ dst := some d, op := .call { callee := .builtin .append, args := #[s, .tmp y], argTypes := #[t, t] }, type := ty, pos := ps, after := af, guard := g } :: rest) T N a :=
  flowu_fact0 (rowNow B base E size (n + m) (xs ++ cs.toList) row) (fun l i w w' hi => rowNow.stays l i w w' (hk ▸ hi)) (fun w f hs1 hN hut => by
    obtain ⟨q, hq, hBq, hcq⟩ := known_at hN j hj hwt
    injection hq with hq
    have hrd : Reads w w.heap.size size (some ⟨q, 0, none⟩) m cs.toList := by
      refine ⟨by simpa using hcs, fun _ => ⟨_, rfl, hcq.lt, fun j u hu => ?_⟩⟩
      have : (⟨q, 0, none⟩ : Addr).add j = ⟨q, j, none⟩ := by unfold Addr.add; split <;> simp_all
      rw [this, hcq.cell j, ← hu]
      simp
    obtain ⟨v', w', hrun, r1, r2, r3⟩ := run_append_any (P := P) w base t ty E i z size bytes ht hi hz hsize hby hzs hsz v n xs (hU w hs1 hut) w.heap.size (some ⟨q, 0, none⟩) m m cs.toList hrd h1 h63 hbytes (hbase w hs1)
    unfold gives
    simp only [execOp, resolve, invoke, builtin, Sem.run_bind, Sem.run_pure, Result.andThen_ok, List.map_toArray, List.map_cons, List.map_nil, hs, fill_eval (by simpa using hyT) hy, hq, hrun]
    rw [hrow] at r2 r3
    refine ⟨⟨v', rfl, r1, ?_⟩, hS _ _ hs1 r2, ?_⟩
    · rcases r3 with e | e
      · exact .inl e
      · exact .inr ⟨_, hB w hs1, e⟩
    · unfold RApp
      rw [if_pos hk]
      exact r2) hg hw w0 h
end
/-- operation kc writes into blocks below B alone (and makes new ones), the others make new blocks -/
def RLow (kc B : Nat) (i : Nat) (w w' : World) : Prop := Below w.heap.size w w' ∨ (i = kc ∧ w.heap.size ≤ w'.heap.size ∧ ∀ g, B ≤ g → g < w.heap.size → w'.heap[g]? = w.heap[g]?)
theorem RLow.of_below {kc B i : Nat} {w w' : World} (h : Below w.heap.size w w') : RLow kc B i w w' := .inl h
theorem RLow.refl {kc B : Nat} (i : Nat) (w : World) : RLow kc B i w w := .inl (Below.refl _ _)
theorem rowAt.low {kc B : Nat} {E : TypeId} {cs : Array Value} {n : Nat} (l : List Value) (i : Nat) (w w' : World) (hr : RLow kc B i w w') (h : rowAt B E cs n l w) : rowAt B E cs n l w' := by
  obtain ⟨g, h1, h2, h3⟩ := h
  refine ⟨g, h1, h2, ?_⟩
  rcases hr with hr | ⟨_, _, hr⟩
  · exact h3.below hr h3.lt
  · exact (hr g h2 h3.lt).trans h3
section
variable {P : Program} {ops : Array Oper} {S : World → Prop} {R : Nat → World → World → Prop} {U : List (Nat × (World → Prop))} {End : List Tmp → List Fc → Act → Prop} {rest : List Oper} {k : Nat} {T : List Tmp} {N : List Fc} {a : Act} {o : Oper}
/-- a slice is made, of a size that is told -/
theorem flowx_make (B : Nat) {E : TypeId} {d A : Nat} {x y : Operand} {n : Nat} {t : TypeId} {ps : String} {af : Array Edge} {g : Option (Nat × Bool)} (xv yv : Value) (hx : a.eval x = xv) (hy : a.eval y = yv) (cs : Array Value)
    (hst : ∀ l i w w', R i w w' → rowAt B E cs n l w → rowAt B E cs n l w')
    (hrun : ∀ w : World, (Instr.makeSlice A xv yv).run P w = .ok (.slice (some ⟨w.heap.size, 0, none⟩) n n) (w.alloc (.cells cs E)))
    (hS : ∀ w w', S w → Below w.heap.size w w' → S w') (hR : ∀ i w w', Below w.heap.size w w' → R i w w') (hB : ∀ w, S w → B ≤ w.heap.size)
    (hp : plainW ops T { dst := some d, op := .makeSlice A x y, type := t, pos := ps, after := af, guard := g } = true)
    (hg : guardW ops T { dst := some d, op := .makeSlice A x y, type := t, pos := ps, after := af, guard := g } = true)
    (hw : Region.wanted { dst := some d, op := .makeSlice A x y, type := t, pos := ps, after := af, guard := g } (yielded ops a.tmps) = true) (w0 : World)
    (h : ∀ K : Act → Prop, (∀ a, wpU P ops S R U End (k + 1) rest (d :: T) (⟨k, [d], rowAt B E cs n⟩ :: N) a → K a) → Oper.quiet P { dst := some d, op := .assign (.const undef), type := t, pos := "", after := #[], guard := none } a (fun _ => True) K) :
    wpU P ops S R U End k ({ dst := some d, op := .makeSlice A x y, type := t, pos := ps, after := af, guard := g } :: rest) T N a :=
  flowu_fact (rowAt B E cs n) hst (fun w f hs hN hut => gives_congr (exec_plain (fun _ _ e => by cases e) hp f) (by
    have hb : Below w.heap.size w (w.alloc (.cells cs E)) := (Below.refl _ _).alloc (Nat.le_refl _) _
    unfold gives
    simp only [execOp, Sem.run_bind]
    rw [hx, hy, hrun]
    exact ⟨⟨_, rfl, hB w hs, Blk.new _ _ _⟩, hS _ _ hs hb, hR _ _ _ hb⟩)) hg hw w0 h
/-- a conversion of what a fact tells, to a value that is told -/
theorem flowx_conv {d : Option Tmp} {y : Tmp} {A B : TypeId} {t : TypeId} {ps : String} {af : Array Edge} {g : Option (Nat × Bool)} (v : Value) (j : Nat) {i : Nat} {ψ : List Value → World → Prop} (hj : N[j]? = some ⟨i, [y], ψ⟩) (hwt : waitsB { dst := d, op := .convert A B (.tmp y), type := t, pos := ps, after := af, guard := g } i = true)
    (hyT : T.contains y = true) (hy : y < a.tmps.size) (hRr : ∀ i w, R i w w) (hx : ∀ u w, ψ [u] w → (convert A B u).run P w = .ok v w)
    (hg : guardW ops T { dst := d, op := .convert A B (.tmp y), type := t, pos := ps, after := af, guard := g } = true) (hw : Region.wanted { dst := d, op := .convert A B (.tmp y), type := t, pos := ps, after := af, guard := g } (yielded ops a.tmps) = true) (w0 : World)
    (h : ∀ K : Act → Prop, (∀ a, wpU P ops S R U End (k + 1) rest T N a → K a) → Oper.quiet P { dst := d, op := .assign (.const v), type := t, pos := "", after := #[], guard := none } a (fun _ => True) K) :
    wpU P ops S R U End k ({ dst := d, op := .convert A B (.tmp y), type := t, pos := ps, after := af, guard := g } :: rest) T N a :=
  flowu_val v (fun w f hS hN hut => by
    have hv := hx _ _ (known_at hN j hj hwt)
    unfold gives
    simp only [execOp, Sem.run_bind]
    rw [fill_eval (by simpa using hyT) hy, hv]
    exact ⟨rfl, hS, hRr _ _⟩) hg hw w0 h
/-- a call whose value is told, where what holds until then is known -/
theorem flowx_call {d : Option Tmp} {f : FuncId} {xs : Array Operand} {ts : Array TypeId} {t : TypeId} {ps : String} {af : Array Edge} {g : Option (Nat × Bool)}
    (hcf : ∀ (vals : Array Value) (w : World), (callFunc f vals).run P w = .ok (.enter f vals) w) (vals : Array Value) (hv : xs.map a.eval = vals)
    (hp : plainW ops T { dst := d, op := .call { callee := .value (.func f), args := xs, argTypes := ts }, type := t, pos := ps, after := af, guard := g } = true) (v : Value)
    (hc : ∀ w, S w → untilU U k w → Calls P f vals w fun e w'' => e = .returned v ∧ S w'' ∧ R k w w'')
    (hg : guardW ops T { dst := d, op := .call { callee := .value (.func f), args := xs, argTypes := ts }, type := t, pos := ps, after := af, guard := g } = true)
    (hw : Region.wanted { dst := d, op := .call { callee := .value (.func f), args := xs, argTypes := ts }, type := t, pos := ps, after := af, guard := g } (yielded ops a.tmps) = true) (w0 : World)
    (h : ∀ K : Act → Prop, (∀ a, wpU P ops S R U End (k + 1) rest T N a → K a) → Oper.quiet P { dst := d, op := .assign (.const v), type := t, pos := "", after := #[], guard := none } a (fun _ => True) K) :
    wpU P ops S R U End k ({ dst := d, op := .call { callee := .value (.func f), args := xs, argTypes := ts }, type := t, pos := ps, after := af, guard := g } :: rest) T N a :=
  flowu_val v (fun w f' hS hN hut => gives_congr (exec_plain (fun _ _ e => by cases e) hp f') (by
    have he : (execOp a.eval { dst := d, op := .call { callee := .value (.func f), args := xs, argTypes := ts }, type := t, pos := ps, after := af, guard := g }).run P w = .ok (.enter f vals) w := by
      simp [execOp, resolve, Act.eval, Deferred.ofValue, invoke, hcf, ← hv]
    unfold gives
    rw [he]
    exact (hc w hS hut).mono fun e w'' ⟨he, hs, hr⟩ => ⟨v, he, rfl, hs, hr⟩)) hg hw w0 h
end
end Go.Proofs.Ytlikngepcbmhdaa
