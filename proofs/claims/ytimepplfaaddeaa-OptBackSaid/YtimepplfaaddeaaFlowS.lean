/- A region that draws its order, one walk with facts: a variable that is laid, and stored into, in the region. -/
import Derived.Test.YtimepplfaaddeaaFlowA
import Derived.Laws.EntriesVeiled
set_option linter.unusedVariables false
set_option linter.unusedSimpArgs false
set_option linter.unusedSectionVars false
namespace Go.Proofs.Ytimepplfaaddeaa
open Go.RowKit

/-- cells, with others from the i-th one on -/
def putFrom (cs : Array Value) (i : Nat) : List Value → Array Value
  | [] => cs
  | v :: r => putFrom (cs.setIfInBounds i v) (i + 1) r
theorem run_storeCells {P : Program} (g : Nat) (E : TypeId) : ∀ (vs : List Value) (i : Nat) (W : World) (cs : Array Value), Blk W g E cs → i + vs.length ≤ cs.size → (∀ v ∈ vs, v.oneCell' = true) →
    ∃ W', (storeCells ⟨g, 0, none⟩ vs i).run P W = .ok () W' ∧ Blk W' g E (putFrom cs i vs) ∧ (∀ g', g' ≠ g → W'.heap[g']? = W.heap[g']?) ∧ W'.heap.size = W.heap.size ∧ W'.os = W.os ∧ W'.tape = W.tape ∧ W'.output = W.output
  | [], i, W, cs, h, _, _ => ⟨W, rfl, h, fun _ _ => rfl, rfl, rfl, rfl, rfl⟩
  | v :: r, i, W, cs, h, hl, hv => by
    have ha : (⟨g, 0, none⟩ : Addr).add i = ⟨g, i, none⟩ := by simp [Addr.add]; omega
    have hi : i < cs.size := by simp at hl; omega
    have hc : W.cell? ⟨g, i, none⟩ = some cs[i] := by rw [h.cell]; simp [hi]
    have hs : (store ⟨g, i, none⟩ v).run P W = .ok () (W.setCell ⟨g, i, none⟩ v) := by
      rw [run_store P W _ v .plain (hv v List.mem_cons_self), hc, h.frozen]
      rfl
    obtain ⟨W', h1, h2, h3, h4, h5, h6, h7⟩ := run_storeCells (P := P) g E r (i + 1) _ _ (h.set_ i v) (by simp at hl ⊢; omega) (fun u hu => hv u (List.mem_cons_of_mem _ hu))
    refine ⟨W', ?_, h2, fun g' hg => (h3 g' hg).trans (Below.heap_setCell W ⟨g, i, none⟩ v g' hg), ?_, ?_, ?_, ?_⟩
    · unfold storeCells
      rw [ha, Sem.run_bind, hs]
      exact h1
    · rw [h4]; simp [World.setCell]
    · rw [h5]; rfl
    · rw [h6]; rfl
    · rw [h7]; rfl

section
variable {P : Program} {ops : Array Oper} {S : World → Prop} {R : World → World → Prop} {End : List Tmp → List Fc → Act → Prop} {rest : List Oper} {k : Nat} {T : List Tmp} {N : List Fc} {a : Act} {o : Oper}
/-- an operation without a slot, which adds a fact on slots that it looks at -/
theorem flow_stage {op : Op} {t : TypeId} {ps : String} {af : Array Edge} {g : Option (Nat × Bool)} (y : Tmp) (φ : List Value → World → Prop) (hst : ∀ l w w', R w w' → φ l w → φ l w')
    (hyT : T.contains y = true) (hyl : (Oper.looksAt ops { dst := none, op := op, type := t, pos := ps, after := af, guard := g }).contains y = true)
    (hrun : ∀ w f, S w → knownW { dst := none, op := op, type := t, pos := ps, after := af, guard := g } N f w → gives P { dst := none, op := op, type := t, pos := ps, after := af, guard := g } (fillW T f a) w fun u w' => φ [f y] w' ∧ S w' ∧ R w w')
    (hg : guardW ops T { dst := none, op := op, type := t, pos := ps, after := af, guard := g } = true) (hw : Region.wanted { dst := none, op := op, type := t, pos := ps, after := af, guard := g } (yielded ops a.tmps) = true)
    (h : wpW P ops S R End (k + 1) rest T (⟨k, [y], φ⟩ :: N) a) :
    wpW P ops S R End k ({ dst := none, op := op, type := t, pos := ps, after := af, guard := g } :: rest) T N a := by
  refine ⟨hg, ?_⟩
  rw [if_pos hw]
  refine .inr ⟨[([y], φ)], fun x hx => ?_, fun w f hS hN => ?_, h⟩
  · obtain rfl : x = ([y], φ) := by simpa using hx
    exact ⟨fun t ht => .inr (by rw [List.mem_singleton.1 ht]; exact ⟨by simpa using hyT, by simpa using hyl⟩), hst⟩
  · have := hrun w f hS hN
    have key : ∀ (u : Value) w', φ [f y] w' ∧ S w' ∧ R w w' → (∀ x ∈ [([y], φ)], x.2 (x.1.map (updW f none u)) w') ∧ S w' ∧ R w w' := fun u w' ⟨h1, h2, h3⟩ => ⟨fun x hx => by
      obtain rfl : x = ([y], φ) := by simpa using hx
      simpa [updW] using h1, h2, h3⟩
    unfold gives at *
    generalize (execOp (fillW T f a).eval { dst := none, op := op, type := t, pos := ps, after := af, guard := g }).run P w = r at *
    cases r with
    | ok n w' =>
      cases n <;> simp only at this ⊢
      case value u => exact key _ _ this
      case skip => exact key undef _ this
      case enter f args => exact this.mono fun e w'' ⟨v, he, hp⟩ => ⟨v, he, key v _ hp⟩
    | halt x w' => exact this
/-- nothing below B turns; blocks that were just laid with the cells z may get the cells c -/
structure Lays (B : Nat) (E : TypeId) (z c : Array Value) (w w' : World) : Prop where
  size : w.heap.size ≤ w'.heap.size
  keep : ∀ g, Blk w g E c → Blk w' g E c
  turn : ∀ g, Blk w g E z → Blk w' g E z ∨ Blk w' g E c
theorem Lays.refl {B : Nat} {E : TypeId} {z c : Array Value} (w : World) : Lays B E z c w w := ⟨Nat.le_refl _, fun _ h => h, fun _ h => .inl h⟩
theorem Lays.of_below {B : Nat} {E : TypeId} {z c : Array Value} {w w' : World} (h : Below w.heap.size w w') : Lays B E z c w w' := ⟨h.size, fun _ hg => hg.below h hg.lt, fun _ hg => .inl (hg.below h hg.lt)⟩
/-- what is known of a variable that was just laid -/
def varNew (B : Nat) (E : TypeId) (z c : Array Value) (l : List Value) (W : World) : Prop := ∃ g, l = [.pointer (some ⟨g, 0, none⟩)] ∧ B ≤ g ∧ (Blk W g E z ∨ Blk W g E c)
def varSet (B : Nat) (E : TypeId) (c : Array Value) (l : List Value) (W : World) : Prop := ∃ g, l = [.pointer (some ⟨g, 0, none⟩)] ∧ B ≤ g ∧ Blk W g E c
theorem varNew.of {B : Nat} {E : TypeId} {z c : Array Value} (l : List Value) (w w' : World) (hb : Lays B E z c w w') (h : varNew B E z c l w) : varNew B E z c l w' := by
  obtain ⟨g, h1, h2, h3⟩ := h
  refine ⟨g, h1, h2, ?_⟩
  rcases h3 with h3 | h3
  · exact hb.turn g h3
  · exact .inr (hb.keep g h3)
theorem varSet.of {B : Nat} {E : TypeId} {z c : Array Value} (l : List Value) (w w' : World) (hb : Lays B E z c w w') (h : varSet B E c l w) : varSet B E c l w' := by
  obtain ⟨g, h1, h2, h3⟩ := h
  exact ⟨g, h1, h2, hb.keep g h3⟩
/-- a variable is laid, which the region stores into -/
theorem flow_alloc (B : Nat) (z c : Array Value) {E : TypeId} {d : Nat} {t : TypeId} {ps : String} {af : Array Edge} {g : Option (Nat × Bool)}
    (hrun : ∀ w : World, (Instr.alloc E true (.tuple #[])).run P w = .ok (.pointer (some ⟨w.heap.size, 0, none⟩)) (w.alloc (.cells z E)))
    (hS : ∀ w w', S w → Below w.heap.size w w' → S w') (hB : ∀ w, S w → B ≤ w.heap.size)
    (hg : guardW ops T { dst := some d, op := .alloc E, type := t, pos := ps, after := af, guard := g } = true)
    (hw : Region.wanted { dst := some d, op := .alloc E, type := t, pos := ps, after := af, guard := g } (yielded ops a.tmps) = true) (w0 : World)
    (h : ∀ K : Act → Prop, (∀ a, wpW P ops S (Lays B E z c) End (k + 1) rest (d :: T) (⟨k, [d], varNew B E z c⟩ :: N) a → K a) → Oper.quiet P { dst := some d, op := .assign (.const undef), type := t, pos := "", after := #[], guard := none } a (fun _ => True) K) :
    wpW P ops S (Lays B E z c) End k ({ dst := some d, op := .alloc E, type := t, pos := ps, after := af, guard := g } :: rest) T N a :=
  flow_fact (varNew B E z c) varNew.of (fun w f hs hN => by
    have hb : Below w.heap.size w (w.alloc (.cells z E)) := (Below.refl _ _).alloc (Nat.le_refl _) _
    unfold gives
    simp only [execOp, Sem.run_bind]
    rw [hrun]
    exact ⟨⟨_, rfl, hB w hs, .inl (Blk.new _ _ _)⟩, hS _ _ hs hb, Lays.of_below hb⟩) hg hw w0 h
/-- .. and the store into it, of a whole struct -/
theorem flow_store (B : Nat) (z c : Array Value) (vs : Array Value) {E : TypeId} {y : Tmp} {x : Operand} {t : TypeId} {ps : String} {af : Array Edge} {g : Option (Nat × Bool)} (j : Nat) {i : Nat}
    (hj : N[j]? = some ⟨i, [y], varNew B E z c⟩) (hwt : waitsB { dst := none, op := .store E (.tmp y) x, type := t, pos := ps, after := af, guard := g } i = true) (hyT : T.contains y = true) (hy : y < a.tmps.size)
    (hyl : (Oper.looksAt ops { dst := none, op := .store E (.tmp y) x, type := t, pos := ps, after := af, guard := g }).contains y = true)
    (hx : ∀ f, (fillW T f a).eval x = .agg vs) (hsz : ∀ w : World, (sizeOf E).run P w = .ok vs.size w) (hz : z.size = vs.size) (hc : c.size = vs.size) (h1 : ∀ v ∈ vs.toList, v.oneCell' = true) (hpz : putFrom z 0 vs.toList = c) (hpc : putFrom c 0 vs.toList = c)
    (hS : ∀ w w' b, S w → B ≤ b → b < w.heap.size → w.grownBy w' (some b) → S w')
    (hg : guardW ops T { dst := none, op := .store E (.tmp y) x, type := t, pos := ps, after := af, guard := g } = true) (hw : Region.wanted { dst := none, op := .store E (.tmp y) x, type := t, pos := ps, after := af, guard := g } (yielded ops a.tmps) = true)
    (h : wpW P ops S (Lays B E z c) End (k + 1) rest T (⟨k, [y], varSet B E c⟩ :: N) a) :
    wpW P ops S (Lays B E z c) End k ({ dst := none, op := .store E (.tmp y) x, type := t, pos := ps, after := af, guard := g } :: rest) T N a :=
  flow_stage y (varSet B E c) varSet.of hyT hyl (fun w f hs hN => by
    obtain ⟨b, hb, hB, hcs⟩ := known_at hN j hj hwt
    injection hb with hb
    have main : ∀ cs, Blk w b E cs → cs.size = vs.size → putFrom cs 0 vs.toList = c → ∃ W', (Instr.storeAt E (.pointer (some ⟨b, 0, none⟩)) (.agg vs)).run P w = .ok () W' ∧ Blk W' b E c ∧ (∀ g', g' ≠ b → W'.heap[g']? = w.heap[g']?) ∧ w.grownBy W' (some b) := by
      intro cs hk hsize hput
      obtain ⟨W', q1, q2, q3, q4, q5, q6, q7⟩ := run_storeCells (P := P) b E vs.toList 0 w cs hk (by simp [hsize]) h1
      rw [hput] at q2
      refine ⟨W', ?_, q2, q3, ⟨q5, q6, q7, by omega, fun i hi hne => q3 i (fun e => hne (by rw [e]))⟩⟩
      have hsv : (storeVar E ⟨b, 0, none⟩ (.agg vs)).run P w = .ok () W' := by
        unfold storeVar
        simp only [Sem.run_bind, hsz, Result.andThen_ok, Value.cells]
        simp only [ne_eq, not_true_eq_false, if_false]
        exact q1
      unfold Instr.storeAt
      simp only [Sem.run_bind]
      rw [show (Instr.sureAddr (.pointer (some ⟨b, 0, none⟩))).run P w = .ok ⟨b, 0, none⟩ w from rfl]
      exact hsv
    have hlt : b < w.heap.size := by rcases hcs with h | h <;> exact h.lt
    have fin : ∃ W', (Instr.storeAt E (.pointer (some ⟨b, 0, none⟩)) (.agg vs)).run P w = .ok () W' ∧ Blk W' b E c ∧ (∀ g', g' ≠ b → W'.heap[g']? = w.heap[g']?) ∧ w.grownBy W' (some b) := by
      rcases hcs with h | h
      · exact main z h hz hpz
      · exact main c h hc hpc
    obtain ⟨W', q1, q2, q3, q4⟩ := fin
    unfold gives
    simp only [execOp, Sem.run_bind]
    rw [fill_eval (by simpa using hyT) hy, hb, hx, q1]
    refine ⟨⟨b, rfl, hB, q2⟩, hS _ _ b hs hB hlt q4, ⟨q4.size, fun g' hg' => ?_, fun g' hg' => ?_⟩⟩
    · by_cases e : g' = b
      · rw [e]; exact q2
      · exact (q3 g' e).trans hg'
    · by_cases e : g' = b
      · rw [e]; exact .inr q2
      · exact .inl ((q3 g' e).trans hg')) hg hw h
end
end Go.Proofs.Ytimepplfaaddeaa
