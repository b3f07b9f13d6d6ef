/- Two entries of two maps, written in one assignment, in a region that draws its order: what stands where, until which operation is done. -/
import Derived.Test.YtlikngepcbmhdaaFlowUA
import Derived.Test.YtlikngepcbmhdaaMap
set_option linter.unusedVariables false
set_option linter.unusedSimpArgs false
set_option linter.unusedSectionVars false
namespace Go.Proofs.Ytlikngepcbmhdaa
open Go.RowKit Go.BigFrame
open Go.ChangeMaps (setBlock)

/-- nothing turns but blocks of O, and those that are new -/
structure Out (O : Nat → Prop) (w w' : World) : Prop where
  os : w'.os = w.os
  tape : w'.tape = w.tape
  output : w'.output = w.output
  size : w.heap.size ≤ w'.heap.size
  block : ∀ i, i < w.heap.size → ¬ O i → w'.heap[i]? = w.heap[i]?
theorem Out.refl (O : Nat → Prop) (w : World) : Out O w w := ⟨rfl, rfl, rfl, Nat.le_refl _, fun _ _ _ => rfl⟩
theorem Out.trans {O O' : Nat → Prop} {a b c : World} (h : Out O a b) (k : Out O' b c) (hO : ∀ i, i < a.heap.size → O' i → O i) : Out O a c :=
  ⟨k.os.trans h.os, k.tape.trans h.tape, k.output.trans h.output, Nat.le_trans h.size k.size, fun i hi hn => (k.block i (Nat.lt_of_lt_of_le hi h.size) (fun hk => hn (hO i hi hk))).trans (h.block i hi hn)⟩
theorem Out.of_below {O : Nat → Prop} {w w' : World} (h : Below w.heap.size w w') : Out O w w' := ⟨h.os, h.tape, h.output, h.size, fun i hi _ => h.block i hi⟩
theorem Out.below {O : Nat → Prop} {N : Nat} {w w' : World} (h : Out O w w') (hN : N ≤ w.heap.size) (hO : ∀ i, i < N → ¬ O i) : Below N w w' := ⟨h.os, h.tape, h.output, h.size, fun i hi => h.block i (Nat.lt_of_lt_of_le hi hN) (hO i hi)⟩
theorem Out.grown {O : Nat → Prop} {w w' : World} {g : Nat} (h : w.grownBy w' (some g)) (hO : O g) : Out O w w' := ⟨h.os, h.tape, h.output, h.size, fun i hi hn => h.block i hi (by intro e; injection e with e; exact hn (e ▸ hO))⟩
theorem Out.mono {O O' : Nat → Prop} {w w' : World} (h : Out O w w') (hO : ∀ i, i < w.heap.size → O i → O' i) : Out O' w w' := ⟨h.os, h.tape, h.output, h.size, fun i hi hn => h.block i hi (fun hk => hn (hO i hi hk))⟩
theorem Out.set_ {O : Nat → Prop} {w W : World} {t : Nat} (h : Out O w W) (ht : O t) (i : Nat) (v : Value) : Out O w (W.setCell ⟨t, i, none⟩ v) :=
  Out.trans h (Out.grown (O := fun i => i = t) (g := t) (only_setCell ⟨rfl, rfl, rfl, Nat.le_refl _, fun _ _ _ => rfl⟩ (.inl rfl) v) rfl) (fun _ _ h => h ▸ ht)
theorem set_grown {w : World} {b : Nat} {o : Obj} (o' : Obj) (h : w.heap[b]? = some o) : w.grownBy (setBlock w b o') (some b) :=
  ⟨rfl, rfl, rfl, by simp [setBlock], fun i _ hi => by
    have hne : i ≠ b := fun e => hi (by rw [e])
    simp [setBlock, Array.getElem?_setIfInBounds, Ne.symm hne]⟩
theorem set_at {w : World} {b : Nat} {o : Obj} (o' : Obj) (h : w.heap[b]? = some o) : (setBlock w b o').heap[b]? = some o' := by
  have hlt : b < w.heap.size := (Array.getElem?_eq_some_iff.1 h).1
  simp [setBlock, Array.getElem?_setIfInBounds, hlt]
theorem set_other {w : World} {b c : Nat} (o' : Obj) (h : c ≠ b) : (setBlock w b o').heap[c]? = w.heap[c]? := by
  simp [setBlock, Array.getElem?_setIfInBounds, Ne.symm h]

/-- cells, with others from the i-th one on -/
def putCells (cs : Array Value) (i : Nat) : List Value → Array Value
  | [] => cs
  | v :: r => putCells (cs.setIfInBounds i v) (i + 1) r
theorem run_storeCellsAt {P : Program} (g base : Nat) (E : TypeId) : ∀ (vs : List Value) (i : Nat) (W : World) (cs : Array Value), Blk W g E cs → base + i + vs.length ≤ cs.size → (∀ v ∈ vs, v.oneCell' = true) →
    ∃ W', (storeCells ⟨g, base, none⟩ vs i).run P W = .ok () W' ∧ Blk W' g E (putCells cs (base + i) vs) ∧ W.grownBy W' (some g)
  | [], i, W, cs, h, _, _ => ⟨W, rfl, h, ⟨rfl, rfl, rfl, Nat.le_refl _, fun _ _ _ => rfl⟩⟩
  | v :: r, i, W, cs, h, hl, hv => by
    have ha : (⟨g, base, none⟩ : Addr).add i = ⟨g, base + i, none⟩ := by
      unfold Addr.add
      by_cases hi : i = 0
      · subst hi; rfl
      · simp [hi]
    have hi : base + i < cs.size := by simp at hl; omega
    have hc : W.cell? ⟨g, base + i, none⟩ = some cs[base + i] := by rw [h.cell]; simp [hi]
    have hs : (store ⟨g, base + i, none⟩ v).run P W = .ok () (W.setCell ⟨g, base + i, none⟩ v) := by
      rw [run_store P W _ v .plain (hv v List.mem_cons_self), hc, h.frozen]
      rfl
    obtain ⟨W', h1, h2, h3⟩ := run_storeCellsAt (P := P) g base E r (i + 1) _ _ (h.set_ (base + i) v) (by simp at hl ⊢; omega) (fun u hu => hv u (List.mem_cons_of_mem _ hu))
    refine ⟨W', ?_, h2, ?_⟩
    · unfold storeCells
      rw [ha, Sem.run_bind, hs]
      exact h1
    · have h4 : W.grownBy (W.setCell ⟨g, base + i, none⟩ v) (some g) := only_setCell ⟨rfl, rfl, rfl, Nat.le_refl _, fun _ _ _ => rfl⟩ (.inl rfl) v
      exact ⟨h3.os.trans h4.os, h3.tape.trans h4.tape, h3.output.trans h4.output, Nat.le_trans h4.size h3.size, fun i hi hn => (h3.block i (Nat.lt_of_lt_of_le hi h4.size) hn).trans (h4.block i hi hn)⟩
theorem run_storeAt_is {P : Program} {g base : Nat} {E t : TypeId} {val : Value} {vs : List Value} {W : World} {cs : Array Value} (hv : val.cells.toList = vs) (hsz : (sizeOf t).run P W = .ok vs.length W) (h : Blk W g E cs) (hl : base + vs.length ≤ cs.size) (h1 : ∀ v ∈ vs, v.oneCell' = true) :
    ∃ W', (Instr.storeAt t (.pointer (some ⟨g, base, none⟩)) val).run P W = .ok () W' ∧ Blk W' g E (putCells cs base vs) ∧ W.grownBy W' (some g) := by
  obtain ⟨W', q1, q2, q3⟩ := run_storeCellsAt (P := P) g base E vs 0 W cs h (by omega) h1
  refine ⟨W', ?_, q2, q3⟩
  have hsv : (storeVar t ⟨g, base, none⟩ val).run P W = .ok () W' := by
    unfold storeVar
    simp only [Sem.run_bind, hsz, Result.andThen_ok]
    have hcl : val.cells.size = vs.length := by rw [← hv]; simp
    simp only [hcl, ne_eq, not_true_eq_false, if_false, hv]
    exact q1
  unfold Instr.storeAt
  simp only [Sem.run_bind]
  rw [show (Instr.sureAddr (.pointer (some ⟨g, base, none⟩))).run P W = .ok ⟨g, base, none⟩ W from rfl]
  exact hsv
/-- what is known of a struct that was just laid by the region -/
def ptrNew (B : Nat) (E : TypeId) (cs : Array Value) (l : List Value) (W : World) : Prop := ∃ g, l = [.pointer (some ⟨g, 0, none⟩)] ∧ B ≤ g ∧ Blk W g E cs
section
variable {P : Program} {ops : Array Oper} {S : World → Prop} {R : Nat → World → World → Prop} {U : List (Nat × (World → Prop))} {End : List Tmp → List Fc → Act → Prop} {k : Nat} {rest : List Oper} {T : List Tmp} {N : List Fc} {a : Act}
theorem flowu_box (B : Nat) {E : TypeId} {d : Nat} {x : Operand} {t : TypeId} {ps : String} {af : Array Edge} {g : Option (Nat × Bool)} (v : Value) (hv : a.eval x = v) (cs : Array Value)
    (hst : ∀ l i w w', R i w w' → ptrNew B E cs l w → ptrNew B E cs l w')
    (hrun : ∀ w : World, (Instr.box E v).run P w = .ok (.pointer (some ⟨w.heap.size, 0, none⟩)) (w.alloc (.cells cs E)))
    (hS : ∀ w w', S w → Below w.heap.size w w' → S w') (hR : ∀ i w w', Below w.heap.size w w' → R i w w') (hB : ∀ w, S w → B ≤ w.heap.size)
    (hp : plainW ops T { dst := some d, op := .box E x, type := t, pos := ps, after := af, guard := g } = true)
    (hg : guardW ops T { dst := some d, op := .box E x, type := t, pos := ps, after := af, guard := g } = true)
    (hw : Region.wanted { dst := some d, op := .box E x, type := t, pos := ps, after := af, guard := g } (yielded ops a.tmps) = true) (w0 : World)
    (h : ∀ K : Act → Prop, (∀ a, wpU P ops S R U End (k + 1) rest (d :: T) (⟨k, [d], ptrNew B E cs⟩ :: N) a → K a) → Oper.quiet P { dst := some d, op := .assign (.const undef), type := t, pos := "", after := #[], guard := none } a (fun _ => True) K) :
    wpU P ops S R U End k ({ dst := some d, op := .box E x, type := t, pos := ps, after := af, guard := g } :: rest) T N a :=
  flowu_fact (ptrNew B E cs) hst (fun w f hs hN _ => gives_congr (exec_plain (fun _ _ e => by cases e) hp f) (by
    have hb : Below w.heap.size w (w.alloc (.cells cs E)) := (Below.refl _ _).alloc (Nat.le_refl _) _
    unfold gives
    simp only [execOp, Sem.run_bind]
    rw [hv, hrun]
    exact ⟨⟨_, rfl, hB w hs, Blk.new _ _ _⟩, hS _ _ hs hb, hR _ _ _ hb⟩)) hg hw w0 h
/-- an operation without a slot, which adds a fact on slots that it looks at -/
theorem flowu_stage0 {op : Op} {t : TypeId} {ps : String} {af : Array Edge} {g : Option (Nat × Bool)} (ys : List Tmp) (φ : List Value → World → Prop) (hst : ∀ l i w w', i ≠ k → R i w w' → φ l w → φ l w')
    (hyT : ys.all (fun y => T.contains y && (Oper.looksAt ops { dst := none, op := op, type := t, pos := ps, after := af, guard := g }).contains y) = true)
    (hrun : ∀ w f, S w → knownW { dst := none, op := op, type := t, pos := ps, after := af, guard := g } N f w → untilU U k w → gives P { dst := none, op := op, type := t, pos := ps, after := af, guard := g } (fillW T f a) w fun u w' => φ (ys.map f) w' ∧ S w' ∧ R k w w')
    (hg : guardW ops T { dst := none, op := op, type := t, pos := ps, after := af, guard := g } = true) (hw : Region.wanted { dst := none, op := op, type := t, pos := ps, after := af, guard := g } (yielded ops a.tmps) = true)
    (h : wpU P ops S R U End (k + 1) rest T (⟨k, ys, φ⟩ :: N) a) :
    wpU P ops S R U End k ({ dst := none, op := op, type := t, pos := ps, after := af, guard := g } :: rest) T N a := by
  refine ⟨hg, ?_⟩
  rw [if_pos hw]
  refine .inr ⟨[(ys, φ)], fun x hx => ?_, fun w f hS hN hut => ?_, h⟩
  · obtain rfl : x = (ys, φ) := by simpa using hx
    refine ⟨fun t ht => .inr ?_, hst⟩
    have := List.all_eq_true.1 hyT t ht
    simp only [Bool.and_eq_true] at this
    exact ⟨by simpa using this.1, by simpa using this.2⟩
  · have := hrun w f hS hN hut
    have key : ∀ (u : Value) w', φ (ys.map f) w' ∧ S w' ∧ R k w w' → (∀ x ∈ [(ys, φ)], x.2 (x.1.map (updW f none u)) w') ∧ S w' ∧ R k w w' := fun u w' ⟨h1, h2, h3⟩ => ⟨fun x hx => by
      obtain rfl : x = (ys, φ) := by simpa using hx
      have e : updW f none u = f := by funext t; simp [updW]
      rw [e]; exact h1, h2, h3⟩
    unfold gives at *
    generalize (execOp (fillW T f a).eval { dst := none, op := op, type := t, pos := ps, after := af, guard := g }).run P w = r at *
    cases r with
    | ok n w' =>
      cases n <;> simp only at this ⊢
      case value u => exact key _ _ this
      case skip => exact key undef _ this
      case enter f args => exact this.mono fun e w'' ⟨v, he, hp⟩ => ⟨v, he, key v _ hp⟩
    | halt x w' => exact this
theorem flowu_stage {op : Op} {t : TypeId} {ps : String} {af : Array Edge} {g : Option (Nat × Bool)} (ys : List Tmp) (φ : List Value → World → Prop) (hst : ∀ l i w w', R i w w' → φ l w → φ l w')
    (hyT : ys.all (fun y => T.contains y && (Oper.looksAt ops { dst := none, op := op, type := t, pos := ps, after := af, guard := g }).contains y) = true)
    (hrun : ∀ w f, S w → knownW { dst := none, op := op, type := t, pos := ps, after := af, guard := g } N f w → untilU U k w → gives P { dst := none, op := op, type := t, pos := ps, after := af, guard := g } (fillW T f a) w fun u w' => φ (ys.map f) w' ∧ S w' ∧ R k w w')
    (hg : guardW ops T { dst := none, op := op, type := t, pos := ps, after := af, guard := g } = true) (hw : Region.wanted { dst := none, op := op, type := t, pos := ps, after := af, guard := g } (yielded ops a.tmps) = true)
    (h : wpU P ops S R U End (k + 1) rest T (⟨k, ys, φ⟩ :: N) a) :
    wpU P ops S R U End k ({ dst := none, op := op, type := t, pos := ps, after := af, guard := g } :: rest) T N a :=
  flowu_stage0 ys φ (fun l i w w' _ => hst l i w w') hyT hrun hg hw h
/-- a store to a place that is told ahead -/
theorem flowu_storeW {y x : Operand} {mt t : TypeId} {ps : String} {af : Array Edge} {g : Option (Nat × Bool)} (φ : List Value → World → Prop) (pv xv : Value) (hst : ∀ l i w w', R i w w' → φ l w → φ l w')
    (hm : ∀ f, (fillW T f a).eval y = pv) (hx : ∀ f, (fillW T f a).eval x = xv)
    (hrun : ∀ w, S w → untilU U k w → ∃ w', (Instr.storeAt mt pv xv).run P w = .ok () w' ∧ φ [] w' ∧ S w' ∧ R k w w')
    (hg : guardW ops T { dst := none, op := .store mt y x, type := t, pos := ps, after := af, guard := g } = true) (hw : Region.wanted { dst := none, op := .store mt y x, type := t, pos := ps, after := af, guard := g } (yielded ops a.tmps) = true)
    (h : wpU P ops S R U End (k + 1) rest T (⟨k, [], φ⟩ :: N) a) :
    wpU P ops S R U End k ({ dst := none, op := .store mt y x, type := t, pos := ps, after := af, guard := g } :: rest) T N a :=
  flowu_stage [] φ hst rfl (fun w f hS hN hut => by
    obtain ⟨w', hr, h1, h2, h3⟩ := hrun w hS hut
    unfold gives
    simp only [execOp, Sem.run_bind]
    rw [hm, hx, hr]
    exact ⟨h1, h2, h3⟩) hg hw h
/-- an entry is made -/
theorem flowu_entry {d : Tmp} {m x : Operand} {mt t : TypeId} {ps : String} {af : Array Edge} {g : Option (Nat × Bool)} (mv key : Value) (hm : a.eval m = mv) (hx : a.eval x = key) (v : Value) (ψ : List Value → World → Prop) (hst : ∀ l i w w', R i w w' → ψ l w → ψ l w')
    (hrun : ∀ w, S w → untilU U k w → ∃ w', (Instr.mapEntry mt mv key).run P w = .ok v w' ∧ ψ [] w' ∧ S w' ∧ R k w w')
    (hp : plainW ops T { dst := some d, op := .mapEntry mt m x, type := t, pos := ps, after := af, guard := g } = true)
    (hg : guardW ops T { dst := some d, op := .mapEntry mt m x, type := t, pos := ps, after := af, guard := g } = true)
    (hw : Region.wanted { dst := some d, op := .mapEntry mt m x, type := t, pos := ps, after := af, guard := g } (yielded ops a.tmps) = true) (w0 : World)
    (h : ∀ K : Act → Prop, (∀ a, wpU P ops S R U End (k + 1) rest T (⟨k, [], ψ⟩ :: N) a → K a) → Oper.quiet P { dst := some d, op := .assign (.const v), type := t, pos := "", after := #[], guard := none } a (fun _ => True) K) :
    wpU P ops S R U End k ({ dst := some d, op := .mapEntry mt m x, type := t, pos := ps, after := af, guard := g } :: rest) T N a :=
  flowu_stay v ψ hst (fun w f hs hN hut => gives_congr (exec_plain (fun _ _ e => by cases e) hp f) (by
    obtain ⟨w', hr, h1, h2, h3⟩ := hrun w hs hut
    unfold gives
    simp only [execOp, Sem.run_bind]
    rw [hm, hx, hr]
    exact ⟨⟨rfl, h1⟩, h2, h3⟩)) hg hw w0 h
/-- .. and it is written -/
theorem flowu_entryStore {m s x : Operand} {mt t : TypeId} {ps : String} {af : Array Edge} {g : Option (Nat × Bool)} (ys : List Tmp) (φ : List Value → World → Prop) (mv sv : Value) (xv : (Tmp → Value) → Value) (hst : ∀ l i w w', R i w w' → φ l w → φ l w')
    (hm : ∀ f, (fillW T f a).eval m = mv) (hs : ∀ f, (fillW T f a).eval s = sv) (hx : ∀ f, (fillW T f a).eval x = xv f)
    (hyT : ys.all (fun y => T.contains y && (Oper.looksAt ops { dst := none, op := .entryStore mt m s x, type := t, pos := ps, after := af, guard := g }).contains y) = true)
    (hrun : ∀ w f, S w → knownW { dst := none, op := .entryStore mt m s x, type := t, pos := ps, after := af, guard := g } N f w → untilU U k w → ∃ w', (Instr.entryStore mt mv sv (xv f)).run P w = .ok () w' ∧ φ (ys.map f) w' ∧ S w' ∧ R k w w')
    (hg : guardW ops T { dst := none, op := .entryStore mt m s x, type := t, pos := ps, after := af, guard := g } = true) (hw : Region.wanted { dst := none, op := .entryStore mt m s x, type := t, pos := ps, after := af, guard := g } (yielded ops a.tmps) = true)
    (h : wpU P ops S R U End (k + 1) rest T (⟨k, ys, φ⟩ :: N) a) :
    wpU P ops S R U End k ({ dst := none, op := .entryStore mt m s x, type := t, pos := ps, after := af, guard := g } :: rest) T N a :=
  flowu_stage ys φ hst hyT (fun w f hS hN hut => by
    obtain ⟨w', hr, h1, h2, h3⟩ := hrun w f hS hN hut
    unfold gives
    simp only [execOp, Sem.run_bind]
    rw [hm, hs, hx, hr]
    exact ⟨h1, h2, h3⟩) hg hw h
end

/-- two maps, whose blocks are b1, b2: what each is ahead, between, and behind -/
structure Two where
  b1 : Nat
  b2 : Nat
  O0 : Obj
  O1 : Obj
  O2 : Value → Obj
  P0 : Obj
  P1 : Obj
  P2 : Value → Obj
  v : Value
structure TwoOk (q : Two) (B : Nat) : Prop where
  ne : q.b1 ≠ q.b2
  l1 : q.b1 < B
  l2 : q.b2 < B
  o01 : q.O0 ≠ q.O1
  o20 : ∀ x, q.O2 x ≠ q.O0
  o21 : ∀ g, q.O2 (.pointer (some ⟨g, 0, none⟩)) ≠ q.O1
  p01 : q.P0 ≠ q.P1
  p20 : q.P2 q.v ≠ q.P0
  p21 : q.P2 q.v ≠ q.P1
/-- what operation i may do (k1, k2: the first map's entry is made, and written; k3, k4: the second one's) -/
def RTwo (q : Two) (k1 k2 k3 k4 : Nat) (i : Nat) (w w' : World) : Prop :=
  Below w.heap.size w w' ∨ (i = k1 ∧ w.heap[q.b1]? = some q.O0 ∧ w' = setBlock w q.b1 q.O1) ∨ (i = k2 ∧ w.heap[q.b1]? = some q.O1 ∧ ∃ x, w' = setBlock w q.b1 (q.O2 x)) ∨
  (i = k3 ∧ w.heap[q.b2]? = some q.P0 ∧ w' = setBlock w q.b2 q.P1) ∨ (i = k4 ∧ w.heap[q.b2]? = some q.P1 ∧ w' = setBlock w q.b2 (q.P2 q.v))
def UTwo (q : Two) (k1 k2 k3 k4 : Nat) : List (Nat × (World → Prop)) :=
  [(k1, fun w => w.heap[q.b1]? = some q.O0), (k2, fun w => w.heap[q.b1]? = some q.O0 ∨ w.heap[q.b1]? = some q.O1), (k3, fun w => w.heap[q.b2]? = some q.P0), (k4, fun w => w.heap[q.b2]? = some q.P0 ∨ w.heap[q.b2]? = some q.P1)]
def F1 (q : Two) (l : List Value) (w : World) : Prop := ∃ o, w.heap[q.b1]? = some o ∧ o ≠ q.O0
def F2 (q : Two) (l : List Value) (w : World) : Prop := ∃ g, l = [.pointer (some ⟨g, 0, none⟩)] ∧ w.heap[q.b1]? = some (q.O2 (.pointer (some ⟨g, 0, none⟩)))
def F3 (q : Two) (l : List Value) (w : World) : Prop := ∃ o, w.heap[q.b2]? = some o ∧ o ≠ q.P0
def F4 (q : Two) (l : List Value) (w : World) : Prop := w.heap[q.b2]? = some (q.P2 q.v)
theorem at_below {w w' : World} {b : Nat} {o : Obj} (h : w.heap[b]? = some o) (hb : Below w.heap.size w w') : w'.heap[b]? = some o := (hb.block b (Array.getElem?_eq_some_iff.1 h).1).trans h
section
variable {q : Two} {B k1 k2 k3 k4 : Nat} (h : TwoOk q B)
include h
theorem F1.stays : ∀ l i w w', RTwo q k1 k2 k3 k4 i w w' → F1 q l w → F1 q l w' := by
  rintro l i w w' (hb | ⟨_, h0, rfl⟩ | ⟨_, h0, x, rfl⟩ | ⟨_, h0, rfl⟩ | ⟨_, h0, rfl⟩) ⟨o, ho, hne⟩
  · exact ⟨o, at_below ho hb, hne⟩
  · exact ⟨_, set_at _ h0, h.o01.symm⟩
  · exact ⟨_, set_at _ h0, h.o20 _⟩
  · exact ⟨o, (set_other _ h.ne).trans ho, hne⟩
  · exact ⟨o, (set_other _ h.ne).trans ho, hne⟩
theorem F2.stays : ∀ l i w w', RTwo q k1 k2 k3 k4 i w w' → F2 q l w → F2 q l w' := by
  rintro l i w w' (hb | ⟨_, h0, rfl⟩ | ⟨_, h0, x, rfl⟩ | ⟨_, h0, rfl⟩ | ⟨_, h0, rfl⟩) ⟨g, hl, ho⟩
  · exact ⟨g, hl, at_below ho hb⟩
  · rw [ho] at h0; injection h0 with h0; exact absurd h0 (h.o20 _)
  · rw [ho] at h0; injection h0 with h0; exact absurd h0 (h.o21 _)
  · exact ⟨g, hl, (set_other _ h.ne).trans ho⟩
  · exact ⟨g, hl, (set_other _ h.ne).trans ho⟩
theorem F3.stays : ∀ l i w w', RTwo q k1 k2 k3 k4 i w w' → F3 q l w → F3 q l w' := by
  rintro l i w w' (hb | ⟨_, h0, rfl⟩ | ⟨_, h0, x, rfl⟩ | ⟨_, h0, rfl⟩ | ⟨_, h0, rfl⟩) ⟨o, ho, hne⟩
  · exact ⟨o, at_below ho hb, hne⟩
  · exact ⟨o, (set_other _ h.ne.symm).trans ho, hne⟩
  · exact ⟨o, (set_other _ h.ne.symm).trans ho, hne⟩
  · exact ⟨_, set_at _ h0, h.p01.symm⟩
  · exact ⟨_, set_at _ h0, h.p20⟩
theorem F4.stays : ∀ l i w w', RTwo q k1 k2 k3 k4 i w w' → F4 q l w → F4 q l w' := by
  rintro l i w w' (hb | ⟨_, h0, rfl⟩ | ⟨_, h0, x, rfl⟩ | ⟨_, h0, rfl⟩ | ⟨_, h0, rfl⟩) ho
  · exact at_below ho hb
  · exact (set_other _ h.ne.symm).trans ho
  · exact (set_other _ h.ne.symm).trans ho
  · unfold F4 at ho; rw [ho] at h0; injection h0 with h0; exact absurd h0 h.p20
  · unfold F4 at ho; rw [ho] at h0; injection h0 with h0; exact absurd h0 h.p21
theorem ptrNew.two {E : TypeId} {cs : Array Value} : ∀ l i w w', RTwo q k1 k2 k3 k4 i w w' → ptrNew B E cs l w → ptrNew B E cs l w' := by
  rintro l i w w' (hb | ⟨_, h0, rfl⟩ | ⟨_, h0, x, rfl⟩ | ⟨_, h0, rfl⟩ | ⟨_, h0, rfl⟩) ⟨g, hl, hB, hk⟩
  · exact ⟨g, hl, hB, hk.below hb hk.lt⟩
  all_goals
    have h1 := h.l1
    have h2 := h.l2
    exact ⟨g, hl, hB, (set_other _ (by omega)).trans hk⟩
theorem UTwo.stays (hk : k1 < k2 ∧ k2 < k3 ∧ k3 < k4) : ∀ u ∈ UTwo q k1 k2 k3 k4, ∀ i w w', i ≠ u.1 → RTwo q k1 k2 k3 k4 i w w' → u.2 w → u.2 w' := by
  intro u hu i w w' hi hR hw
  simp only [UTwo, List.mem_cons, List.mem_nil_iff, or_false] at hu
  rcases hu with rfl | rfl | rfl | rfl
  · rcases hR with hb | ⟨e, h0, rfl⟩ | ⟨_, h0, x, rfl⟩ | ⟨_, h0, rfl⟩ | ⟨_, h0, rfl⟩
    · exact at_below hw hb
    · exact absurd e hi
    · simp only at hw; rw [hw] at h0; injection h0 with h0; exact absurd h0 h.o01
    · exact (set_other _ h.ne).trans hw
    · exact (set_other _ h.ne).trans hw
  · rcases hR with hb | ⟨e, h0, rfl⟩ | ⟨e, h0, x, rfl⟩ | ⟨_, h0, rfl⟩ | ⟨_, h0, rfl⟩
    · exact hw.imp (fun h => at_below h hb) (fun h => at_below h hb)
    · exact .inr (set_at _ h0)
    · exact absurd e hi
    · exact hw.imp (fun h' => (set_other _ h.ne).trans h') (fun h' => (set_other _ h.ne).trans h')
    · exact hw.imp (fun h' => (set_other _ h.ne).trans h') (fun h' => (set_other _ h.ne).trans h')
  · rcases hR with hb | ⟨e, h0, rfl⟩ | ⟨_, h0, x, rfl⟩ | ⟨e, h0, rfl⟩ | ⟨_, h0, rfl⟩
    · exact at_below hw hb
    · exact (set_other _ h.ne.symm).trans hw
    · exact (set_other _ h.ne.symm).trans hw
    · exact absurd e hi
    · simp only at hw; rw [hw] at h0; injection h0 with h0; exact absurd h0 h.p01
  · rcases hR with hb | ⟨e, h0, rfl⟩ | ⟨e, h0, x, rfl⟩ | ⟨_, h0, rfl⟩ | ⟨e, h0, rfl⟩
    · exact hw.imp (fun h => at_below h hb) (fun h => at_below h hb)
    · exact hw.imp (fun h' => (set_other _ h.ne.symm).trans h') (fun h' => (set_other _ h.ne.symm).trans h')
    · exact hw.imp (fun h' => (set_other _ h.ne.symm).trans h') (fun h' => (set_other _ h.ne.symm).trans h')
    · exact .inr (set_at _ h0)
    · exact absurd e hi
omit h in
theorem RTwo.refl : ∀ i w, RTwo q k1 k2 k3 k4 i w w := fun _ _ => .inl (Below.refl _ _)
omit h in
theorem RTwo.below : ∀ i w w', Below w.heap.size w w' → RTwo q k1 k2 k3 k4 i w w' := fun _ _ _ h => .inl h
end
/-- the class of worlds: nothing turned but the two maps -/
def STwo (q : Two) (W w : World) : Prop := Out (fun i => i = q.b1 ∨ i = q.b2) W w
theorem STwo.below {q : Two} {W w w' : World} (h : STwo q W w) (hb : Below w.heap.size w w') : STwo q W w' := Out.trans h (Out.of_below (O := fun _ => False) hb) (fun _ _ h => h.elim)
theorem STwo.set1 {q : Two} {W w : World} {o : Obj} (o' : Obj) (h : STwo q W w) (h0 : w.heap[q.b1]? = some o) : STwo q W (setBlock w q.b1 o') := Out.trans h (Out.grown (O := fun i => i = q.b1) (set_grown o' h0) rfl) (fun _ _ h => .inl h)
theorem STwo.set2 {q : Two} {W w : World} {o : Obj} (o' : Obj) (h : STwo q W w) (h0 : w.heap[q.b2]? = some o) : STwo q W (setBlock w q.b2 o') := Out.trans h (Out.grown (O := fun i => i = q.b2) (set_grown o' h0) rfl) (fun _ _ h => .inr h)
theorem STwo.size {q : Two} {W w : World} (h : STwo q W w) : W.heap.size ≤ w.heap.size := Out.size h
theorem STwo.blk {q : Two} {W w : World} (h : STwo q W w) {g : Nat} {t : TypeId} {cs : Array Value} (hk : Blk W g t cs) (h1 : g ≠ q.b1) (h2 : g ≠ q.b2) : Blk w g t cs := (Out.block h g hk.lt (by rintro (e | e) <;> contradiction)).trans hk
/-! stores into one more block, beside the second map -/
def BlkTo (g : Nat) (E : TypeId) (f : Bool → Bool → Array Value) (i k5 k6 : Nat) (w w' : World) : Prop :=
  w.grownBy w' (some g) ∧ ((i = k5 ∧ ∃ b1 b2, Blk w g E (f b1 b2) ∧ Blk w' g E (f true b2)) ∨ (i = k6 ∧ ∃ b1 b2, Blk w g E (f b1 b2) ∧ Blk w' g E (f b1 true)))
def RThree (q : Two) (g : Nat) (E : TypeId) (f : Bool → Bool → Array Value) (k3 k4 k5 k6 : Nat) (i : Nat) (w w' : World) : Prop := RTwo q 100000 100001 k3 k4 i w w' ∨ BlkTo g E f i k5 k6 w w'
def G1 (g : Nat) (E : TypeId) (f : Bool → Bool → Array Value) (l : List Value) (w : World) : Prop := ∃ b2, Blk w g E (f true b2)
def G2 (g : Nat) (E : TypeId) (f : Bool → Bool → Array Value) (l : List Value) (w : World) : Prop := ∃ b1, Blk w g E (f b1 true)
section
variable {q : Two} {B k3 k4 k5 k6 g : Nat} {E : TypeId} {f : Bool → Bool → Array Value} (h : TwoOk q B) (hg1 : g ≠ q.b1) (hg2 : g ≠ q.b2) (hf : ∀ b1 b2 c1 c2, f b1 b2 = f c1 c2 → f true b2 = f true c2 ∧ f b1 true = f c1 true)
include h hg1 hg2
theorem at_grown {w w' : World} {b : Nat} {o : Obj} (hb : w.heap[b]? = some o) (hg : w.grownBy w' (some g)) (hne : g ≠ b) : w'.heap[b]? = some o := (hg.block b (Array.getElem?_eq_some_iff.1 hb).1 (fun e => hne (Option.some.inj e).symm)).trans hb
theorem F3.stays3 : ∀ l i w w', RThree q g E f k3 k4 k5 k6 i w w' → F3 q l w → F3 q l w' := by
  rintro l i w w' (hr | ⟨hg, _⟩) hF
  · exact F3.stays h l i w w' hr hF
  · obtain ⟨o, ho, hne⟩ := hF
    exact ⟨o, at_grown h hg1 hg2 ho hg hg2, hne⟩
theorem F4.stays3 : ∀ l i w w', RThree q g E f k3 k4 k5 k6 i w w' → F4 q l w → F4 q l w' := by
  rintro l i w w' (hr | ⟨hg, _⟩) hF
  · exact F4.stays h l i w w' hr hF
  · exact at_grown h hg1 hg2 hF hg hg2
theorem blk_two {cs : Array Value} {i : Nat} {w w' : World} (hr : RTwo q 100000 100001 k3 k4 i w w') (hb : Blk w g E cs) : Blk w' g E cs := by
  rcases hr with hb' | ⟨_, h0, rfl⟩ | ⟨_, h0, x, rfl⟩ | ⟨_, h0, rfl⟩ | ⟨_, h0, rfl⟩
  · exact hb.below hb' hb.lt
  all_goals exact (set_other _ (by first | exact hg1 | exact hg2)).trans hb
include hf
theorem G1.stays : ∀ l i w w', RThree q g E f k3 k4 k5 k6 i w w' → G1 g E f l w → G1 g E f l w' := by
  rintro l i w w' (hr | ⟨hg, ⟨_, b1, b2, q1, q2⟩ | ⟨_, b1, b2, q1, q2⟩⟩) ⟨c2, hb⟩
  · exact ⟨c2, blk_two h hg1 hg2 hr hb⟩
  · exact ⟨b2, q2⟩
  · have e : f b1 b2 = f true c2 := by unfold Blk at q1 hb; rw [q1] at hb; injection hb with hb; injection hb
    rw [(hf _ _ _ _ e).2] at q2
    exact ⟨true, q2⟩
theorem G2.stays : ∀ l i w w', RThree q g E f k3 k4 k5 k6 i w w' → G2 g E f l w → G2 g E f l w' := by
  rintro l i w w' (hr | ⟨hg, ⟨_, b1, b2, q1, q2⟩ | ⟨_, b1, b2, q1, q2⟩⟩) ⟨c1, hb⟩
  · exact ⟨c1, blk_two h hg1 hg2 hr hb⟩
  · have e : f b1 b2 = f c1 true := by unfold Blk at q1 hb; rw [q1] at hb; injection hb with hb; injection hb
    rw [(hf _ _ _ _ e).1] at q2
    exact ⟨true, q2⟩
  · exact ⟨b1, q2⟩
omit hf in
theorem UThree.stays (hk : k3 < k4 ∧ k4 < 100000) : ∀ u ∈ ([(k3, fun w => w.heap[q.b2]? = some q.P0), (k4, fun w => w.heap[q.b2]? = some q.P0 ∨ w.heap[q.b2]? = some q.P1)] : List (Nat × (World → Prop))), ∀ i w w', i ≠ u.1 → RThree q g E f k3 k4 k5 k6 i w w' → u.2 w → u.2 w' := by
  intro u hu i w w' hi hR hw
  rcases hR with hR | ⟨hg, _⟩
  · simp only [List.mem_cons, List.mem_nil_iff, or_false] at hu
    rcases hu with rfl | rfl
    · rcases hR with hb | ⟨e, h0, rfl⟩ | ⟨_, h0, x, rfl⟩ | ⟨e, h0, rfl⟩ | ⟨_, h0, rfl⟩
      · exact at_below hw hb
      · exact (set_other _ h.ne.symm).trans hw
      · exact (set_other _ h.ne.symm).trans hw
      · exact absurd e hi
      · simp only at hw; rw [hw] at h0; injection h0 with h0; exact absurd h0 h.p01
    · rcases hR with hb | ⟨e, h0, rfl⟩ | ⟨e, h0, x, rfl⟩ | ⟨_, h0, rfl⟩ | ⟨e, h0, rfl⟩
      · exact hw.imp (fun h => at_below h hb) (fun h => at_below h hb)
      · exact hw.imp (fun h' => (set_other _ h.ne.symm).trans h') (fun h' => (set_other _ h.ne.symm).trans h')
      · exact hw.imp (fun h' => (set_other _ h.ne.symm).trans h') (fun h' => (set_other _ h.ne.symm).trans h')
      · exact .inr (set_at _ h0)
      · exact absurd e hi
  · simp only [List.mem_cons, List.mem_nil_iff, or_false] at hu
    rcases hu with rfl | rfl
    · exact at_grown h hg1 hg2 hw hg hg2
    · exact hw.imp (fun h' => at_grown h hg1 hg2 h' hg hg2) (fun h' => at_grown h hg1 hg2 h' hg hg2)
end
theorem RThree.refl {q : Two} {k3 k4 k5 k6 g : Nat} {E : TypeId} {f : Bool → Bool → Array Value} : ∀ i w, RThree q g E f k3 k4 k5 k6 i w w := fun i w => .inl (RTwo.refl i w)
/-- nothing turned but the second map, and the block g, which is one of four -/
def SThree (q : Two) (g : Nat) (E : TypeId) (f : Bool → Bool → Array Value) (W w : World) : Prop := Out (fun i => i = g ∨ i = q.b2) W w ∧ ∃ b1 b2, Blk w g E (f b1 b2)
theorem SThree.below {q : Two} {g : Nat} {E : TypeId} {f : Bool → Bool → Array Value} {W w w' : World} (h : SThree q g E f W w) (hb : Below w.heap.size w w') : SThree q g E f W w' :=
  ⟨Out.trans h.1 (Out.of_below (O := fun _ => False) hb) (fun _ _ h => h.elim), by obtain ⟨b1, b2, k⟩ := h.2; exact ⟨b1, b2, k.below hb k.lt⟩⟩
theorem SThree.set2 {q : Two} {g : Nat} {E : TypeId} {f : Bool → Bool → Array Value} {W w : World} {o : Obj} (o' : Obj) (h : SThree q g E f W w) (hne : g ≠ q.b2) (h0 : w.heap[q.b2]? = some o) : SThree q g E f W (setBlock w q.b2 o') :=
  ⟨Out.trans h.1 (Out.grown (O := fun i => i = q.b2) (set_grown o' h0) rfl) (fun _ _ h => .inr h), by obtain ⟨b1, b2, k⟩ := h.2; exact ⟨b1, b2, (set_other _ hne).trans k⟩⟩
theorem SThree.setG {q : Two} {g : Nat} {E : TypeId} {f : Bool → Bool → Array Value} {W w w' : World} (h : SThree q g E f W w) (hg : w.grownBy w' (some g)) {b1 b2 : Bool} (hk : Blk w' g E (f b1 b2)) : SThree q g E f W w' :=
  ⟨Out.trans h.1 (Out.grown (O := fun i => i = g) hg rfl) (fun _ _ h => .inl h), b1, b2, hk⟩
theorem SThree.blk {q : Two} {g : Nat} {E : TypeId} {f : Bool → Bool → Array Value} {W w : World} (h : SThree q g E f W w) {b : Nat} {t : TypeId} {cs : Array Value} (hk : Blk W b t cs) (h1 : b ≠ g) (h2 : b ≠ q.b2) : Blk w b t cs := (h.1.block b hk.lt (by rintro (e | e) <;> contradiction)).trans hk
end Go.Proofs.Ytlikngepcbmhdaa
