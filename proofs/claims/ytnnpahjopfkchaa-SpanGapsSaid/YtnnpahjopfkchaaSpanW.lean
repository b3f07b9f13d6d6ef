/- Steps on rows of spans of the call's own: append of one span; the last one's end set anew; a call as a step of a drawn region. -/
import Derived.Test.YtnnpahjopfkchaaSpan9
set_option linter.unusedVariables false
set_option linter.unusedSimpArgs false
namespace Go.Proofs.Ytnnpahjopfkchaa
open Go.RowKit Go.BigFrame

theorem step_call {P : Program} {ops : Array Oper} {o : Oper} {a : Act} {w : World} {K : Act → World → Prop} {Q : Exit → Act → World → Prop} {E : Prop} (hg : o.guard = none) (f : FuncId) (xs : Array Operand) (ts : Array TypeId)
    (hop : o.op = .call { callee := .value (.func f), args := xs, argTypes := ts }) (hcf : ∀ (vals : Array Value) (w : World), (callFunc f vals).run P w = .ok (.enter f vals) w) (vals : Array Value) (hv : xs.map a.eval = vals)
    {R : Ending → World → Prop} (hc : Calls P f vals w R) (hK : ∀ e w', R e w' → ∃ v, e = .returned v ∧ K (a.put o.dst v) w') :
    if Region.wanted o (yielded ops a.tmps) = true then Oper.wp P o a w K Q else E := by
  have hw : Region.wanted o (yielded ops a.tmps) = true := by simp [Region.wanted, hg]
  rw [if_pos hw]
  have he : (execOp a.eval o).run P w = .ok (.enter f vals) w := by
    simp [execOp, hop, resolve, Act.eval, Deferred.ofValue, invoke, hcf, ← hv]
  unfold Oper.wp
  rw [he, Oper.upon_enter]
  refine hc.mono fun e w' h => ?_
  obtain ⟨v, rfl, hk⟩ := hK e w' h
  exact hk
theorem spBlk_reads {W : World} {g : Nat} {y : Sp} (h : Blk W g 25 #[.int .u64 (y.1 : Int), .int .u64 (y.2 : Int)]) : Reads W (g + 1) 2 (some ⟨g, 0, none⟩) 1 (spC y) := by
  refine ⟨rfl, fun _ => ⟨_, rfl, Nat.lt_succ_self g, fun j u hu => ?_⟩⟩
  rw [add_off, Nat.zero_add]
  have := h.cell j
  rw [this]
  simpa [spC] using hu
theorem OwnL.block {base : Nat} {W : World} {v : Value} {o : List Sp} (h : OwnL base W v o) : ∀ k, v.ownBlock = some k → base ≤ k := by
  rcases h.2 with ⟨rfl, _⟩ | ⟨g, cap, cur, rfl, h1, _⟩
  · intro k hk; cases hk
  · intro k hk
    have : g = k := Option.some.inj hk
    omega
theorem ownL_app {base : Nat} {W W' W0 : World} {v v' : Value} {o : List Sp} {y : Sp} (h : OwnL base W v o) (hb : Below base W0 W) (hbase : base ≤ W.heap.size) (h2 : W'.ownsRow base 25 2 v' (o.length + 1) (o.flatMap spC ++ spC y)) (hg : W.grownBy W' v.ownBlock) :
    ∃ A c, v' = .slice A (o.length + 1) c ∧ OwnL base W' v' (o ++ [y]) ∧ Below base W0 W' := by
  have ho : OwnL base W' v' (o ++ [y]) := by
    unfold OwnL
    rw [List.length_append, List.flatMap_append]
    simpa using h2
  obtain ⟨A, c, e, _⟩ := ho.spAt
  rw [List.length_append, List.length_cons, List.length_nil, Nat.zero_add] at e
  exact ⟨A, c, e, ho, hb.grown hg hbase h.block⟩
section
variable {W0 w : World} {base : Nat}
theorem step_app1 {ops : Array Oper} {o : Oper} {a : Act} {K : Act → World → Prop} {Q : Exit → Act → World → Prop} {E : Prop} (hgd : o.guard = none) (s x : Operand)
    (ho : o.op = .call { callee := .builtin .append, args := #[s, x], argTypes := #[22, 22] })
    (v : Value) (l : List Sp) (y : Sp) (hs : a.eval s = v) (hown : OwnL base w v l) (hb : Below base W0 w) (hbase : base ≤ w.heap.size) (g : Nat) (hx : a.eval x = .slice (some ⟨g, 0, none⟩) 1 1)
    (hr : Blk w g 25 #[.int .u64 (y.1 : Int), .int .u64 (y.2 : Int)]) (hl : l.length ≤ 1000000)
    (h : ∀ A c w', OwnL base w' (.slice A (l.length + 1) c) (l ++ [y]) → Below base W0 w' → K (a.put o.dst (.slice A (l.length + 1) c)) w') :
    if Region.wanted o (yielded ops a.tmps) = true then Oper.wp Try.prog o a w K Q else E := by
  obtain ⟨i0, hi, h0, h1, h2⟩ := infoSp_parts
  refine step_append_any w hgd s x _ ho base 25 i0 _ 2 16 Try.underlying22 hi h0 h1 h2 rfl (by decide) v l.length (l.flatMap spC) hs hown (g + 1) _ 1 1 (spC y) hx (spBlk_reads hr) ?_ (by simp only [maxLen]; omega) (by omega) hbase ?_
  · intro u hu
    have := spC_one [y] u (by simpa using hu)
    exact this
  · intro v' w' h2 hg _
    obtain ⟨A, c, rfl, h3, h4⟩ := ownL_app hown hb hbase h2 hg
    exact h A c w' h3 h4
theorem wpList_app1 {ops : Array Oper} {o : Oper} {rest : List Oper} {a : Act} {Q : Exit → Act → World → Prop} (hgd : o.guard = none) (s x : Operand)
    (ho : o.op = .call { callee := .builtin .append, args := #[s, x], argTypes := #[22, 22] })
    (v : Value) (l : List Sp) (y : Sp) (hs : a.eval s = v) (hown : OwnL base w v l) (hb : Below base W0 w) (hbase : base ≤ w.heap.size) (g : Nat) (hx : a.eval x = .slice (some ⟨g, 0, none⟩) 1 1)
    (hr : Blk w g 25 #[.int .u64 (y.1 : Int), .int .u64 (y.2 : Int)]) (hl : l.length ≤ 1000000)
    (h : ∀ A c w', OwnL base w' (.slice A (l.length + 1) c) (l ++ [y]) → Below base W0 w' → wpList Try.prog ops Q rest (a.put o.dst (.slice A (l.length + 1) c)) w') :
    wpList Try.prog ops Q (o :: rest) a w := by
  obtain ⟨i0, hi, h0, h1, h2⟩ := infoSp_parts
  refine wpList_append_any w hgd s x _ ho base 25 i0 _ 2 16 Try.underlying22 hi h0 h1 h2 rfl (by decide) v l.length (l.flatMap spC) hs hown (g + 1) _ 1 1 (spC y) hx (spBlk_reads hr) ?_ (by simp only [maxLen]; omega) (by omega) hbase ?_
  · intro u hu
    have := spC_one [y] u (by simpa using hu)
    exact this
  · intro v' w' h2 hg _
    obtain ⟨A, c, rfl, h3, h4⟩ := ownL_app hown hb hbase h2 hg
    exact h A c w' h3 h4
end
theorem flat2_set (o : List Sp) (q : Sp) (m : Nat) : ((o ++ [q]).flatMap spC).set (o.length * 2 + 1) (.int .u64 (m : Int)) = (o ++ [(q.1, m)]).flatMap spC := by
  rw [List.flatMap_append, List.flatMap_append, List.set_append_right _ _ (by rw [flat2_len]; omega), flat2_len]
  congr 1
  rw [show o.length * 2 + 1 - o.length * 2 = 1 by omega]
  simp [spC]
theorem OwnL.last {base : Nat} {W : World} {g c n : Nat} {o : List Sp} {q : Sp} (hn : n = o.length + 1) (h : OwnL base W (.slice (some ⟨g, 0, none⟩) n c) (o ++ [q])) (m : Nat) :
    OwnL base (W.setCell ⟨g, o.length * 2 + 1, none⟩ (.int .u64 (m : Int))) (.slice (some ⟨g, 0, none⟩) n c) (o ++ [(q.1, m)]) ∧ W.frozen? ⟨g, o.length * 2 + 1, none⟩ = false ∧ base ≤ g ∧ g < W.heap.size := by
  have e : n = (o ++ [q]).length := by simp [hn]
  subst e
  have h1 := World.ownsRow.stored h (o.length * 2 + 1) (.int .u64 (m : Int))
  rw [flat2_set] at h1
  have hl := h.block g rfl
  refine ⟨?_, World.ownsRow.frozenAt h _, hl, ?_⟩
  · unfold OwnL
    have := h1.1
    simpa using this
  · rcases h.2 with ⟨e, _⟩ | ⟨g', cap, cur, e, h1, h2, _⟩
    · cases e
    · injection e with e1 _ _
      injection e1 with e1
      injection e1 with e1
      subst e1
      exact (Array.getElem?_eq_some_iff.1 h2).1
theorem OwnL.below {base : Nat} {W W' : World} {v : Value} {o : List Sp} (h : OwnL base W v o) (hb : Below W.heap.size W W') : OwnL base W' v o := by
  refine ⟨h.1, h.2.imp id fun ⟨g, cap, cur, e, h1, h2, h3⟩ => ⟨g, cap, cur, e, h1, ?_, h3⟩⟩
  rw [hb.block g (Array.getElem?_eq_some_iff.1 h2).1]
  exact h2
theorem OwnL.at_ {base : Nat} {W : World} {A : Option Addr} {n c : Nat} {o : List Sp} (h : OwnL base W (.slice A n c) o) : SpAt W.heap.size W A o ∧ n = o.length := by
  obtain ⟨A', c', e, hs⟩ := h.spAt
  injection e with e1 e2 e3
  subst e1
  exact ⟨hs, e2⟩
theorem OwnL.some_ {base : Nat} {W : World} {A : Option Addr} {n c : Nat} {o : List Sp} (h : OwnL base W (.slice A n c) o) (h0 : 0 < o.length) : ∃ g, A = some ⟨g, 0, none⟩ := by
  rcases h.2 with ⟨_, e⟩ | ⟨g, cap, cur, e, _⟩
  · omega
  · injection e with e1
    exact ⟨g, e1⟩
theorem OwnL.to_ {base : Nat} {W : World} {g n c : Nat} {o : List Sp} {q : Sp} (h : OwnL base W (.slice (some ⟨g, 0, none⟩) n c) (o ++ [q])) : W.cell? ⟨g, o.length * 2 + 1, none⟩ = some (.int .u64 (q.2 : Int)) := by
  obtain ⟨b, off, e, _, _, r⟩ := h.at_.1.at_ (j := o.length) (by simp)
  injection e with e
  injection e with e1 e2
  subst e1 e2
  simpa using r
theorem snoc_or (l : List Sp) : l = [] ∨ ∃ o q, l = o ++ [q] := by
  rcases List.eq_nil_or_concat l with h | ⟨o, q, h⟩
  · exact .inl h
  · exact .inr ⟨o, q, by rw [h, List.concat_eq_append]⟩
theorem blk_new_drew (W : World) (t : TypeId) (cs : Array Value) : Blk (W.alloc (.cells cs t)).drew W.heap.size t cs := Blk.new _ _ _
theorem wpList_app2 {W0 w : World} {base : Nat} {ops : Array Oper} {o : Oper} {rest : List Oper} {a : Act} {Q : Exit → Act → World → Prop} (hgd : o.guard = none) (s x : Operand)
    (ho : o.op = .call { callee := .builtin .append, args := #[s, x], argTypes := #[22, 22] })
    (v : Value) (l : List Sp) (y : Sp) (hs : a.eval s = v) (hown : OwnL base w v l) (hb : Below base W0 w) (hbase : base ≤ w.heap.size) (g : Nat) (hx : a.eval x = .slice (some ⟨g, 0, none⟩) 1 1)
    (hr : Blk w g 25 #[.int .u64 (y.1 : Int), .int .u64 (y.2 : Int)]) (hl : l.length ≤ 1000000) (gP : Nat) (t : TypeId) (cs : Array Value) (hP : Blk w gP t cs) (hne : v.ownBlock ≠ some gP)
    (h : ∀ A c w', OwnL base w' (.slice A (l.length + 1) c) (l ++ [y]) → Below base W0 w' → Blk w' gP t cs → (Value.slice A (l.length + 1) c).ownBlock ≠ some gP → wpList Try.prog ops Q rest (a.put o.dst (.slice A (l.length + 1) c)) w') :
    wpList Try.prog ops Q (o :: rest) a w := by
  obtain ⟨i0, hi, h0, h1, h2⟩ := infoSp_parts
  refine wpList_append_any w hgd s x _ ho base 25 i0 _ 2 16 Try.underlying22 hi h0 h1 h2 rfl (by decide) v l.length (l.flatMap spC) hs hown (g + 1) _ 1 1 (spC y) hx (spBlk_reads hr) ?_ (by simp only [maxLen]; omega) (by omega) hbase ?_
  · intro u hu
    have := spC_one [y] u (by simpa using hu)
    exact this
  · intro v' w' h2 hg hor
    obtain ⟨A, c, rfl, h3, h4⟩ := ownL_app hown hb hbase h2 hg
    refine h A c w' h3 h4 (hP.grown hg (fun e => hne e.symm)) ?_
    rcases hor with e | e
    · rw [e]; exact hne
    · rw [e]
      intro e2
      injection e2 with e2
      have := hP.lt
      omega
end Go.Proofs.Ytnnpahjopfkchaa
