/- A region that draws its order, inside a round of a range over a function: what holds outside holds there. -/
import Derived.Test.YtimepplfaaddeaaFlowUA
import Derived.OrdersIn
import Derived.RangeFuncCalls
set_option linter.unusedVariables false
set_option linter.unusedSimpArgs false
namespace Go.Proofs.Ytimepplfaaddeaa
open Go.RowKit

def noDefer (o : Oper) : Bool := match o.op with
  | .defer _ => false
  | _ => true
theorem noDefer_spec {o : Oper} (h : noDefer o = true) : ∀ c, o.op ≠ .defer c := by
  intro c e
  unfold noDefer at h
  rw [e] at h
  cases h
theorem rowsIn_round {n l : Nat} {P : Program} {row : String} {args : Array Value} {w : World} {R : Value → World → Prop} (h : Rows P row args w R) : RowsIn (Fence.wide.inRound l) n P row args w R := by
  intro c cs _
  obtain ⟨v, w', r, s⟩ := h c cs
  exact ⟨v, w', r, stepsIn_wide.2 s⟩
theorem op_inRound {P : Program} {o : Oper} {a : Act} {w : World} {K : Act → World → Prop} {Q : Exit → Act → World → Prop} {n l : Nat} (hd : noDefer o = true) (h : o.wp P a w K Q) : o.wpIn (Fence.wide.inRound l) n P a w K Q := by
  unfold Oper.wpIn
  refine ⟨fun f _ => trivial, ?_⟩
  rw [Oper.semAt_eq _ _ _ (noDefer_spec hd)]
  unfold Oper.wp at h
  generalize (execOp a.eval o).run P w = r at *
  cases r with
  | ok x w' =>
    cases x <;> simp only [Oper.upon, Oper.uponIn] at h ⊢
    case value => exact h
    case skip => exact h
    case defer => exact h
    case enter f args => exact ⟨(fun hh => Bool.noConfusion hh), CallsIn.inRound l (callsIn_wide.2 h)⟩
    case row => exact ⟨(fun hh => Bool.noConfusion hh), rowsIn_round h⟩
  | halt x w' => cases x <;> simp only [Oper.upon, Oper.uponIn] at h ⊢ <;> exact h
theorem any_inRound {P : Program} {md : Region.Mode} {ops : Array Oper} {Q : Exit → Act → World → Prop} {n l : Nat} (hQ : ¬ LetsOut Q) (hd : ops.toList.all noDefer = true) :
    ∀ (fuel : Nat) (listed : Array Bool) (a : Act) (w : World), wpAny P md ops Q fuel listed a w → wpAnyIn (Fence.wide.inRound l) n P md ops Q fuel listed a w := by
  intro fuel
  induction fuel with
  | zero => intro listed a w h; exact h
  | succ fuel ih =>
    intro listed a w ⟨h1, h2⟩
    refine ⟨h1, fun i hi => ?_⟩
    have h3 := h2 i hi
    unfold wpOp at h3
    unfold wpOpIn
    cases ho : ops[i]? with
    | none => simp only [ho] at h3 ⊢; exact ih _ _ _ h3
    | some o =>
      simp only [ho] at h3 ⊢
      have hdo : noDefer o = true := by
        rw [List.all_eq_true] at hd
        exact hd o (by simpa using Array.mem_of_getElem? ho)
      split
      · rename_i hw
        rw [if_pos hw] at h3
        exact Oper.wpIn_mono (fun a w => ih _ _ _) (op_inRound hdo (h3.resolve_right fun h => hQ h.2))
      · rename_i hw
        rw [if_neg hw] at h3
        exact ⟨fun f _ => trivial, ih _ _ _ h3⟩
theorem wpIn_region_flow (m : Nat) (S : World → Prop) (R : World → World → Prop) {P : Program} {id n l : Nat} {Q : Exit → Act → World → Prop} {a : Act} {w : World} {ops : List Oper} (hm : P.follows .mixedOrders = true) (hQ : ¬ LetsOut Q) (hd : ops.all noDefer = true) (hB : flowB ops.toArray a.tmps.size = true) (hLast : restB ops.toArray m = true) (hRr : ∀ w, R w w) (hS : S w.drew)
    (h : wpW P ops.toArray S R (fun T N b => ∀ w' f, S w' → (∀ F ∈ N, F.says (F.dep.map f) w') → wpList P ops.toArray Q (ops.drop m) (fillW T f b) w') 0 (ops.take m) [] [] a) : (Code.region id ops.toArray true).wpIn (Fence.wide.inRound l) n P Q a w :=
  wpIn_region_any hm (any_inRound hQ (by simpa using hd) _ _ _ _ (any_flow m S R hm hB hLast hRr hS h))
theorem wpIn_region_flowu (m : Nat) (S : World → Prop) (R : Nat → World → World → Prop) (U : List (Nat × (World → Prop))) {P : Program} {id n l : Nat} {Q : Exit → Act → World → Prop} {a : Act} {w : World} {ops : List Oper} (hm : P.follows .mixedOrders = true) (hQ : ¬ LetsOut Q) (hd : ops.all noDefer = true) (hB : flowB ops.toArray a.tmps.size = true) (hLast : restB ops.toArray m = true) (hRr : ∀ i w, R i w w) (hUs : ∀ q ∈ U, ∀ i w w', i ≠ q.1 → R i w w' → q.2 w → q.2 w') (hU0 : ∀ q ∈ U, q.2 w.drew) (hS : S w.drew)
    (h : wpU P ops.toArray S R U (fun T N b => ∀ w' f, S w' → (∀ F ∈ N, F.says (F.dep.map f) w') → wpList P ops.toArray Q (ops.drop m) (fillW T f b) w') 0 (ops.take m) [] [] a) : (Code.region id ops.toArray true).wpIn (Fence.wide.inRound l) n P Q a w :=
  wpIn_region_any hm (any_inRound hQ (by simpa using hd) _ _ _ _ (any_flowu m S R U hm hB hLast hRr hUs hU0 hS h))
end Go.Proofs.Ytimepplfaaddeaa
