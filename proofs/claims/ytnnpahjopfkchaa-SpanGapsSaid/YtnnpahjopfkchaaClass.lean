/- A region that draws its order, whose operations and calls keep a class of worlds and yield one value in each of them: one walk in the order of the text. -/
import Derived.Test.YtnnpahjopfkchaaWords
import Derived.BigQuiet
set_option linter.unusedVariables false
set_option linter.unusedSimpArgs false
namespace Go.Proofs.Ytnnpahjopfkchaa
open Go.RowKit

/-- a world of the class S -/
structure Cls (S : World → Prop) where
  w : World
  h : S w
theorem cls_out {S : World → Prop} {w' : World} (h : ∃ x : Cls S, w' = x.w) : S w' := by
  obtain ⟨x, rfl⟩ := h
  exact x.h
theorem wp_region_class (S : World → Prop) {P : Program} {id : Nat} {Q : Exit → Act → World → Prop} {a : Act} {w : World} {l : List Oper} (hm : P.follows .mixedOrders = true) (hB : Region.lexB .any l.toArray = true) (hS : S w.drew)
    (h : wpQuiet P l.toArray (fun w' => ∃ x : Cls S, w' = x.w) (fun a' => ∀ w', (∃ x : Cls S, w' = x.w) → Q .normal a' w') l a) : (Code.region id l.toArray true).wp P Q a w :=
  wp_region_quiet (C := fun w' => ∃ x : Cls S, w' = x.w) hm hB ⟨⟨_, hS⟩, rfl⟩ (by simpa using h)
theorem cls_call {S : World → Prop} (hS : ∀ W W', S W → Below W.heap.size W W' → S W') {P : Program} {f : FuncId} {args : Array Value} {v : Value} (x : Cls S)
    (h : Calls P f args x.w fun e w' => e = .returned v ∧ Below x.w.heap.size x.w w') : Calls P f args x.w fun e w'' => e = .returned v ∧ ∃ y : Cls S, w'' = y.w :=
  h.mono fun e w' ⟨he, hb⟩ => ⟨he, ⟨w', hS _ _ x.h hb⟩, rfl⟩
theorem cls_same {S : World → Prop} {P : Program} {f : FuncId} {args : Array Value} {v : Value} (x : Cls S)
    (h : Calls P f args x.w fun e w' => e = .returned v ∧ x.w = w') : Calls P f args x.w fun e w'' => e = .returned v ∧ ∃ y : Cls S, w'' = y.w :=
  h.mono fun e w' ⟨he, hb⟩ => ⟨he, x, hb.symm⟩
end Go.Proofs.Ytnnpahjopfkchaa
