/- Contracts of layer 3 (sum) over a slice that is written out. -/
import Derived.Test.YtpmcdpbolcmhgaaSumOf
set_option linter.unusedVariables false
set_option linter.unusedSimpArgs false
namespace Go.Proofs.Ytpmcdpbolcmhgaa
open Go.RowKit Go.Shelf

theorem Blk.newB (w : World) (o : Obj) (t : TypeId) (cs : Array Value) : Blk ((w.alloc o).alloc (.cells cs t)) (w.heap.size + 1) t cs := by
  have := Blk.new (w.alloc o) t cs
  rwa [World.size_alloc] at this
theorem of_lit (ss : List ByteArray) (v : Int) (hv : ((ofL (catS ss) : Nat) : Int) = v) (hz : ∀ s ∈ ss, s.size ≤ maxLen) (g n m : Nat) (W : World) (hn : ss.length = n) (hm : n ≤ 9223372036854775807) (hb : Blk W g 9 (ss.map Value.string).toArray) :
    Calls Try.prog 27 #[.slice (some ⟨g, 0, none⟩) n m] W fun e w' => e = .returned (.int .u16 v) ∧ Below W.heap.size W w' := by
  subst hv
  exact of_any _ n m ss hn hm hz W (Reads.of_blk hb hb.lt _ (by simp) _ (by simp [hn]))
theorem right_lit (ss : List ByteArray) (v : Bool) (hv : ((ofL (catS ss) : Int) == 0) = v) (hz : ∀ s ∈ ss, s.size ≤ maxLen) (g n m : Nat) (W : World) (hn : ss.length = n) (hm : n ≤ 9223372036854775807) (hb : Blk W g 9 (ss.map Value.string).toArray) :
    Calls Try.prog 31 #[.slice (some ⟨g, 0, none⟩) n m] W fun e w' => e = .returned (.bool v) ∧ Below W.heap.size W w' := by
  subst hv
  exact right_any _ n m ss hn hm hz W (Reads.of_blk hb hb.lt _ (by simp) _ (by simp [hn]))
theorem of_nil (W : World) : Calls Try.prog 27 #[.slice none 0 0] W fun e w' => e = .returned (.int .u16 65535) ∧ Below W.heap.size W w' :=
  of_any none 0 0 [] rfl (by omega) (by simp) W (Reads.none_)

end Go.Proofs.Ytpmcdpbolcmhgaa
