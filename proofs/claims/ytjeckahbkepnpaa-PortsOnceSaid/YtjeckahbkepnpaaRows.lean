/-
  No cell of these rows narrows 'for every input' (looked for: loops, veiled, ifaces, maps, wideKeys, modest, calm, conditions, laid).
  DERIVED. THE GIVEN ROWS OF THIS SEAT. 2 by the template 'for every input the law returns true; each argument reads behind the call as it read before'; 0 by the template 'total and deterministic' (their statements: YtjeckahbkepnpaaTotals.lean).
  GIVEN WITH THE SEED: the statements are not yours to turn. If you find one false, say at which input.
  Laid BY PROGRAM, IN A SANDBOX (cutbox-rows.mjs): the forced cells as the released guide's own fill.sh prints them over the translation f1c3c5da8d94b266… (all of the seat's roots in one cut). By AI agents, Wed Nov 11 2026. No macro, syntax, notation, axiom, sorry.
-/
import Derived.Test.YtjeckahbkepnpaaChecked
import GoSem.Claim
import GoSem.ClaimJoined
import GoSem.ClaimMapViews
import Derived.JoinedTies
import Derived.KernelRfl
namespace Go.Proofs.Ytjeckahbkepnpaa
/- THE CELL 'sum', in the pinned program and in every row, IS THE sha256 OF THE DUMP (.gsa) THAT YtjeckahbkepnpaaProg.lean LOADS. Nothing in Lean hashes anything: it is a label: what it is worth is what the hold of that sum in a sandbox is worth. -/
noncomputable def Try.pinned : Pinned := { name := "ytjeckahbkepnpaa", sum := "f1c3c5da8d94b2664ac7cde3e298bbc7527965c6e8451eaa19fbfb4acefa6625", checked := Try.checked }
namespace Rows
def none {H : Type} : Left H := { results := [], args := [] }

/-- 'transomlaw11.PortsOnce': WHATEVER THE INPUT: true; the input reads as it did. -/
def portsOnceSpec : ChangeSpec := { name := "portsOnce", fn := fun _ => fun
  | [d1, d2, d3] => { results := [.lit (.bool true)], args := [d1, d2, d3] }
  | _ => none }
def portsOnceRow : OpenClaim := { program := "ytjeckahbkepnpaa", sum := "f1c3c5da8d94b2664ac7cde3e298bbc7527965c6e8451eaa19fbfb4acefa6625", func := "transom/transomlaw11.PortsOnce", spec := "portsOnce", unfollowed := true, recurses := true, apart := false }
def PortsOnceSaid : Prop := portsOnceRow.holds Try.pinned (OpenSpec.ofChange portsOnceSpec)

/-- ITS FALSE NEIGHBOUR: 'it returns false'. Refute it at one input. -/
def portsOnceWrong : ChangeSpec := { name := "portsOnce", fn := fun _ => fun
  | [d1, d2, d3] => { results := [.lit (.bool false)], args := [d1, d2, d3] }
  | _ => none }
def PortsOnceWrongFalsely : Prop := portsOnceRow.holds Try.pinned (OpenSpec.ofChange portsOnceWrong)

/-- 'transomlaw11.PortsRound': WHATEVER THE INPUT: true; the input reads as it did. -/
def portsRoundSpec : ChangeSpec := { name := "portsRound", fn := fun _ => fun
  | [d1, d2] => { results := [.lit (.bool true)], args := [d1, d2] }
  | _ => none }
def portsRoundRow : OpenClaim := { program := "ytjeckahbkepnpaa", sum := "f1c3c5da8d94b2664ac7cde3e298bbc7527965c6e8451eaa19fbfb4acefa6625", func := "transom/transomlaw11.PortsRound", spec := "portsRound", unfollowed := true, recurses := true, apart := false }
def PortsRoundSaid : Prop := portsRoundRow.holds Try.pinned (OpenSpec.ofChange portsRoundSpec)

/-- ITS FALSE NEIGHBOUR: 'it returns false'. Refute it at one input. -/
def portsRoundWrong : ChangeSpec := { name := "portsRound", fn := fun _ => fun
  | [d1, d2] => { results := [.lit (.bool false)], args := [d1, d2] }
  | _ => none }
def PortsRoundWrongFalsely : Prop := portsRoundRow.holds Try.pinned (OpenSpec.ofChange portsRoundWrong)

/- THE SECOND FORM. 'bulk': how many values and letters a reading holds, each counted each time it is reached (what is shared counts as often as it is met; a slice's spare places count too). A statement '..UptoSaid' is the law's where the arguments, and the package variables that the reading takes, are together of bulk at most 1048576: NARROWER than '..Said'. Prove '..Said' where nothing that the law and all that it calls make is longer than what came in: it says more and counts as full. Else prove '..UptoSaid'. A law counts once. -/
mutual
def uptoBulk {H : Type} : DataW H → Nat
  | .lit (.string bytes) => bytes.length + 1
  | .lit _ => 1
  | .nil => 1
  | .ptr d => uptoBulk d + 1
  | .slice elems spare => uptoBulkAll elems + uptoBulkAll spare + 1
  | .agg parts => uptoBulkAll parts + 1
  | .iface _ d => uptoBulk d + 1
  | .map entries => uptoBulkEntries entries + 1
  | .held _ => 1
def uptoBulkAll {H : Type} : List (DataW H) → Nat
  | [] => 0
  | d :: r => uptoBulk d + uptoBulkAll r
def uptoBulkEntries {H : Type} : List (Lit × DataW H) → Nat
  | [] => 0
  | x :: r => uptoBulkEntry x + uptoBulkEntries r
def uptoBulkEntry {H : Type} : Lit × DataW H → Nat
  | (.string bytes, d) => bytes.length + uptoBulk d + 1
  | (_, d) => uptoBulk d + 1
 end
def uptoSmall : (H : Type) → List (DataW H) → Bool := fun _ ds => decide (uptoBulkAll ds ≤ 1048576)
def OpenSpec.upto (s : _root_.Go.ChangeSpec) : _root_.Go.OpenSpec := { _root_.Go.OpenSpec.ofChange s with cond := some uptoSmall }

/-- 'transomlaw11.PortsOnce', WHERE WHAT IT READS IS OF BULK AT MOST 1048576: true; the input reads as it did. -/
def portsOnceUptoRow : OpenClaim := { program := "ytjeckahbkepnpaa", sum := "f1c3c5da8d94b2664ac7cde3e298bbc7527965c6e8451eaa19fbfb4acefa6625", func := "transom/transomlaw11.PortsOnce", spec := "portsOnce", unfollowed := true, recurses := true, apart := false, narrowed := true }
def PortsOnceUptoSaid : Prop := portsOnceUptoRow.holds Try.pinned (OpenSpec.upto portsOnceSpec)

/-- 'transomlaw11.PortsRound', WHERE WHAT IT READS IS OF BULK AT MOST 1048576: true; the input reads as it did. -/
def portsRoundUptoRow : OpenClaim := { program := "ytjeckahbkepnpaa", sum := "f1c3c5da8d94b2664ac7cde3e298bbc7527965c6e8451eaa19fbfb4acefa6625", func := "transom/transomlaw11.PortsRound", spec := "portsRound", unfollowed := true, recurses := true, apart := false, narrowed := true }
def PortsRoundUptoSaid : Prop := portsRoundUptoRow.holds Try.pinned (OpenSpec.upto portsRoundSpec)

end Rows
end Go.Proofs.Ytjeckahbkepnpaa
