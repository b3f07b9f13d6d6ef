/-
  No cell of these rows narrows 'for every input' (looked for: loops, veiled, ifaces, maps, wideKeys, modest, calm, conditions, laid).
  DERIVED. THE GIVEN ROWS OF THIS SEAT. 7 by the template 'for every input the law returns true; each argument reads behind the call as it read before'; 0 by the template 'total and deterministic' (their statements: YtpmcdpbolcmhgaaTotals.lean).
  GIVEN WITH THE SEED: the statements are not yours to turn. If you find one false, say at which input.
  Laid BY PROGRAM, IN A SANDBOX (cutbox-rows.mjs): the forced cells as the released guide's own fill.sh prints them over the translation b558c1c38200cd1c… (all of the seat's roots in one cut). By AI agents, Wed Nov 11 2026. No macro, syntax, notation, axiom, sorry.
-/
import Derived.Test.YtpmcdpbolcmhgaaChecked
import GoSem.Claim
import GoSem.ClaimJoined
import GoSem.ClaimMapViews
import Derived.JoinedTies
import Derived.KernelRfl
namespace Go.Proofs.Ytpmcdpbolcmhgaa
/- THE CELL 'sum', in the pinned program and in every row, IS THE sha256 OF THE DUMP (.gsa) THAT YtpmcdpbolcmhgaaProg.lean LOADS. Nothing in Lean hashes anything: it is a label: what it is worth is what the hold of that sum in a sandbox is worth. -/
noncomputable def Try.pinned : Pinned := { name := "ytpmcdpbolcmhgaa", sum := "b558c1c38200cd1cd578f9991f4a26febefd4df2952dffb7e1a3412f0c827e5d", checked := Try.checked }
namespace Rows
def none {H : Type} : Left H := { results := [], args := [] }

/-- 'transomlaw06.TcpWrites': WHATEVER THE INPUT: true; the input reads as it did. -/
def tcpWritesSpec : ChangeSpec := { name := "tcpWrites", fn := fun _ => fun
  | [d1, d2, d3, d4] => { results := [.lit (.bool true)], args := [d1, d2, d3, d4] }
  | _ => none }
def tcpWritesRow : OpenClaim := { program := "ytpmcdpbolcmhgaa", sum := "b558c1c38200cd1cd578f9991f4a26febefd4df2952dffb7e1a3412f0c827e5d", func := "transom/transomlaw06.TcpWrites", spec := "tcpWrites", unfollowed := true, recurses := true, apart := false }
def TcpWritesSaid : Prop := tcpWritesRow.holds Try.pinned (OpenSpec.ofChange tcpWritesSpec)

/-- ITS FALSE NEIGHBOUR: 'it returns false'. Refute it at one input. -/
def tcpWritesWrong : ChangeSpec := { name := "tcpWrites", fn := fun _ => fun
  | [d1, d2, d3, d4] => { results := [.lit (.bool false)], args := [d1, d2, d3, d4] }
  | _ => none }
def TcpWritesWrongFalsely : Prop := tcpWritesRow.holds Try.pinned (OpenSpec.ofChange tcpWritesWrong)

/-- 'transomlaw06.TcpReads': WHATEVER THE INPUT: true; the input reads as it did. -/
def tcpReadsSpec : ChangeSpec := { name := "tcpReads", fn := fun _ => fun
  | [d1, d2, d3] => { results := [.lit (.bool true)], args := [d1, d2, d3] }
  | _ => none }
def tcpReadsRow : OpenClaim := { program := "ytpmcdpbolcmhgaa", sum := "b558c1c38200cd1cd578f9991f4a26febefd4df2952dffb7e1a3412f0c827e5d", func := "transom/transomlaw06.TcpReads", spec := "tcpReads", unfollowed := true, recurses := true, apart := false }
def TcpReadsSaid : Prop := tcpReadsRow.holds Try.pinned (OpenSpec.ofChange tcpReadsSpec)

/-- ITS FALSE NEIGHBOUR: 'it returns false'. Refute it at one input. -/
def tcpReadsWrong : ChangeSpec := { name := "tcpReads", fn := fun _ => fun
  | [d1, d2, d3] => { results := [.lit (.bool false)], args := [d1, d2, d3] }
  | _ => none }
def TcpReadsWrongFalsely : Prop := tcpReadsRow.holds Try.pinned (OpenSpec.ofChange tcpReadsWrong)

/-- 'transomlaw06.TcpBack': WHATEVER THE INPUT: true; the input reads as it did. -/
def tcpBackSpec : ChangeSpec := { name := "tcpBack", fn := fun _ => fun
  | [d1, d2, d3, d4, d5, d6] => { results := [.lit (.bool true)], args := [d1, d2, d3, d4, d5, d6] }
  | _ => none }
def tcpBackRow : OpenClaim := { program := "ytpmcdpbolcmhgaa", sum := "b558c1c38200cd1cd578f9991f4a26febefd4df2952dffb7e1a3412f0c827e5d", func := "transom/transomlaw06.TcpBack", spec := "tcpBack", unfollowed := true, recurses := true, apart := false }
def TcpBackSaid : Prop := tcpBackRow.holds Try.pinned (OpenSpec.ofChange tcpBackSpec)

/-- ITS FALSE NEIGHBOUR: 'it returns false'. Refute it at one input. -/
def tcpBackWrong : ChangeSpec := { name := "tcpBack", fn := fun _ => fun
  | [d1, d2, d3, d4, d5, d6] => { results := [.lit (.bool false)], args := [d1, d2, d3, d4, d5, d6] }
  | _ => none }
def TcpBackWrongFalsely : Prop := tcpBackRow.holds Try.pinned (OpenSpec.ofChange tcpBackWrong)

/-- 'transomlaw06.TcpMoves': WHATEVER THE INPUT: true; the input reads as it did. -/
def tcpMovesSpec : ChangeSpec := { name := "tcpMoves", fn := fun _ => fun
  | [d1, d2, d3, d4, d5] => { results := [.lit (.bool true)], args := [d1, d2, d3, d4, d5] }
  | _ => none }
def tcpMovesRow : OpenClaim := { program := "ytpmcdpbolcmhgaa", sum := "b558c1c38200cd1cd578f9991f4a26febefd4df2952dffb7e1a3412f0c827e5d", func := "transom/transomlaw06.TcpMoves", spec := "tcpMoves", unfollowed := true, recurses := true, apart := false }
def TcpMovesSaid : Prop := tcpMovesRow.holds Try.pinned (OpenSpec.ofChange tcpMovesSpec)

/-- ITS FALSE NEIGHBOUR: 'it returns false'. Refute it at one input. -/
def tcpMovesWrong : ChangeSpec := { name := "tcpMoves", fn := fun _ => fun
  | [d1, d2, d3, d4, d5] => { results := [.lit (.bool false)], args := [d1, d2, d3, d4, d5] }
  | _ => none }
def TcpMovesWrongFalsely : Prop := tcpMovesRow.holds Try.pinned (OpenSpec.ofChange tcpMovesWrong)

/-- 'transomlaw26.ShiftWindow': WHATEVER THE INPUT: true; the input reads as it did. -/
def shiftWindowSpec : ChangeSpec := { name := "shiftWindow", fn := fun _ => fun
  | [d1, d2, d3, d4] => { results := [.lit (.bool true)], args := [d1, d2, d3, d4] }
  | _ => none }
def shiftWindowRow : OpenClaim := { program := "ytpmcdpbolcmhgaa", sum := "b558c1c38200cd1cd578f9991f4a26febefd4df2952dffb7e1a3412f0c827e5d", func := "transom/transomlaw26.ShiftWindow", spec := "shiftWindow", unfollowed := true, recurses := true, apart := false }
def ShiftWindowSaid : Prop := shiftWindowRow.holds Try.pinned (OpenSpec.ofChange shiftWindowSpec)

/-- ITS FALSE NEIGHBOUR: 'it returns false'. Refute it at one input. -/
def shiftWindowWrong : ChangeSpec := { name := "shiftWindow", fn := fun _ => fun
  | [d1, d2, d3, d4] => { results := [.lit (.bool false)], args := [d1, d2, d3, d4] }
  | _ => none }
def ShiftWindowWrongFalsely : Prop := shiftWindowRow.holds Try.pinned (OpenSpec.ofChange shiftWindowWrong)

/-- 'transomlaw26.ShiftBack': WHATEVER THE INPUT: true; the input reads as it did. -/
def shiftBackSpec : ChangeSpec := { name := "shiftBack", fn := fun _ => fun
  | [d1, d2, d3] => { results := [.lit (.bool true)], args := [d1, d2, d3] }
  | _ => none }
def shiftBackRow : OpenClaim := { program := "ytpmcdpbolcmhgaa", sum := "b558c1c38200cd1cd578f9991f4a26febefd4df2952dffb7e1a3412f0c827e5d", func := "transom/transomlaw26.ShiftBack", spec := "shiftBack", unfollowed := true, recurses := true, apart := false }
def ShiftBackSaid : Prop := shiftBackRow.holds Try.pinned (OpenSpec.ofChange shiftBackSpec)

/-- ITS FALSE NEIGHBOUR: 'it returns false'. Refute it at one input. -/
def shiftBackWrong : ChangeSpec := { name := "shiftBack", fn := fun _ => fun
  | [d1, d2, d3] => { results := [.lit (.bool false)], args := [d1, d2, d3] }
  | _ => none }
def ShiftBackWrongFalsely : Prop := shiftBackRow.holds Try.pinned (OpenSpec.ofChange shiftBackWrong)

/-- 'transomlaw26.ShiftTells': WHATEVER THE INPUT: true; the input reads as it did. -/
def shiftTellsSpec : ChangeSpec := { name := "shiftTells", fn := fun _ => fun
  | [d1, d2, d3, d4] => { results := [.lit (.bool true)], args := [d1, d2, d3, d4] }
  | _ => none }
def shiftTellsRow : OpenClaim := { program := "ytpmcdpbolcmhgaa", sum := "b558c1c38200cd1cd578f9991f4a26febefd4df2952dffb7e1a3412f0c827e5d", func := "transom/transomlaw26.ShiftTells", spec := "shiftTells", unfollowed := true, recurses := true, apart := false }
def ShiftTellsSaid : Prop := shiftTellsRow.holds Try.pinned (OpenSpec.ofChange shiftTellsSpec)

/-- ITS FALSE NEIGHBOUR: 'it returns false'. Refute it at one input. -/
def shiftTellsWrong : ChangeSpec := { name := "shiftTells", fn := fun _ => fun
  | [d1, d2, d3, d4] => { results := [.lit (.bool false)], args := [d1, d2, d3, d4] }
  | _ => none }
def ShiftTellsWrongFalsely : Prop := shiftTellsRow.holds Try.pinned (OpenSpec.ofChange shiftTellsWrong)

/- THE SECOND FORM. 'bulk': how many values and letters a reading holds, each counted each time it is reached (what is shared counts as often as it is met; a slice's spare places count too). A statement '..UptoSaid' is the law's where the arguments, and the package variables that the reading takes, are together of bulk at most 1048576: NARROWER than '..Said'. Prove '..Said' where nothing that the law and all that it calls make is longer than what came in: it says more and counts as full. Else prove '..UptoSaid'. A law counts once. -/
mutual
def uptoBulk {H : Type} : DataW H → Nat
  | .lit (.string bytes) => bytes.length + 1
  | .lit _ => 1
  | .nil => 1
  | .ptr d => uptoBulk d + 1
  | .slice elems spare => uptoBulkAll elems + uptoBulkAll spare + 1
  | .agg parts => uptoBulkAll parts + 1
  | .iface _ d => uptoBulk d + 1
  | .map entries => uptoBulkEntries entries + 1
  | .held _ => 1
def uptoBulkAll {H : Type} : List (DataW H) → Nat
  | [] => 0
  | d :: r => uptoBulk d + uptoBulkAll r
def uptoBulkEntries {H : Type} : List (Lit × DataW H) → Nat
  | [] => 0
  | x :: r => uptoBulkEntry x + uptoBulkEntries r
def uptoBulkEntry {H : Type} : Lit × DataW H → Nat
  | (.string bytes, d) => bytes.length + uptoBulk d + 1
  | (_, d) => uptoBulk d + 1
 end
def uptoSmall : (H : Type) → List (DataW H) → Bool := fun _ ds => decide (uptoBulkAll ds ≤ 1048576)
def OpenSpec.upto (s : _root_.Go.ChangeSpec) : _root_.Go.OpenSpec := { _root_.Go.OpenSpec.ofChange s with cond := some uptoSmall }

/-- 'transomlaw06.TcpWrites', WHERE WHAT IT READS IS OF BULK AT MOST 1048576: true; the input reads as it did. -/
def tcpWritesUptoRow : OpenClaim := { program := "ytpmcdpbolcmhgaa", sum := "b558c1c38200cd1cd578f9991f4a26febefd4df2952dffb7e1a3412f0c827e5d", func := "transom/transomlaw06.TcpWrites", spec := "tcpWrites", unfollowed := true, recurses := true, apart := false, narrowed := true }
def TcpWritesUptoSaid : Prop := tcpWritesUptoRow.holds Try.pinned (OpenSpec.upto tcpWritesSpec)

/-- 'transomlaw06.TcpReads', WHERE WHAT IT READS IS OF BULK AT MOST 1048576: true; the input reads as it did. -/
def tcpReadsUptoRow : OpenClaim := { program := "ytpmcdpbolcmhgaa", sum := "b558c1c38200cd1cd578f9991f4a26febefd4df2952dffb7e1a3412f0c827e5d", func := "transom/transomlaw06.TcpReads", spec := "tcpReads", unfollowed := true, recurses := true, apart := false, narrowed := true }
def TcpReadsUptoSaid : Prop := tcpReadsUptoRow.holds Try.pinned (OpenSpec.upto tcpReadsSpec)

/-- 'transomlaw06.TcpBack', WHERE WHAT IT READS IS OF BULK AT MOST 1048576: true; the input reads as it did. -/
def tcpBackUptoRow : OpenClaim := { program := "ytpmcdpbolcmhgaa", sum := "b558c1c38200cd1cd578f9991f4a26febefd4df2952dffb7e1a3412f0c827e5d", func := "transom/transomlaw06.TcpBack", spec := "tcpBack", unfollowed := true, recurses := true, apart := false, narrowed := true }
def TcpBackUptoSaid : Prop := tcpBackUptoRow.holds Try.pinned (OpenSpec.upto tcpBackSpec)

/-- 'transomlaw06.TcpMoves', WHERE WHAT IT READS IS OF BULK AT MOST 1048576: true; the input reads as it did. -/
def tcpMovesUptoRow : OpenClaim := { program := "ytpmcdpbolcmhgaa", sum := "b558c1c38200cd1cd578f9991f4a26febefd4df2952dffb7e1a3412f0c827e5d", func := "transom/transomlaw06.TcpMoves", spec := "tcpMoves", unfollowed := true, recurses := true, apart := false, narrowed := true }
def TcpMovesUptoSaid : Prop := tcpMovesUptoRow.holds Try.pinned (OpenSpec.upto tcpMovesSpec)

/-- 'transomlaw26.ShiftWindow', WHERE WHAT IT READS IS OF BULK AT MOST 1048576: true; the input reads as it did. -/
def shiftWindowUptoRow : OpenClaim := { program := "ytpmcdpbolcmhgaa", sum := "b558c1c38200cd1cd578f9991f4a26febefd4df2952dffb7e1a3412f0c827e5d", func := "transom/transomlaw26.ShiftWindow", spec := "shiftWindow", unfollowed := true, recurses := true, apart := false, narrowed := true }
def ShiftWindowUptoSaid : Prop := shiftWindowUptoRow.holds Try.pinned (OpenSpec.upto shiftWindowSpec)

/-- 'transomlaw26.ShiftBack', WHERE WHAT IT READS IS OF BULK AT MOST 1048576: true; the input reads as it did. -/
def shiftBackUptoRow : OpenClaim := { program := "ytpmcdpbolcmhgaa", sum := "b558c1c38200cd1cd578f9991f4a26febefd4df2952dffb7e1a3412f0c827e5d", func := "transom/transomlaw26.ShiftBack", spec := "shiftBack", unfollowed := true, recurses := true, apart := false, narrowed := true }
def ShiftBackUptoSaid : Prop := shiftBackUptoRow.holds Try.pinned (OpenSpec.upto shiftBackSpec)

/-- 'transomlaw26.ShiftTells', WHERE WHAT IT READS IS OF BULK AT MOST 1048576: true; the input reads as it did. -/
def shiftTellsUptoRow : OpenClaim := { program := "ytpmcdpbolcmhgaa", sum := "b558c1c38200cd1cd578f9991f4a26febefd4df2952dffb7e1a3412f0c827e5d", func := "transom/transomlaw26.ShiftTells", spec := "shiftTells", unfollowed := true, recurses := true, apart := false, narrowed := true }
def ShiftTellsUptoSaid : Prop := shiftTellsUptoRow.holds Try.pinned (OpenSpec.upto shiftTellsSpec)

end Rows
end Go.Proofs.Ytpmcdpbolcmhgaa
