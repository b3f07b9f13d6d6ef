/-
  No cell of these rows narrows 'for every input' (looked for: loops, veiled, ifaces, maps, wideKeys, modest, calm, conditions, laid).
  DERIVED. THE GIVEN ROWS OF THIS SEAT. 8 by the template 'for every input the law returns true; each argument reads behind the call as it read before'; 0 by the template 'total and deterministic' (their statements: YtbfmgdcnpefciaaTotals.lean).
  GIVEN WITH THE SEED: the statements are not yours to turn. If you find one false, say at which input.
  Laid BY PROGRAM, IN A SANDBOX (cutbox-rows.mjs): the forced cells as the released guide's own fill.sh prints them over the translation ec0a829982b88f4d… (all of the seat's roots in one cut). By AI agents, Wed Nov 11 2026. No macro, syntax, notation, axiom, sorry.
-/
import Derived.Test.YtbfmgdcnpefciaaChecked
import GoSem.Claim
import GoSem.ClaimJoined
import GoSem.ClaimMapViews
import Derived.JoinedTies
import Derived.KernelRfl
namespace Go.Proofs.Ytbfmgdcnpefciaa
/- THE CELL 'sum', in the pinned program and in every row, IS THE sha256 OF THE DUMP (.gsa) THAT YtbfmgdcnpefciaaProg.lean LOADS. Nothing in Lean hashes anything: it is a label: what it is worth is what the hold of that sum in a sandbox is worth. -/
noncomputable def Try.pinned : Pinned := { name := "ytbfmgdcnpefciaa", sum := "ec0a829982b88f4d9b265bd6341bdf18d916a4b65f8301e8784310fe81ec916d", checked := Try.checked }
namespace Rows
def none {H : Type} : Left H := { results := [], args := [] }

/-- 'transomlaw15.BufPlays': WHATEVER THE INPUT: true; the input reads as it did. -/
def bufPlaysSpec : ChangeSpec := { name := "bufPlays", fn := fun _ => fun
  | [d1, d2, d3] => { results := [.lit (.bool true)], args := [d1, d2, d3] }
  | _ => none }
def bufPlaysRow : OpenClaim := { program := "ytbfmgdcnpefciaa", sum := "ec0a829982b88f4d9b265bd6341bdf18d916a4b65f8301e8784310fe81ec916d", func := "transom/transomlaw15.BufPlays", spec := "bufPlays", apart := false }
def BufPlaysSaid : Prop := bufPlaysRow.holds Try.pinned (OpenSpec.ofChange bufPlaysSpec)

/-- ITS FALSE NEIGHBOUR: 'it returns false'. Refute it at one input. -/
def bufPlaysWrong : ChangeSpec := { name := "bufPlays", fn := fun _ => fun
  | [d1, d2, d3] => { results := [.lit (.bool false)], args := [d1, d2, d3] }
  | _ => none }
def BufPlaysWrongFalsely : Prop := bufPlaysRow.holds Try.pinned (OpenSpec.ofChange bufPlaysWrong)

/-- 'transomlaw15.BufStream': WHATEVER THE INPUT: true; the input reads as it did. -/
def bufStreamSpec : ChangeSpec := { name := "bufStream", fn := fun _ => fun
  | [d1, d2, d3] => { results := [.lit (.bool true)], args := [d1, d2, d3] }
  | _ => none }
def bufStreamRow : OpenClaim := { program := "ytbfmgdcnpefciaa", sum := "ec0a829982b88f4d9b265bd6341bdf18d916a4b65f8301e8784310fe81ec916d", func := "transom/transomlaw15.BufStream", spec := "bufStream", apart := false }
def BufStreamSaid : Prop := bufStreamRow.holds Try.pinned (OpenSpec.ofChange bufStreamSpec)

/-- ITS FALSE NEIGHBOUR: 'it returns false'. Refute it at one input. -/
def bufStreamWrong : ChangeSpec := { name := "bufStream", fn := fun _ => fun
  | [d1, d2, d3] => { results := [.lit (.bool false)], args := [d1, d2, d3] }
  | _ => none }
def BufStreamWrongFalsely : Prop := bufStreamRow.holds Try.pinned (OpenSpec.ofChange bufStreamWrong)

/-- 'transomlaw15.BufPieces': WHATEVER THE INPUT: true; the input reads as it did. -/
def bufPiecesSpec : ChangeSpec := { name := "bufPieces", fn := fun _ => fun
  | [d1, d2, d3, d4] => { results := [.lit (.bool true)], args := [d1, d2, d3, d4] }
  | _ => none }
def bufPiecesRow : OpenClaim := { program := "ytbfmgdcnpefciaa", sum := "ec0a829982b88f4d9b265bd6341bdf18d916a4b65f8301e8784310fe81ec916d", func := "transom/transomlaw15.BufPieces", spec := "bufPieces", apart := false }
def BufPiecesSaid : Prop := bufPiecesRow.holds Try.pinned (OpenSpec.ofChange bufPiecesSpec)

/-- ITS FALSE NEIGHBOUR: 'it returns false'. Refute it at one input. -/
def bufPiecesWrong : ChangeSpec := { name := "bufPieces", fn := fun _ => fun
  | [d1, d2, d3, d4] => { results := [.lit (.bool false)], args := [d1, d2, d3, d4] }
  | _ => none }
def BufPiecesWrongFalsely : Prop := bufPiecesRow.holds Try.pinned (OpenSpec.ofChange bufPiecesWrong)

/-- 'transomlaw15.BufParts': WHATEVER THE INPUT: true; the input reads as it did. -/
def bufPartsSpec : ChangeSpec := { name := "bufParts", fn := fun _ => fun
  | [d1, d2, d3] => { results := [.lit (.bool true)], args := [d1, d2, d3] }
  | _ => none }
def bufPartsRow : OpenClaim := { program := "ytbfmgdcnpefciaa", sum := "ec0a829982b88f4d9b265bd6341bdf18d916a4b65f8301e8784310fe81ec916d", func := "transom/transomlaw15.BufParts", spec := "bufParts", apart := false }
def BufPartsSaid : Prop := bufPartsRow.holds Try.pinned (OpenSpec.ofChange bufPartsSpec)

/-- ITS FALSE NEIGHBOUR: 'it returns false'. Refute it at one input. -/
def bufPartsWrong : ChangeSpec := { name := "bufParts", fn := fun _ => fun
  | [d1, d2, d3] => { results := [.lit (.bool false)], args := [d1, d2, d3] }
  | _ => none }
def BufPartsWrongFalsely : Prop := bufPartsRow.holds Try.pinned (OpenSpec.ofChange bufPartsWrong)

/-- 'transomlaw05.IpWrites': WHATEVER THE INPUT: true; the input reads as it did. -/
def ipWritesSpec : ChangeSpec := { name := "ipWrites", fn := fun _ => fun
  | [d1, d2] => { results := [.lit (.bool true)], args := [d1, d2] }
  | _ => none }
def ipWritesRow : OpenClaim := { program := "ytbfmgdcnpefciaa", sum := "ec0a829982b88f4d9b265bd6341bdf18d916a4b65f8301e8784310fe81ec916d", func := "transom/transomlaw05.IpWrites", spec := "ipWrites", unfollowed := true, recurses := true, apart := false }
def IpWritesSaid : Prop := ipWritesRow.holds Try.pinned (OpenSpec.ofChange ipWritesSpec)

/-- ITS FALSE NEIGHBOUR: 'it returns false'. Refute it at one input. -/
def ipWritesWrong : ChangeSpec := { name := "ipWrites", fn := fun _ => fun
  | [d1, d2] => { results := [.lit (.bool false)], args := [d1, d2] }
  | _ => none }
def IpWritesWrongFalsely : Prop := ipWritesRow.holds Try.pinned (OpenSpec.ofChange ipWritesWrong)

/-- 'transomlaw05.IpReads': WHATEVER THE INPUT: true; the input reads as it did. -/
def ipReadsSpec : ChangeSpec := { name := "ipReads", fn := fun _ => fun
  | [d] => { results := [.lit (.bool true)], args := [d] }
  | _ => none }
def ipReadsRow : OpenClaim := { program := "ytbfmgdcnpefciaa", sum := "ec0a829982b88f4d9b265bd6341bdf18d916a4b65f8301e8784310fe81ec916d", func := "transom/transomlaw05.IpReads", spec := "ipReads", unfollowed := true, recurses := true, apart := false }
def IpReadsSaid : Prop := ipReadsRow.holds Try.pinned (OpenSpec.ofChange ipReadsSpec)

/-- ITS FALSE NEIGHBOUR: 'it returns false'. Refute it at one input. -/
def ipReadsWrong : ChangeSpec := { name := "ipReads", fn := fun _ => fun
  | [d] => { results := [.lit (.bool false)], args := [d] }
  | _ => none }
def IpReadsWrongFalsely : Prop := ipReadsRow.holds Try.pinned (OpenSpec.ofChange ipReadsWrong)

/-- 'transomlaw05.IpBack': WHATEVER THE INPUT: true; the input reads as it did. -/
def ipBackSpec : ChangeSpec := { name := "ipBack", fn := fun _ => fun
  | [d1, d2, d3, d4] => { results := [.lit (.bool true)], args := [d1, d2, d3, d4] }
  | _ => none }
def ipBackRow : OpenClaim := { program := "ytbfmgdcnpefciaa", sum := "ec0a829982b88f4d9b265bd6341bdf18d916a4b65f8301e8784310fe81ec916d", func := "transom/transomlaw05.IpBack", spec := "ipBack", unfollowed := true, recurses := true, apart := false }
def IpBackSaid : Prop := ipBackRow.holds Try.pinned (OpenSpec.ofChange ipBackSpec)

/-- ITS FALSE NEIGHBOUR: 'it returns false'. Refute it at one input. -/
def ipBackWrong : ChangeSpec := { name := "ipBack", fn := fun _ => fun
  | [d1, d2, d3, d4] => { results := [.lit (.bool false)], args := [d1, d2, d3, d4] }
  | _ => none }
def IpBackWrongFalsely : Prop := ipBackRow.holds Try.pinned (OpenSpec.ofChange ipBackWrong)

/-- 'transomlaw05.IpApart': WHATEVER THE INPUT: true; the input reads as it did. -/
def ipApartSpec : ChangeSpec := { name := "ipApart", fn := fun _ => fun
  | [d1, d2, d3, d4] => { results := [.lit (.bool true)], args := [d1, d2, d3, d4] }
  | _ => none }
def ipApartRow : OpenClaim := { program := "ytbfmgdcnpefciaa", sum := "ec0a829982b88f4d9b265bd6341bdf18d916a4b65f8301e8784310fe81ec916d", func := "transom/transomlaw05.IpApart", spec := "ipApart", unfollowed := true, recurses := true, apart := false }
def IpApartSaid : Prop := ipApartRow.holds Try.pinned (OpenSpec.ofChange ipApartSpec)

/-- ITS FALSE NEIGHBOUR: 'it returns false'. Refute it at one input. -/
def ipApartWrong : ChangeSpec := { name := "ipApart", fn := fun _ => fun
  | [d1, d2, d3, d4] => { results := [.lit (.bool false)], args := [d1, d2, d3, d4] }
  | _ => none }
def IpApartWrongFalsely : Prop := ipApartRow.holds Try.pinned (OpenSpec.ofChange ipApartWrong)

/- THE SECOND FORM. 'bulk': how many values and letters a reading holds, each counted each time it is reached (what is shared counts as often as it is met; a slice's spare places count too). A statement '..UptoSaid' is the law's where the arguments, and the package variables that the reading takes, are together of bulk at most 1048576: NARROWER than '..Said'. Prove '..Said' where nothing that the law and all that it calls make is longer than what came in: it says more and counts as full. Else prove '..UptoSaid'. A law counts once. -/
mutual
def uptoBulk {H : Type} : DataW H → Nat
  | .lit (.string bytes) => bytes.length + 1
  | .lit _ => 1
  | .nil => 1
  | .ptr d => uptoBulk d + 1
  | .slice elems spare => uptoBulkAll elems + uptoBulkAll spare + 1
  | .agg parts => uptoBulkAll parts + 1
  | .iface _ d => uptoBulk d + 1
  | .map entries => uptoBulkEntries entries + 1
  | .held _ => 1
def uptoBulkAll {H : Type} : List (DataW H) → Nat
  | [] => 0
  | d :: r => uptoBulk d + uptoBulkAll r
def uptoBulkEntries {H : Type} : List (Lit × DataW H) → Nat
  | [] => 0
  | x :: r => uptoBulkEntry x + uptoBulkEntries r
def uptoBulkEntry {H : Type} : Lit × DataW H → Nat
  | (.string bytes, d) => bytes.length + uptoBulk d + 1
  | (_, d) => uptoBulk d + 1
 end
def uptoSmall : (H : Type) → List (DataW H) → Bool := fun _ ds => decide (uptoBulkAll ds ≤ 1048576)
def OpenSpec.upto (s : _root_.Go.ChangeSpec) : _root_.Go.OpenSpec := { _root_.Go.OpenSpec.ofChange s with cond := some uptoSmall }

/-- 'transomlaw15.BufPlays', WHERE WHAT IT READS IS OF BULK AT MOST 1048576: true; the input reads as it did. -/
def bufPlaysUptoRow : OpenClaim := { program := "ytbfmgdcnpefciaa", sum := "ec0a829982b88f4d9b265bd6341bdf18d916a4b65f8301e8784310fe81ec916d", func := "transom/transomlaw15.BufPlays", spec := "bufPlays", apart := false, narrowed := true }
def BufPlaysUptoSaid : Prop := bufPlaysUptoRow.holds Try.pinned (OpenSpec.upto bufPlaysSpec)

/-- 'transomlaw15.BufStream', WHERE WHAT IT READS IS OF BULK AT MOST 1048576: true; the input reads as it did. -/
def bufStreamUptoRow : OpenClaim := { program := "ytbfmgdcnpefciaa", sum := "ec0a829982b88f4d9b265bd6341bdf18d916a4b65f8301e8784310fe81ec916d", func := "transom/transomlaw15.BufStream", spec := "bufStream", apart := false, narrowed := true }
def BufStreamUptoSaid : Prop := bufStreamUptoRow.holds Try.pinned (OpenSpec.upto bufStreamSpec)

/-- 'transomlaw15.BufPieces', WHERE WHAT IT READS IS OF BULK AT MOST 1048576: true; the input reads as it did. -/
def bufPiecesUptoRow : OpenClaim := { program := "ytbfmgdcnpefciaa", sum := "ec0a829982b88f4d9b265bd6341bdf18d916a4b65f8301e8784310fe81ec916d", func := "transom/transomlaw15.BufPieces", spec := "bufPieces", apart := false, narrowed := true }
def BufPiecesUptoSaid : Prop := bufPiecesUptoRow.holds Try.pinned (OpenSpec.upto bufPiecesSpec)

/-- 'transomlaw15.BufParts', WHERE WHAT IT READS IS OF BULK AT MOST 1048576: true; the input reads as it did. -/
def bufPartsUptoRow : OpenClaim := { program := "ytbfmgdcnpefciaa", sum := "ec0a829982b88f4d9b265bd6341bdf18d916a4b65f8301e8784310fe81ec916d", func := "transom/transomlaw15.BufParts", spec := "bufParts", apart := false, narrowed := true }
def BufPartsUptoSaid : Prop := bufPartsUptoRow.holds Try.pinned (OpenSpec.upto bufPartsSpec)

/-- 'transomlaw05.IpWrites', WHERE WHAT IT READS IS OF BULK AT MOST 1048576: true; the input reads as it did. -/
def ipWritesUptoRow : OpenClaim := { program := "ytbfmgdcnpefciaa", sum := "ec0a829982b88f4d9b265bd6341bdf18d916a4b65f8301e8784310fe81ec916d", func := "transom/transomlaw05.IpWrites", spec := "ipWrites", unfollowed := true, recurses := true, apart := false, narrowed := true }
def IpWritesUptoSaid : Prop := ipWritesUptoRow.holds Try.pinned (OpenSpec.upto ipWritesSpec)

/-- 'transomlaw05.IpReads', WHERE WHAT IT READS IS OF BULK AT MOST 1048576: true; the input reads as it did. -/
def ipReadsUptoRow : OpenClaim := { program := "ytbfmgdcnpefciaa", sum := "ec0a829982b88f4d9b265bd6341bdf18d916a4b65f8301e8784310fe81ec916d", func := "transom/transomlaw05.IpReads", spec := "ipReads", unfollowed := true, recurses := true, apart := false, narrowed := true }
def IpReadsUptoSaid : Prop := ipReadsUptoRow.holds Try.pinned (OpenSpec.upto ipReadsSpec)

/-- 'transomlaw05.IpBack', WHERE WHAT IT READS IS OF BULK AT MOST 1048576: true; the input reads as it did. -/
def ipBackUptoRow : OpenClaim := { program := "ytbfmgdcnpefciaa", sum := "ec0a829982b88f4d9b265bd6341bdf18d916a4b65f8301e8784310fe81ec916d", func := "transom/transomlaw05.IpBack", spec := "ipBack", unfollowed := true, recurses := true, apart := false, narrowed := true }
def IpBackUptoSaid : Prop := ipBackUptoRow.holds Try.pinned (OpenSpec.upto ipBackSpec)

/-- 'transomlaw05.IpApart', WHERE WHAT IT READS IS OF BULK AT MOST 1048576: true; the input reads as it did. -/
def ipApartUptoRow : OpenClaim := { program := "ytbfmgdcnpefciaa", sum := "ec0a829982b88f4d9b265bd6341bdf18d916a4b65f8301e8784310fe81ec916d", func := "transom/transomlaw05.IpApart", spec := "ipApart", unfollowed := true, recurses := true, apart := false, narrowed := true }
def IpApartUptoSaid : Prop := ipApartUptoRow.holds Try.pinned (OpenSpec.upto ipApartSpec)

end Rows
end Go.Proofs.Ytbfmgdcnpefciaa
