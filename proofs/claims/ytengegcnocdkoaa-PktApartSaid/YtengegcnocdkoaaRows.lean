/-
  No cell of these rows narrows 'for every input' (looked for: loops, veiled, ifaces, maps, wideKeys, modest, calm, conditions, laid).
  DERIVED. THE GIVEN ROWS OF THIS SEAT. 6 by the template 'for every input the law returns true; each argument reads behind the call as it read before'; 0 by the template 'total and deterministic' (their statements: YtengegcnocdkoaaTotals.lean).
  GIVEN WITH THE SEED: the statements are not yours to turn. If you find one false, say at which input.
  Laid BY PROGRAM, IN A SANDBOX (cutbox-rows.mjs): the forced cells as the released guide's own fill.sh prints them over the translation 4fdf5224f49a8715… (all of the seat's roots in one cut). By AI agents, Wed Nov 11 2026. No macro, syntax, notation, axiom, sorry.
-/
import Derived.Test.YtengegcnocdkoaaChecked
import GoSem.Claim
import GoSem.ClaimJoined
import GoSem.ClaimMapViews
import Derived.JoinedTies
import Derived.KernelRfl
namespace Go.Proofs.Ytengegcnocdkoaa
/- THE CELL 'sum', in the pinned program and in every row, IS THE sha256 OF THE DUMP (.gsa) THAT YtengegcnocdkoaaProg.lean LOADS. Nothing in Lean hashes anything: it is a label: what it is worth is what the hold of that sum in a sandbox is worth. -/
noncomputable def Try.pinned : Pinned := { name := "ytengegcnocdkoaa", sum := "4fdf5224f49a87155513c01341d9727bd1e64bc1a9f88f54249ce3891d9c77d6", checked := Try.checked }
namespace Rows
def none {H : Type} : Left H := { results := [], args := [] }

/-- 'transomlaw08.PktWrites': WHATEVER THE INPUT: true; the input reads as it did. -/
def pktWritesSpec : ChangeSpec := { name := "pktWrites", fn := fun _ => fun
  | [d1, d2] => { results := [.lit (.bool true)], args := [d1, d2] }
  | _ => none }
def pktWritesRow : OpenClaim := { program := "ytengegcnocdkoaa", sum := "4fdf5224f49a87155513c01341d9727bd1e64bc1a9f88f54249ce3891d9c77d6", func := "transom/transomlaw08.PktWrites", spec := "pktWrites", unfollowed := true, recurses := true, apart := false }
def PktWritesSaid : Prop := pktWritesRow.holds Try.pinned (OpenSpec.ofChange pktWritesSpec)

/-- ITS FALSE NEIGHBOUR: 'it returns false'. Refute it at one input. -/
def pktWritesWrong : ChangeSpec := { name := "pktWrites", fn := fun _ => fun
  | [d1, d2] => { results := [.lit (.bool false)], args := [d1, d2] }
  | _ => none }
def PktWritesWrongFalsely : Prop := pktWritesRow.holds Try.pinned (OpenSpec.ofChange pktWritesWrong)

/-- 'transomlaw08.PktReads': WHATEVER THE INPUT: true; the input reads as it did. -/
def pktReadsSpec : ChangeSpec := { name := "pktReads", fn := fun _ => fun
  | [d] => { results := [.lit (.bool true)], args := [d] }
  | _ => none }
def pktReadsRow : OpenClaim := { program := "ytengegcnocdkoaa", sum := "4fdf5224f49a87155513c01341d9727bd1e64bc1a9f88f54249ce3891d9c77d6", func := "transom/transomlaw08.PktReads", spec := "pktReads", unfollowed := true, recurses := true, apart := false }
def PktReadsSaid : Prop := pktReadsRow.holds Try.pinned (OpenSpec.ofChange pktReadsSpec)

/-- ITS FALSE NEIGHBOUR: 'it returns false'. Refute it at one input. -/
def pktReadsWrong : ChangeSpec := { name := "pktReads", fn := fun _ => fun
  | [d] => { results := [.lit (.bool false)], args := [d] }
  | _ => none }
def PktReadsWrongFalsely : Prop := pktReadsRow.holds Try.pinned (OpenSpec.ofChange pktReadsWrong)

/-- 'transomlaw08.PktTurns': WHATEVER THE INPUT: true; the input reads as it did. -/
def pktTurnsSpec : ChangeSpec := { name := "pktTurns", fn := fun _ => fun
  | [d1, d2, d3] => { results := [.lit (.bool true)], args := [d1, d2, d3] }
  | _ => none }
def pktTurnsRow : OpenClaim := { program := "ytengegcnocdkoaa", sum := "4fdf5224f49a87155513c01341d9727bd1e64bc1a9f88f54249ce3891d9c77d6", func := "transom/transomlaw08.PktTurns", spec := "pktTurns", unfollowed := true, recurses := true, apart := false }
def PktTurnsSaid : Prop := pktTurnsRow.holds Try.pinned (OpenSpec.ofChange pktTurnsSpec)

/-- ITS FALSE NEIGHBOUR: 'it returns false'. Refute it at one input. -/
def pktTurnsWrong : ChangeSpec := { name := "pktTurns", fn := fun _ => fun
  | [d1, d2, d3] => { results := [.lit (.bool false)], args := [d1, d2, d3] }
  | _ => none }
def PktTurnsWrongFalsely : Prop := pktTurnsRow.holds Try.pinned (OpenSpec.ofChange pktTurnsWrong)

/-- 'transomlaw08.PktBack': WHATEVER THE INPUT: true; the input reads as it did. -/
def pktBackSpec : ChangeSpec := { name := "pktBack", fn := fun _ => fun
  | [d1, d2, d3] => { results := [.lit (.bool true)], args := [d1, d2, d3] }
  | _ => none }
def pktBackRow : OpenClaim := { program := "ytengegcnocdkoaa", sum := "4fdf5224f49a87155513c01341d9727bd1e64bc1a9f88f54249ce3891d9c77d6", func := "transom/transomlaw08.PktBack", spec := "pktBack", unfollowed := true, recurses := true, apart := false }
def PktBackSaid : Prop := pktBackRow.holds Try.pinned (OpenSpec.ofChange pktBackSpec)

/-- ITS FALSE NEIGHBOUR: 'it returns false'. Refute it at one input. -/
def pktBackWrong : ChangeSpec := { name := "pktBack", fn := fun _ => fun
  | [d1, d2, d3] => { results := [.lit (.bool false)], args := [d1, d2, d3] }
  | _ => none }
def PktBackWrongFalsely : Prop := pktBackRow.holds Try.pinned (OpenSpec.ofChange pktBackWrong)

/-- 'transomlaw08.PktHurt': WHATEVER THE INPUT: true; the input reads as it did. -/
def pktHurtSpec : ChangeSpec := { name := "pktHurt", fn := fun _ => fun
  | [d1, d2] => { results := [.lit (.bool true)], args := [d1, d2] }
  | _ => none }
def pktHurtRow : OpenClaim := { program := "ytengegcnocdkoaa", sum := "4fdf5224f49a87155513c01341d9727bd1e64bc1a9f88f54249ce3891d9c77d6", func := "transom/transomlaw08.PktHurt", spec := "pktHurt", unfollowed := true, recurses := true, apart := false }
def PktHurtSaid : Prop := pktHurtRow.holds Try.pinned (OpenSpec.ofChange pktHurtSpec)

/-- ITS FALSE NEIGHBOUR: 'it returns false'. Refute it at one input. -/
def pktHurtWrong : ChangeSpec := { name := "pktHurt", fn := fun _ => fun
  | [d1, d2] => { results := [.lit (.bool false)], args := [d1, d2] }
  | _ => none }
def PktHurtWrongFalsely : Prop := pktHurtRow.holds Try.pinned (OpenSpec.ofChange pktHurtWrong)

/-- 'transomlaw08.PktApart': WHATEVER THE INPUT: true; the input reads as it did. -/
def pktApartSpec : ChangeSpec := { name := "pktApart", fn := fun _ => fun
  | [d1, d2, d3] => { results := [.lit (.bool true)], args := [d1, d2, d3] }
  | _ => none }
def pktApartRow : OpenClaim := { program := "ytengegcnocdkoaa", sum := "4fdf5224f49a87155513c01341d9727bd1e64bc1a9f88f54249ce3891d9c77d6", func := "transom/transomlaw08.PktApart", spec := "pktApart", unfollowed := true, recurses := true, apart := false }
def PktApartSaid : Prop := pktApartRow.holds Try.pinned (OpenSpec.ofChange pktApartSpec)

/-- ITS FALSE NEIGHBOUR: 'it returns false'. Refute it at one input. -/
def pktApartWrong : ChangeSpec := { name := "pktApart", fn := fun _ => fun
  | [d1, d2, d3] => { results := [.lit (.bool false)], args := [d1, d2, d3] }
  | _ => none }
def PktApartWrongFalsely : Prop := pktApartRow.holds Try.pinned (OpenSpec.ofChange pktApartWrong)

/- THE SECOND FORM. 'bulk': how many values and letters a reading holds, each counted each time it is reached (what is shared counts as often as it is met; a slice's spare places count too). A statement '..UptoSaid' is the law's where the arguments, and the package variables that the reading takes, are together of bulk at most 1048576: NARROWER than '..Said'. Prove '..Said' where nothing that the law and all that it calls make is longer than what came in: it says more and counts as full. Else prove '..UptoSaid'. A law counts once. -/
mutual
def uptoBulk {H : Type} : DataW H → Nat
  | .lit (.string bytes) => bytes.length + 1
  | .lit _ => 1
  | .nil => 1
  | .ptr d => uptoBulk d + 1
  | .slice elems spare => uptoBulkAll elems + uptoBulkAll spare + 1
  | .agg parts => uptoBulkAll parts + 1
  | .iface _ d => uptoBulk d + 1
  | .map entries => uptoBulkEntries entries + 1
  | .held _ => 1
def uptoBulkAll {H : Type} : List (DataW H) → Nat
  | [] => 0
  | d :: r => uptoBulk d + uptoBulkAll r
def uptoBulkEntries {H : Type} : List (Lit × DataW H) → Nat
  | [] => 0
  | x :: r => uptoBulkEntry x + uptoBulkEntries r
def uptoBulkEntry {H : Type} : Lit × DataW H → Nat
  | (.string bytes, d) => bytes.length + uptoBulk d + 1
  | (_, d) => uptoBulk d + 1
 end
def uptoSmall : (H : Type) → List (DataW H) → Bool := fun _ ds => decide (uptoBulkAll ds ≤ 1048576)
def OpenSpec.upto (s : _root_.Go.ChangeSpec) : _root_.Go.OpenSpec := { _root_.Go.OpenSpec.ofChange s with cond := some uptoSmall }

/-- 'transomlaw08.PktWrites', WHERE WHAT IT READS IS OF BULK AT MOST 1048576: true; the input reads as it did. -/
def pktWritesUptoRow : OpenClaim := { program := "ytengegcnocdkoaa", sum := "4fdf5224f49a87155513c01341d9727bd1e64bc1a9f88f54249ce3891d9c77d6", func := "transom/transomlaw08.PktWrites", spec := "pktWrites", unfollowed := true, recurses := true, apart := false, narrowed := true }
def PktWritesUptoSaid : Prop := pktWritesUptoRow.holds Try.pinned (OpenSpec.upto pktWritesSpec)

/-- 'transomlaw08.PktReads', WHERE WHAT IT READS IS OF BULK AT MOST 1048576: true; the input reads as it did. -/
def pktReadsUptoRow : OpenClaim := { program := "ytengegcnocdkoaa", sum := "4fdf5224f49a87155513c01341d9727bd1e64bc1a9f88f54249ce3891d9c77d6", func := "transom/transomlaw08.PktReads", spec := "pktReads", unfollowed := true, recurses := true, apart := false, narrowed := true }
def PktReadsUptoSaid : Prop := pktReadsUptoRow.holds Try.pinned (OpenSpec.upto pktReadsSpec)

/-- 'transomlaw08.PktTurns', WHERE WHAT IT READS IS OF BULK AT MOST 1048576: true; the input reads as it did. -/
def pktTurnsUptoRow : OpenClaim := { program := "ytengegcnocdkoaa", sum := "4fdf5224f49a87155513c01341d9727bd1e64bc1a9f88f54249ce3891d9c77d6", func := "transom/transomlaw08.PktTurns", spec := "pktTurns", unfollowed := true, recurses := true, apart := false, narrowed := true }
def PktTurnsUptoSaid : Prop := pktTurnsUptoRow.holds Try.pinned (OpenSpec.upto pktTurnsSpec)

/-- 'transomlaw08.PktBack', WHERE WHAT IT READS IS OF BULK AT MOST 1048576: true; the input reads as it did. -/
def pktBackUptoRow : OpenClaim := { program := "ytengegcnocdkoaa", sum := "4fdf5224f49a87155513c01341d9727bd1e64bc1a9f88f54249ce3891d9c77d6", func := "transom/transomlaw08.PktBack", spec := "pktBack", unfollowed := true, recurses := true, apart := false, narrowed := true }
def PktBackUptoSaid : Prop := pktBackUptoRow.holds Try.pinned (OpenSpec.upto pktBackSpec)

/-- 'transomlaw08.PktHurt', WHERE WHAT IT READS IS OF BULK AT MOST 1048576: true; the input reads as it did. -/
def pktHurtUptoRow : OpenClaim := { program := "ytengegcnocdkoaa", sum := "4fdf5224f49a87155513c01341d9727bd1e64bc1a9f88f54249ce3891d9c77d6", func := "transom/transomlaw08.PktHurt", spec := "pktHurt", unfollowed := true, recurses := true, apart := false, narrowed := true }
def PktHurtUptoSaid : Prop := pktHurtUptoRow.holds Try.pinned (OpenSpec.upto pktHurtSpec)

/-- 'transomlaw08.PktApart', WHERE WHAT IT READS IS OF BULK AT MOST 1048576: true; the input reads as it did. -/
def pktApartUptoRow : OpenClaim := { program := "ytengegcnocdkoaa", sum := "4fdf5224f49a87155513c01341d9727bd1e64bc1a9f88f54249ce3891d9c77d6", func := "transom/transomlaw08.PktApart", spec := "pktApart", unfollowed := true, recurses := true, apart := false, narrowed := true }
def PktApartUptoSaid : Prop := pktApartUptoRow.holds Try.pinned (OpenSpec.upto pktApartSpec)

end Rows
end Go.Proofs.Ytengegcnocdkoaa
