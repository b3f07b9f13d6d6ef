/-
  No cell of these rows narrows 'for every input' (looked for: loops, veiled, ifaces, maps, wideKeys, modest, calm, conditions, laid).
  DERIVED. THE GIVEN ROWS OF THIS SEAT. 4 by the template 'for every input the law returns true; each argument reads behind the call as it read before'; 0 by the template 'total and deterministic' (their statements: YtimepplfaaddeaaTotals.lean).
  GIVEN WITH THE SEED: the statements are not yours to turn. If you find one false, say at which input.
  Laid BY PROGRAM, IN A SANDBOX (cutbox-rows.mjs): the forced cells as the released guide's own fill.sh prints them over the translation abdf08090db677cf… (all of the seat's roots in one cut). By AI agents, Wed Nov 11 2026. No macro, syntax, notation, axiom, sorry.
-/
import Derived.Test.YtimepplfaaddeaaChecked
import GoSem.Claim
import GoSem.ClaimJoined
import GoSem.ClaimMapViews
import Derived.JoinedTies
import Derived.KernelRfl
namespace Go.Proofs.Ytimepplfaaddeaa
/- THE CELL 'sum', in the pinned program and in every row, IS THE sha256 OF THE DUMP (.gsa) THAT YtimepplfaaddeaaProg.lean LOADS. Nothing in Lean hashes anything: it is a label: what it is worth is what the hold of that sum in a sandbox is worth. -/
noncomputable def Try.pinned : Pinned := { name := "ytimepplfaaddeaa", sum := "abdf08090db677cf70c8d92e3d97e4d1f6622ee707c5164b6ab5926a570076a3", checked := Try.checked }
namespace Rows
def none {H : Type} : Left H := { results := [], args := [] }

/-- 'transomlaw07.OptTells': WHATEVER THE INPUT: true; the input reads as it did. -/
def optTellsSpec : ChangeSpec := { name := "optTells", fn := fun _ => fun
  | [d1, d2, d3] => { results := [.lit (.bool true)], args := [d1, d2, d3] }
  | _ => none }
def optTellsRow : OpenClaim := { program := "ytimepplfaaddeaa", sum := "abdf08090db677cf70c8d92e3d97e4d1f6622ee707c5164b6ab5926a570076a3", func := "transom/transomlaw07.OptTells", spec := "optTells", unfollowed := true, recurses := true, apart := false }
def OptTellsSaid : Prop := optTellsRow.holds Try.pinned (OpenSpec.ofChange optTellsSpec)

/-- ITS FALSE NEIGHBOUR: 'it returns false'. Refute it at one input. -/
def optTellsWrong : ChangeSpec := { name := "optTells", fn := fun _ => fun
  | [d1, d2, d3] => { results := [.lit (.bool false)], args := [d1, d2, d3] }
  | _ => none }
def OptTellsWrongFalsely : Prop := optTellsRow.holds Try.pinned (OpenSpec.ofChange optTellsWrong)

/-- 'transomlaw07.OptTurns': WHATEVER THE INPUT: true; the input reads as it did. -/
def optTurnsSpec : ChangeSpec := { name := "optTurns", fn := fun _ => fun
  | [d1, d2, d3, d4] => { results := [.lit (.bool true)], args := [d1, d2, d3, d4] }
  | _ => none }
def optTurnsRow : OpenClaim := { program := "ytimepplfaaddeaa", sum := "abdf08090db677cf70c8d92e3d97e4d1f6622ee707c5164b6ab5926a570076a3", func := "transom/transomlaw07.OptTurns", spec := "optTurns", unfollowed := true, recurses := true, apart := false }
def OptTurnsSaid : Prop := optTurnsRow.holds Try.pinned (OpenSpec.ofChange optTurnsSpec)

/-- ITS FALSE NEIGHBOUR: 'it returns false'. Refute it at one input. -/
def optTurnsWrong : ChangeSpec := { name := "optTurns", fn := fun _ => fun
  | [d1, d2, d3, d4] => { results := [.lit (.bool false)], args := [d1, d2, d3, d4] }
  | _ => none }
def OptTurnsWrongFalsely : Prop := optTurnsRow.holds Try.pinned (OpenSpec.ofChange optTurnsWrong)

/-- 'transomlaw07.OptBack': WHATEVER THE INPUT: true; the input reads as it did. -/
def optBackSpec : ChangeSpec := { name := "optBack", fn := fun _ => fun
  | [d1, d2, d3, d4, d5] => { results := [.lit (.bool true)], args := [d1, d2, d3, d4, d5] }
  | _ => none }
def optBackRow : OpenClaim := { program := "ytimepplfaaddeaa", sum := "abdf08090db677cf70c8d92e3d97e4d1f6622ee707c5164b6ab5926a570076a3", func := "transom/transomlaw07.OptBack", spec := "optBack", unfollowed := true, recurses := true, apart := false }
def OptBackSaid : Prop := optBackRow.holds Try.pinned (OpenSpec.ofChange optBackSpec)

/-- ITS FALSE NEIGHBOUR: 'it returns false'. Refute it at one input. -/
def optBackWrong : ChangeSpec := { name := "optBack", fn := fun _ => fun
  | [d1, d2, d3, d4, d5] => { results := [.lit (.bool false)], args := [d1, d2, d3, d4, d5] }
  | _ => none }
def OptBackWrongFalsely : Prop := optBackRow.holds Try.pinned (OpenSpec.ofChange optBackWrong)

/-- 'transomlaw07.OptApart': WHATEVER THE INPUT: true; the input reads as it did. -/
def optApartSpec : ChangeSpec := { name := "optApart", fn := fun _ => fun
  | [d1, d2, d3, d4] => { results := [.lit (.bool true)], args := [d1, d2, d3, d4] }
  | _ => none }
def optApartRow : OpenClaim := { program := "ytimepplfaaddeaa", sum := "abdf08090db677cf70c8d92e3d97e4d1f6622ee707c5164b6ab5926a570076a3", func := "transom/transomlaw07.OptApart", spec := "optApart", unfollowed := true, recurses := true, apart := false }
def OptApartSaid : Prop := optApartRow.holds Try.pinned (OpenSpec.ofChange optApartSpec)

/-- ITS FALSE NEIGHBOUR: 'it returns false'. Refute it at one input. -/
def optApartWrong : ChangeSpec := { name := "optApart", fn := fun _ => fun
  | [d1, d2, d3, d4] => { results := [.lit (.bool false)], args := [d1, d2, d3, d4] }
  | _ => none }
def OptApartWrongFalsely : Prop := optApartRow.holds Try.pinned (OpenSpec.ofChange optApartWrong)

/- THE SECOND FORM. 'bulk': how many values and letters a reading holds, each counted each time it is reached (what is shared counts as often as it is met; a slice's spare places count too). A statement '..UptoSaid' is the law's where the arguments, and the package variables that the reading takes, are together of bulk at most 1048576: NARROWER than '..Said'. Prove '..Said' where nothing that the law and all that it calls make is longer than what came in: it says more and counts as full. Else prove '..UptoSaid'. A law counts once. -/
mutual
def uptoBulk {H : Type} : DataW H → Nat
  | .lit (.string bytes) => bytes.length + 1
  | .lit _ => 1
  | .nil => 1
  | .ptr d => uptoBulk d + 1
  | .slice elems spare => uptoBulkAll elems + uptoBulkAll spare + 1
  | .agg parts => uptoBulkAll parts + 1
  | .iface _ d => uptoBulk d + 1
  | .map entries => uptoBulkEntries entries + 1
  | .held _ => 1
def uptoBulkAll {H : Type} : List (DataW H) → Nat
  | [] => 0
  | d :: r => uptoBulk d + uptoBulkAll r
def uptoBulkEntries {H : Type} : List (Lit × DataW H) → Nat
  | [] => 0
  | x :: r => uptoBulkEntry x + uptoBulkEntries r
def uptoBulkEntry {H : Type} : Lit × DataW H → Nat
  | (.string bytes, d) => bytes.length + uptoBulk d + 1
  | (_, d) => uptoBulk d + 1
 end
def uptoSmall : (H : Type) → List (DataW H) → Bool := fun _ ds => decide (uptoBulkAll ds ≤ 1048576)
def OpenSpec.upto (s : _root_.Go.ChangeSpec) : _root_.Go.OpenSpec := { _root_.Go.OpenSpec.ofChange s with cond := some uptoSmall }

/-- 'transomlaw07.OptTells', WHERE WHAT IT READS IS OF BULK AT MOST 1048576: true; the input reads as it did. -/
def optTellsUptoRow : OpenClaim := { program := "ytimepplfaaddeaa", sum := "abdf08090db677cf70c8d92e3d97e4d1f6622ee707c5164b6ab5926a570076a3", func := "transom/transomlaw07.OptTells", spec := "optTells", unfollowed := true, recurses := true, apart := false, narrowed := true }
def OptTellsUptoSaid : Prop := optTellsUptoRow.holds Try.pinned (OpenSpec.upto optTellsSpec)

/-- 'transomlaw07.OptTurns', WHERE WHAT IT READS IS OF BULK AT MOST 1048576: true; the input reads as it did. -/
def optTurnsUptoRow : OpenClaim := { program := "ytimepplfaaddeaa", sum := "abdf08090db677cf70c8d92e3d97e4d1f6622ee707c5164b6ab5926a570076a3", func := "transom/transomlaw07.OptTurns", spec := "optTurns", unfollowed := true, recurses := true, apart := false, narrowed := true }
def OptTurnsUptoSaid : Prop := optTurnsUptoRow.holds Try.pinned (OpenSpec.upto optTurnsSpec)

/-- 'transomlaw07.OptBack', WHERE WHAT IT READS IS OF BULK AT MOST 1048576: true; the input reads as it did. -/
def optBackUptoRow : OpenClaim := { program := "ytimepplfaaddeaa", sum := "abdf08090db677cf70c8d92e3d97e4d1f6622ee707c5164b6ab5926a570076a3", func := "transom/transomlaw07.OptBack", spec := "optBack", unfollowed := true, recurses := true, apart := false, narrowed := true }
def OptBackUptoSaid : Prop := optBackUptoRow.holds Try.pinned (OpenSpec.upto optBackSpec)

/-- 'transomlaw07.OptApart', WHERE WHAT IT READS IS OF BULK AT MOST 1048576: true; the input reads as it did. -/
def optApartUptoRow : OpenClaim := { program := "ytimepplfaaddeaa", sum := "abdf08090db677cf70c8d92e3d97e4d1f6622ee707c5164b6ab5926a570076a3", func := "transom/transomlaw07.OptApart", spec := "optApart", unfollowed := true, recurses := true, apart := false, narrowed := true }
def OptApartUptoSaid : Prop := optApartUptoRow.holds Try.pinned (OpenSpec.upto optApartSpec)

end Rows
end Go.Proofs.Ytimepplfaaddeaa
