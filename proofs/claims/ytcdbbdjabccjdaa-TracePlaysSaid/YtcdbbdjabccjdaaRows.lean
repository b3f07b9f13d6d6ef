/-
  No cell of these rows narrows 'for every input' (looked for: loops, veiled, ifaces, maps, wideKeys, modest, calm, conditions, laid).
  DERIVED. THE GIVEN ROWS OF THIS SEAT. 6 by the template 'for every input the law returns true; each argument reads behind the call as it read before'; 0 by the template 'total and deterministic' (their statements: YtcdbbdjabccjdaaTotals.lean).
  GIVEN WITH THE SEED: the statements are not yours to turn. If you find one false, say at which input.
  Laid BY PROGRAM, IN A SANDBOX (cutbox-rows.mjs): the forced cells as the released guide's own fill.sh prints them over the translation dbe3961c19b092e5… (all of the seat's roots in one cut). By AI agents, Wed Nov 11 2026. No macro, syntax, notation, axiom, sorry.
-/
import Derived.Test.YtcdbbdjabccjdaaChecked
import GoSem.Claim
import GoSem.ClaimJoined
import GoSem.ClaimMapViews
import Derived.JoinedTies
import Derived.KernelRfl
namespace Go.Proofs.Ytcdbbdjabccjdaa
/- THE CELL 'sum', in the pinned program and in every row, IS THE sha256 OF THE DUMP (.gsa) THAT YtcdbbdjabccjdaaProg.lean LOADS. Nothing in Lean hashes anything: it is a label: what it is worth is what the hold of that sum in a sandbox is worth. -/
noncomputable def Try.pinned : Pinned := { name := "ytcdbbdjabccjdaa", sum := "dbe3961c19b092e516c28c045c2648d8f0d05f5b9ed35f38c14c69a63c32be4e", checked := Try.checked }
namespace Rows
def none {H : Type} : Left H := { results := [], args := [] }

/-- 'transomlaw31.TracePlays': WHATEVER THE INPUT: true; the input reads as it did. -/
def tracePlaysSpec : ChangeSpec := { name := "tracePlays", fn := fun _ => fun
  | [d] => { results := [.lit (.bool true)], args := [d] }
  | _ => none }
def tracePlaysRow : OpenClaim := { program := "ytcdbbdjabccjdaa", sum := "dbe3961c19b092e516c28c045c2648d8f0d05f5b9ed35f38c14c69a63c32be4e", func := "transom/transomlaw31.TracePlays", spec := "tracePlays", unfollowed := true, recurses := true, apart := false }
def TracePlaysSaid : Prop := tracePlaysRow.holds Try.pinned (OpenSpec.ofChange tracePlaysSpec)

/-- ITS FALSE NEIGHBOUR: 'it returns false'. Refute it at one input. -/
def tracePlaysWrong : ChangeSpec := { name := "tracePlays", fn := fun _ => fun
  | [d] => { results := [.lit (.bool false)], args := [d] }
  | _ => none }
def TracePlaysWrongFalsely : Prop := tracePlaysRow.holds Try.pinned (OpenSpec.ofChange tracePlaysWrong)

/-- 'transomlaw31.TraceTells': WHATEVER THE INPUT: true; the input reads as it did. -/
def traceTellsSpec : ChangeSpec := { name := "traceTells", fn := fun _ => fun
  | [d] => { results := [.lit (.bool true)], args := [d] }
  | _ => none }
def traceTellsRow : OpenClaim := { program := "ytcdbbdjabccjdaa", sum := "dbe3961c19b092e516c28c045c2648d8f0d05f5b9ed35f38c14c69a63c32be4e", func := "transom/transomlaw31.TraceTells", spec := "traceTells", unfollowed := true, recurses := true, apart := false }
def TraceTellsSaid : Prop := traceTellsRow.holds Try.pinned (OpenSpec.ofChange traceTellsSpec)

/-- ITS FALSE NEIGHBOUR: 'it returns false'. Refute it at one input. -/
def traceTellsWrong : ChangeSpec := { name := "traceTells", fn := fun _ => fun
  | [d] => { results := [.lit (.bool false)], args := [d] }
  | _ => none }
def TraceTellsWrongFalsely : Prop := traceTellsRow.holds Try.pinned (OpenSpec.ofChange traceTellsWrong)

/-- 'transomlaw31.TraceSwaps': WHATEVER THE INPUT: true; the input reads as it did. -/
def traceSwapsSpec : ChangeSpec := { name := "traceSwaps", fn := fun _ => fun
  | [d1, d2, d3] => { results := [.lit (.bool true)], args := [d1, d2, d3] }
  | _ => none }
def traceSwapsRow : OpenClaim := { program := "ytcdbbdjabccjdaa", sum := "dbe3961c19b092e516c28c045c2648d8f0d05f5b9ed35f38c14c69a63c32be4e", func := "transom/transomlaw31.TraceSwaps", spec := "traceSwaps", unfollowed := true, recurses := true, apart := false }
def TraceSwapsSaid : Prop := traceSwapsRow.holds Try.pinned (OpenSpec.ofChange traceSwapsSpec)

/-- ITS FALSE NEIGHBOUR: 'it returns false'. Refute it at one input. -/
def traceSwapsWrong : ChangeSpec := { name := "traceSwaps", fn := fun _ => fun
  | [d1, d2, d3] => { results := [.lit (.bool false)], args := [d1, d2, d3] }
  | _ => none }
def TraceSwapsWrongFalsely : Prop := traceSwapsRow.holds Try.pinned (OpenSpec.ofChange traceSwapsWrong)

/-- 'transomlaw31.TraceNil': WHATEVER THE INPUT: true; the input reads as it did. -/
def traceNilSpec : ChangeSpec := { name := "traceNil", fn := fun _ => fun
  | [d] => { results := [.lit (.bool true)], args := [d] }
  | _ => none }
def traceNilRow : OpenClaim := { program := "ytcdbbdjabccjdaa", sum := "dbe3961c19b092e516c28c045c2648d8f0d05f5b9ed35f38c14c69a63c32be4e", func := "transom/transomlaw31.TraceNil", spec := "traceNil", unfollowed := true, recurses := true, apart := false }
def TraceNilSaid : Prop := traceNilRow.holds Try.pinned (OpenSpec.ofChange traceNilSpec)

/-- ITS FALSE NEIGHBOUR: 'it returns false'. Refute it at one input. -/
def traceNilWrong : ChangeSpec := { name := "traceNil", fn := fun _ => fun
  | [d] => { results := [.lit (.bool false)], args := [d] }
  | _ => none }
def TraceNilWrongFalsely : Prop := traceNilRow.holds Try.pinned (OpenSpec.ofChange traceNilWrong)

/-- 'transomlaw16.ReasmWhole': WHATEVER THE INPUT: true; the input reads as it did. -/
def reasmWholeSpec : ChangeSpec := { name := "reasmWhole", fn := fun _ => fun
  | [d1, d2, d3] => { results := [.lit (.bool true)], args := [d1, d2, d3] }
  | _ => none }
def reasmWholeRow : OpenClaim := { program := "ytcdbbdjabccjdaa", sum := "dbe3961c19b092e516c28c045c2648d8f0d05f5b9ed35f38c14c69a63c32be4e", func := "transom/transomlaw16.ReasmWhole", spec := "reasmWhole", apart := false }
def ReasmWholeSaid : Prop := reasmWholeRow.holds Try.pinned (OpenSpec.ofChange reasmWholeSpec)

/-- ITS FALSE NEIGHBOUR: 'it returns false'. Refute it at one input. -/
def reasmWholeWrong : ChangeSpec := { name := "reasmWhole", fn := fun _ => fun
  | [d1, d2, d3] => { results := [.lit (.bool false)], args := [d1, d2, d3] }
  | _ => none }
def ReasmWholeWrongFalsely : Prop := reasmWholeRow.holds Try.pinned (OpenSpec.ofChange reasmWholeWrong)

/-- 'transomlaw16.ReasmTwice': WHATEVER THE INPUT: true; the input reads as it did. -/
def reasmTwiceSpec : ChangeSpec := { name := "reasmTwice", fn := fun _ => fun
  | [d1, d2, d3] => { results := [.lit (.bool true)], args := [d1, d2, d3] }
  | _ => none }
def reasmTwiceRow : OpenClaim := { program := "ytcdbbdjabccjdaa", sum := "dbe3961c19b092e516c28c045c2648d8f0d05f5b9ed35f38c14c69a63c32be4e", func := "transom/transomlaw16.ReasmTwice", spec := "reasmTwice", apart := false }
def ReasmTwiceSaid : Prop := reasmTwiceRow.holds Try.pinned (OpenSpec.ofChange reasmTwiceSpec)

/-- ITS FALSE NEIGHBOUR: 'it returns false'. Refute it at one input. -/
def reasmTwiceWrong : ChangeSpec := { name := "reasmTwice", fn := fun _ => fun
  | [d1, d2, d3] => { results := [.lit (.bool false)], args := [d1, d2, d3] }
  | _ => none }
def ReasmTwiceWrongFalsely : Prop := reasmTwiceRow.holds Try.pinned (OpenSpec.ofChange reasmTwiceWrong)

/- THE SECOND FORM. 'bulk': how many values and letters a reading holds, each counted each time it is reached (what is shared counts as often as it is met; a slice's spare places count too). A statement '..UptoSaid' is the law's where the arguments, and the package variables that the reading takes, are together of bulk at most 1048576: NARROWER than '..Said'. Prove '..Said' where nothing that the law and all that it calls make is longer than what came in: it says more and counts as full. Else prove '..UptoSaid'. A law counts once. -/
mutual
def uptoBulk {H : Type} : DataW H → Nat
  | .lit (.string bytes) => bytes.length + 1
  | .lit _ => 1
  | .nil => 1
  | .ptr d => uptoBulk d + 1
  | .slice elems spare => uptoBulkAll elems + uptoBulkAll spare + 1
  | .agg parts => uptoBulkAll parts + 1
  | .iface _ d => uptoBulk d + 1
  | .map entries => uptoBulkEntries entries + 1
  | .held _ => 1
def uptoBulkAll {H : Type} : List (DataW H) → Nat
  | [] => 0
  | d :: r => uptoBulk d + uptoBulkAll r
def uptoBulkEntries {H : Type} : List (Lit × DataW H) → Nat
  | [] => 0
  | x :: r => uptoBulkEntry x + uptoBulkEntries r
def uptoBulkEntry {H : Type} : Lit × DataW H → Nat
  | (.string bytes, d) => bytes.length + uptoBulk d + 1
  | (_, d) => uptoBulk d + 1
 end
def uptoSmall : (H : Type) → List (DataW H) → Bool := fun _ ds => decide (uptoBulkAll ds ≤ 1048576)
def OpenSpec.upto (s : _root_.Go.ChangeSpec) : _root_.Go.OpenSpec := { _root_.Go.OpenSpec.ofChange s with cond := some uptoSmall }

/-- 'transomlaw31.TracePlays', WHERE WHAT IT READS IS OF BULK AT MOST 1048576: true; the input reads as it did. -/
def tracePlaysUptoRow : OpenClaim := { program := "ytcdbbdjabccjdaa", sum := "dbe3961c19b092e516c28c045c2648d8f0d05f5b9ed35f38c14c69a63c32be4e", func := "transom/transomlaw31.TracePlays", spec := "tracePlays", unfollowed := true, recurses := true, apart := false, narrowed := true }
def TracePlaysUptoSaid : Prop := tracePlaysUptoRow.holds Try.pinned (OpenSpec.upto tracePlaysSpec)

/-- 'transomlaw31.TraceTells', WHERE WHAT IT READS IS OF BULK AT MOST 1048576: true; the input reads as it did. -/
def traceTellsUptoRow : OpenClaim := { program := "ytcdbbdjabccjdaa", sum := "dbe3961c19b092e516c28c045c2648d8f0d05f5b9ed35f38c14c69a63c32be4e", func := "transom/transomlaw31.TraceTells", spec := "traceTells", unfollowed := true, recurses := true, apart := false, narrowed := true }
def TraceTellsUptoSaid : Prop := traceTellsUptoRow.holds Try.pinned (OpenSpec.upto traceTellsSpec)

/-- 'transomlaw31.TraceSwaps', WHERE WHAT IT READS IS OF BULK AT MOST 1048576: true; the input reads as it did. -/
def traceSwapsUptoRow : OpenClaim := { program := "ytcdbbdjabccjdaa", sum := "dbe3961c19b092e516c28c045c2648d8f0d05f5b9ed35f38c14c69a63c32be4e", func := "transom/transomlaw31.TraceSwaps", spec := "traceSwaps", unfollowed := true, recurses := true, apart := false, narrowed := true }
def TraceSwapsUptoSaid : Prop := traceSwapsUptoRow.holds Try.pinned (OpenSpec.upto traceSwapsSpec)

/-- 'transomlaw31.TraceNil', WHERE WHAT IT READS IS OF BULK AT MOST 1048576: true; the input reads as it did. -/
def traceNilUptoRow : OpenClaim := { program := "ytcdbbdjabccjdaa", sum := "dbe3961c19b092e516c28c045c2648d8f0d05f5b9ed35f38c14c69a63c32be4e", func := "transom/transomlaw31.TraceNil", spec := "traceNil", unfollowed := true, recurses := true, apart := false, narrowed := true }
def TraceNilUptoSaid : Prop := traceNilUptoRow.holds Try.pinned (OpenSpec.upto traceNilSpec)

/-- 'transomlaw16.ReasmWhole', WHERE WHAT IT READS IS OF BULK AT MOST 1048576: true; the input reads as it did. -/
def reasmWholeUptoRow : OpenClaim := { program := "ytcdbbdjabccjdaa", sum := "dbe3961c19b092e516c28c045c2648d8f0d05f5b9ed35f38c14c69a63c32be4e", func := "transom/transomlaw16.ReasmWhole", spec := "reasmWhole", apart := false, narrowed := true }
def ReasmWholeUptoSaid : Prop := reasmWholeUptoRow.holds Try.pinned (OpenSpec.upto reasmWholeSpec)

/-- 'transomlaw16.ReasmTwice', WHERE WHAT IT READS IS OF BULK AT MOST 1048576: true; the input reads as it did. -/
def reasmTwiceUptoRow : OpenClaim := { program := "ytcdbbdjabccjdaa", sum := "dbe3961c19b092e516c28c045c2648d8f0d05f5b9ed35f38c14c69a63c32be4e", func := "transom/transomlaw16.ReasmTwice", spec := "reasmTwice", apart := false, narrowed := true }
def ReasmTwiceUptoSaid : Prop := reasmTwiceUptoRow.holds Try.pinned (OpenSpec.upto reasmTwiceSpec)

end Rows
end Go.Proofs.Ytcdbbdjabccjdaa
