/-
  No cell of these rows narrows 'for every input' (looked for: loops, veiled, ifaces, maps, wideKeys, modest, calm, conditions, laid).
  DERIVED. THE GIVEN ROWS OF THIS SEAT. 7 by the template 'for every input the law returns true; each argument reads behind the call as it read before'; 0 by the template 'total and deterministic' (their statements: YthichhoiegkcjaaTotals.lean).
  GIVEN WITH THE SEED: the statements are not yours to turn. If you find one false, say at which input.
  Laid BY PROGRAM, IN A SANDBOX (cutbox-rows.mjs): the forced cells as the released guide's own fill.sh prints them over the translation 4e914dea0ebb5e0c… (all of the seat's roots in one cut). By AI agents, Wed Nov 11 2026. No macro, syntax, notation, axiom, sorry.
-/
import Derived.Test.YthichhoiegkcjaaChecked
import GoSem.Claim
import GoSem.ClaimJoined
import GoSem.ClaimMapViews
import Derived.JoinedTies
import Derived.KernelRfl
namespace Go.Proofs.Ythichhoiegkcjaa
/- THE CELL 'sum', in the pinned program and in every row, IS THE sha256 OF THE DUMP (.gsa) THAT YthichhoiegkcjaaProg.lean LOADS. Nothing in Lean hashes anything: it is a label: what it is worth is what the hold of that sum in a sandbox is worth. -/
noncomputable def Try.pinned : Pinned := { name := "ythichhoiegkcjaa", sum := "4e914dea0ebb5e0c6298c344b73b01c51045dc8f5d329beb37d88623f576597f", checked := Try.checked }
namespace Rows
def none {H : Type} : Left H := { results := [], args := [] }

/-- 'transomlaw21.LeadTells': WHATEVER THE INPUT: true; the input reads as it did. -/
def leadTellsSpec : ChangeSpec := { name := "leadTells", fn := fun _ => fun
  | [d1, d2, d3] => { results := [.lit (.bool true)], args := [d1, d2, d3] }
  | _ => none }
def leadTellsRow : OpenClaim := { program := "ythichhoiegkcjaa", sum := "4e914dea0ebb5e0c6298c344b73b01c51045dc8f5d329beb37d88623f576597f", func := "transom/transomlaw21.LeadTells", spec := "leadTells", apart := false }
def LeadTellsSaid : Prop := leadTellsRow.holds Try.pinned (OpenSpec.ofChange leadTellsSpec)

/-- ITS FALSE NEIGHBOUR: 'it returns false'. Refute it at one input. -/
def leadTellsWrong : ChangeSpec := { name := "leadTells", fn := fun _ => fun
  | [d1, d2, d3] => { results := [.lit (.bool false)], args := [d1, d2, d3] }
  | _ => none }
def LeadTellsWrongFalsely : Prop := leadTellsRow.holds Try.pinned (OpenSpec.ofChange leadTellsWrong)

/-- 'transomlaw21.LeadStays': WHATEVER THE INPUT: true; the input reads as it did. -/
def leadStaysSpec : ChangeSpec := { name := "leadStays", fn := fun _ => fun
  | [d1, d2, d3] => { results := [.lit (.bool true)], args := [d1, d2, d3] }
  | _ => none }
def leadStaysRow : OpenClaim := { program := "ythichhoiegkcjaa", sum := "4e914dea0ebb5e0c6298c344b73b01c51045dc8f5d329beb37d88623f576597f", func := "transom/transomlaw21.LeadStays", spec := "leadStays", apart := false }
def LeadStaysSaid : Prop := leadStaysRow.holds Try.pinned (OpenSpec.ofChange leadStaysSpec)

/-- ITS FALSE NEIGHBOUR: 'it returns false'. Refute it at one input. -/
def leadStaysWrong : ChangeSpec := { name := "leadStays", fn := fun _ => fun
  | [d1, d2, d3] => { results := [.lit (.bool false)], args := [d1, d2, d3] }
  | _ => none }
def LeadStaysWrongFalsely : Prop := leadStaysRow.holds Try.pinned (OpenSpec.ofChange leadStaysWrong)

/-- 'transomlaw21.LeadMore': WHATEVER THE INPUT: true; the input reads as it did. -/
def leadMoreSpec : ChangeSpec := { name := "leadMore", fn := fun _ => fun
  | [d1, d2, d3, d4, d5] => { results := [.lit (.bool true)], args := [d1, d2, d3, d4, d5] }
  | _ => none }
def leadMoreRow : OpenClaim := { program := "ythichhoiegkcjaa", sum := "4e914dea0ebb5e0c6298c344b73b01c51045dc8f5d329beb37d88623f576597f", func := "transom/transomlaw21.LeadMore", spec := "leadMore", apart := false }
def LeadMoreSaid : Prop := leadMoreRow.holds Try.pinned (OpenSpec.ofChange leadMoreSpec)

/-- ITS FALSE NEIGHBOUR: 'it returns false'. Refute it at one input. -/
def leadMoreWrong : ChangeSpec := { name := "leadMore", fn := fun _ => fun
  | [d1, d2, d3, d4, d5] => { results := [.lit (.bool false)], args := [d1, d2, d3, d4, d5] }
  | _ => none }
def LeadMoreWrongFalsely : Prop := leadMoreRow.holds Try.pinned (OpenSpec.ofChange leadMoreWrong)

/-- 'transomlaw01.SeqTells': WHATEVER THE INPUT: true; the input reads as it did. -/
def seqTellsSpec : ChangeSpec := { name := "seqTells", fn := fun _ => fun
  | [d1, d2, d3] => { results := [.lit (.bool true)], args := [d1, d2, d3] }
  | _ => none }
def seqTellsRow : OpenClaim := { program := "ythichhoiegkcjaa", sum := "4e914dea0ebb5e0c6298c344b73b01c51045dc8f5d329beb37d88623f576597f", func := "transom/transomlaw01.SeqTells", spec := "seqTells", apart := false }
def SeqTellsSaid : Prop := seqTellsRow.holds Try.pinned (OpenSpec.ofChange seqTellsSpec)

/-- ITS FALSE NEIGHBOUR: 'it returns false'. Refute it at one input. -/
def seqTellsWrong : ChangeSpec := { name := "seqTells", fn := fun _ => fun
  | [d1, d2, d3] => { results := [.lit (.bool false)], args := [d1, d2, d3] }
  | _ => none }
def SeqTellsWrongFalsely : Prop := seqTellsRow.holds Try.pinned (OpenSpec.ofChange seqTellsWrong)

/-- 'transomlaw01.SeqLifts': WHATEVER THE INPUT: true; the input reads as it did. -/
def seqLiftsSpec : ChangeSpec := { name := "seqLifts", fn := fun _ => fun
  | [d1, d2] => { results := [.lit (.bool true)], args := [d1, d2] }
  | _ => none }
def seqLiftsRow : OpenClaim := { program := "ythichhoiegkcjaa", sum := "4e914dea0ebb5e0c6298c344b73b01c51045dc8f5d329beb37d88623f576597f", func := "transom/transomlaw01.SeqLifts", spec := "seqLifts", apart := false }
def SeqLiftsSaid : Prop := seqLiftsRow.holds Try.pinned (OpenSpec.ofChange seqLiftsSpec)

/-- ITS FALSE NEIGHBOUR: 'it returns false'. Refute it at one input. -/
def seqLiftsWrong : ChangeSpec := { name := "seqLifts", fn := fun _ => fun
  | [d1, d2] => { results := [.lit (.bool false)], args := [d1, d2] }
  | _ => none }
def SeqLiftsWrongFalsely : Prop := seqLiftsRow.holds Try.pinned (OpenSpec.ofChange seqLiftsWrong)

/-- 'transomlaw01.SeqMoves': WHATEVER THE INPUT: true; the input reads as it did. -/
def seqMovesSpec : ChangeSpec := { name := "seqMoves", fn := fun _ => fun
  | [d1, d2, d3, d4] => { results := [.lit (.bool true)], args := [d1, d2, d3, d4] }
  | _ => none }
def seqMovesRow : OpenClaim := { program := "ythichhoiegkcjaa", sum := "4e914dea0ebb5e0c6298c344b73b01c51045dc8f5d329beb37d88623f576597f", func := "transom/transomlaw01.SeqMoves", spec := "seqMoves", apart := false }
def SeqMovesSaid : Prop := seqMovesRow.holds Try.pinned (OpenSpec.ofChange seqMovesSpec)

/-- ITS FALSE NEIGHBOUR: 'it returns false'. Refute it at one input. -/
def seqMovesWrong : ChangeSpec := { name := "seqMoves", fn := fun _ => fun
  | [d1, d2, d3, d4] => { results := [.lit (.bool false)], args := [d1, d2, d3, d4] }
  | _ => none }
def SeqMovesWrongFalsely : Prop := seqMovesRow.holds Try.pinned (OpenSpec.ofChange seqMovesWrong)

/-- 'transomlaw01.SeqFinds': WHATEVER THE INPUT: true; the input reads as it did. -/
def seqFindsSpec : ChangeSpec := { name := "seqFinds", fn := fun _ => fun
  | [d1, d2, d3] => { results := [.lit (.bool true)], args := [d1, d2, d3] }
  | _ => none }
def seqFindsRow : OpenClaim := { program := "ythichhoiegkcjaa", sum := "4e914dea0ebb5e0c6298c344b73b01c51045dc8f5d329beb37d88623f576597f", func := "transom/transomlaw01.SeqFinds", spec := "seqFinds", apart := false }
def SeqFindsSaid : Prop := seqFindsRow.holds Try.pinned (OpenSpec.ofChange seqFindsSpec)

/-- ITS FALSE NEIGHBOUR: 'it returns false'. Refute it at one input. -/
def seqFindsWrong : ChangeSpec := { name := "seqFinds", fn := fun _ => fun
  | [d1, d2, d3] => { results := [.lit (.bool false)], args := [d1, d2, d3] }
  | _ => none }
def SeqFindsWrongFalsely : Prop := seqFindsRow.holds Try.pinned (OpenSpec.ofChange seqFindsWrong)

/- THE SECOND FORM. 'bulk': how many values and letters a reading holds, each counted each time it is reached (what is shared counts as often as it is met; a slice's spare places count too). A statement '..UptoSaid' is the law's where the arguments, and the package variables that the reading takes, are together of bulk at most 1048576: NARROWER than '..Said'. Prove '..Said' where nothing that the law and all that it calls make is longer than what came in: it says more and counts as full. Else prove '..UptoSaid'. A law counts once. -/
mutual
def uptoBulk {H : Type} : DataW H → Nat
  | .lit (.string bytes) => bytes.length + 1
  | .lit _ => 1
  | .nil => 1
  | .ptr d => uptoBulk d + 1
  | .slice elems spare => uptoBulkAll elems + uptoBulkAll spare + 1
  | .agg parts => uptoBulkAll parts + 1
  | .iface _ d => uptoBulk d + 1
  | .map entries => uptoBulkEntries entries + 1
  | .held _ => 1
def uptoBulkAll {H : Type} : List (DataW H) → Nat
  | [] => 0
  | d :: r => uptoBulk d + uptoBulkAll r
def uptoBulkEntries {H : Type} : List (Lit × DataW H) → Nat
  | [] => 0
  | x :: r => uptoBulkEntry x + uptoBulkEntries r
def uptoBulkEntry {H : Type} : Lit × DataW H → Nat
  | (.string bytes, d) => bytes.length + uptoBulk d + 1
  | (_, d) => uptoBulk d + 1
 end
def uptoSmall : (H : Type) → List (DataW H) → Bool := fun _ ds => decide (uptoBulkAll ds ≤ 1048576)
def OpenSpec.upto (s : _root_.Go.ChangeSpec) : _root_.Go.OpenSpec := { _root_.Go.OpenSpec.ofChange s with cond := some uptoSmall }

/-- 'transomlaw21.LeadTells', WHERE WHAT IT READS IS OF BULK AT MOST 1048576: true; the input reads as it did. -/
def leadTellsUptoRow : OpenClaim := { program := "ythichhoiegkcjaa", sum := "4e914dea0ebb5e0c6298c344b73b01c51045dc8f5d329beb37d88623f576597f", func := "transom/transomlaw21.LeadTells", spec := "leadTells", apart := false, narrowed := true }
def LeadTellsUptoSaid : Prop := leadTellsUptoRow.holds Try.pinned (OpenSpec.upto leadTellsSpec)

/-- 'transomlaw21.LeadStays', WHERE WHAT IT READS IS OF BULK AT MOST 1048576: true; the input reads as it did. -/
def leadStaysUptoRow : OpenClaim := { program := "ythichhoiegkcjaa", sum := "4e914dea0ebb5e0c6298c344b73b01c51045dc8f5d329beb37d88623f576597f", func := "transom/transomlaw21.LeadStays", spec := "leadStays", apart := false, narrowed := true }
def LeadStaysUptoSaid : Prop := leadStaysUptoRow.holds Try.pinned (OpenSpec.upto leadStaysSpec)

/-- 'transomlaw21.LeadMore', WHERE WHAT IT READS IS OF BULK AT MOST 1048576: true; the input reads as it did. -/
def leadMoreUptoRow : OpenClaim := { program := "ythichhoiegkcjaa", sum := "4e914dea0ebb5e0c6298c344b73b01c51045dc8f5d329beb37d88623f576597f", func := "transom/transomlaw21.LeadMore", spec := "leadMore", apart := false, narrowed := true }
def LeadMoreUptoSaid : Prop := leadMoreUptoRow.holds Try.pinned (OpenSpec.upto leadMoreSpec)

/-- 'transomlaw01.SeqTells', WHERE WHAT IT READS IS OF BULK AT MOST 1048576: true; the input reads as it did. -/
def seqTellsUptoRow : OpenClaim := { program := "ythichhoiegkcjaa", sum := "4e914dea0ebb5e0c6298c344b73b01c51045dc8f5d329beb37d88623f576597f", func := "transom/transomlaw01.SeqTells", spec := "seqTells", apart := false, narrowed := true }
def SeqTellsUptoSaid : Prop := seqTellsUptoRow.holds Try.pinned (OpenSpec.upto seqTellsSpec)

/-- 'transomlaw01.SeqLifts', WHERE WHAT IT READS IS OF BULK AT MOST 1048576: true; the input reads as it did. -/
def seqLiftsUptoRow : OpenClaim := { program := "ythichhoiegkcjaa", sum := "4e914dea0ebb5e0c6298c344b73b01c51045dc8f5d329beb37d88623f576597f", func := "transom/transomlaw01.SeqLifts", spec := "seqLifts", apart := false, narrowed := true }
def SeqLiftsUptoSaid : Prop := seqLiftsUptoRow.holds Try.pinned (OpenSpec.upto seqLiftsSpec)

/-- 'transomlaw01.SeqMoves', WHERE WHAT IT READS IS OF BULK AT MOST 1048576: true; the input reads as it did. -/
def seqMovesUptoRow : OpenClaim := { program := "ythichhoiegkcjaa", sum := "4e914dea0ebb5e0c6298c344b73b01c51045dc8f5d329beb37d88623f576597f", func := "transom/transomlaw01.SeqMoves", spec := "seqMoves", apart := false, narrowed := true }
def SeqMovesUptoSaid : Prop := seqMovesUptoRow.holds Try.pinned (OpenSpec.upto seqMovesSpec)

/-- 'transomlaw01.SeqFinds', WHERE WHAT IT READS IS OF BULK AT MOST 1048576: true; the input reads as it did. -/
def seqFindsUptoRow : OpenClaim := { program := "ythichhoiegkcjaa", sum := "4e914dea0ebb5e0c6298c344b73b01c51045dc8f5d329beb37d88623f576597f", func := "transom/transomlaw01.SeqFinds", spec := "seqFinds", apart := false, narrowed := true }
def SeqFindsUptoSaid : Prop := seqFindsUptoRow.holds Try.pinned (OpenSpec.upto seqFindsSpec)

end Rows
end Go.Proofs.Ythichhoiegkcjaa
