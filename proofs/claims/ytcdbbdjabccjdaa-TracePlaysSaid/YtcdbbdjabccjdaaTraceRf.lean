/- Layer 31 (trace): the document's trace in memory; live. -/
import Derived.Test.YtcdbbdjabccjdaaTraceP
import Derived.IntWalk
set_option linter.unusedVariables false
set_option linter.unusedSimpArgs false
namespace Go.Proofs.Ytcdbbdjabccjdaa
open Go.RowKit Go.BigFrame

def rfC (t : Tr) : Array Value := #[.bool t.s0.opn, .string t.s0.wr, .int .i64 (t.s0.rd : Int), .bool t.s0.cl, .bool t.s0.eof, .bool t.s0.dd, .bool t.s1.opn, .string t.s1.wr, .int .i64 (t.s1.rd : Int), .bool t.s1.cl, .bool t.s1.eof, .bool t.s1.dd, .bool t.cause]
abbrev RfAt (w : World) (b : Nat) (t : Tr) : Prop := Blk w b 32 #[.bool t.s0.opn, .string t.s0.wr, .int .i64 (t.s0.rd : Int), .bool t.s0.cl, .bool t.s0.eof, .bool t.s0.dd, .bool t.s1.opn, .string t.s1.wr, .int .i64 (t.s1.rd : Int), .bool t.s1.cl, .bool t.s1.eof, .bool t.s1.dd, .bool t.cause]
theorem rlive_0 (w : World) (b : Nat) (o d : Bool) (h : w.cell? ⟨b, 0, none⟩ = some (.bool o)) (h5 : w.cell? ⟨b, 5, none⟩ = some (.bool d)) :
    Calls Try.prog 50 #[.pointer (some ⟨b, 0, none⟩), .int .i64 0] w fun e w' => e = .returned (.bool (o && !d)) ∧ w = w' := by
  cases o <;> cases d
  all_goals
    go_enter Try.func50, Try.ntmps50
    go_wp2
    go_ret
    exact ⟨rfl, rfl⟩
theorem rlive_1 (w : World) (b : Nat) (o d : Bool) (h : w.cell? ⟨b, 6, none⟩ = some (.bool o)) (h5 : w.cell? ⟨b, 11, none⟩ = some (.bool d)) :
    Calls Try.prog 50 #[.pointer (some ⟨b, 0, none⟩), .int .i64 1] w fun e w' => e = .returned (.bool (o && !d)) ∧ w = w' := by
  cases o <;> cases d
  all_goals
    go_enter Try.func50, Try.ntmps50
    go_wp2
    go_ret
    exact ⟨rfl, rfl⟩
end Go.Proofs.Ytcdbbdjabccjdaa
