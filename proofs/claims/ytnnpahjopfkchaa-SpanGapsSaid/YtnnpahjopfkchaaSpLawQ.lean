/- Add and Cut of a list that may be, by a span that may be (or not): the contracts as the laws' walks take them. -/
import Derived.Test.YtnnpahjopfkchaaSpLawP
set_option linter.unusedVariables false
set_option linter.unusedSimpArgs false
namespace Go.Proofs.Ytnnpahjopfkchaa
open Go.RowKit Go.BigFrame

section
variable {w : World} {A : Option Addr} {S T : List Sp} {cap : Nat}
theorem add_bad (x : Sp) (hN : Norm S) (hl : S.length ≤ 250) (hx : x.2 < x.1) (hI : SpAt w.heap.size w A S) :
    Calls Try.prog 10 #[.slice A S.length cap, .agg #[.int .u64 (x.1 : Int), .int .u64 (x.2 : Int)]] w fun e w' => ∃ A c, e = .returned (.tuple #[.slice A 0 c, .int .i64 2]) ∧ Below w.heap.size w w' := by
  have h := add_any (cap := cap) x (by omega) hI
  rw [setR_bad hN hl hx] at h
  exact h.mono fun e w' ⟨A, c, h1, h2, h3⟩ => ⟨A, c, h1, h3⟩
theorem add_ok (x : Sp) (hN : Norm S) (hl : S.length ≤ 250) (hx : x.1 ≤ x.2) (hI : SpAt w.heap.size w A S) (hT : T = setS true S x) :
    Calls Try.prog 10 #[.slice A S.length cap, .agg #[.int .u64 (x.1 : Int), .int .u64 (x.2 : Int)]] w fun e w' => ∃ A c, e = .returned (.tuple #[.slice A T.length c, .int .i64 0]) ∧ SpAt w'.heap.size w' A T ∧ Below w.heap.size w w' := by
  have h := add_any (cap := cap) x (by omega) hI
  rw [setR_ok hN hl hx, ← hT] at h
  exact h
theorem cut_ok (x : Sp) (hN : Norm S) (hl : S.length ≤ 250) (hx : x.1 ≤ x.2) (hI : SpAt w.heap.size w A S) (hT : T = setS false S x) :
    Calls Try.prog 12 #[.slice A S.length cap, .agg #[.int .u64 (x.1 : Int), .int .u64 (x.2 : Int)]] w fun e w' => ∃ A c, e = .returned (.tuple #[.slice A T.length c, .int .i64 0]) ∧ SpAt w'.heap.size w' A T ∧ Below w.heap.size w w' := by
  have h := cut_any (cap := cap) x (by omega) hI
  rw [setR_ok hN hl hx, ← hT] at h
  exact h
theorem cov_yes (x : Sp) (hN : Norm S) (hl : S.length ≤ 250) (hx : x.1 ≤ x.2) (hc : ∀ n, x.1 ≤ n → n < x.2 → cov S n) (hI : SpAt w.heap.size w A S) :
    Calls Try.prog 18 #[.slice A S.length cap, .agg #[.int .u64 (x.1 : Int), .int .u64 (x.2 : Int)]] w fun e w' => e = .returned (.bool true) ∧ Below w.heap.size w w' := by
  have h := covers_det (cap := cap) x (by omega) hI
  rwa [cvB_true hN (by omega) hx hc] at h
theorem same_yes {B : Option Addr} {cap' : Nat} (hl : S.length ≤ 250) (hI : SpAt w.heap.size w A S) (hJ : SpAt w.heap.size w B S) :
    Calls Try.prog 15 #[.slice A S.length cap, .slice B S.length cap'] w fun e w' => e = .returned (.bool true) ∧ Below w.heap.size w w' := by
  have h := same_any (cap := cap) (cap' := cap') (by omega) (by omega) hI hJ
  simpa using h
end
theorem Blk.newB (w : World) (o : Obj) (t : TypeId) (cs : Array Value) : Blk ((w.alloc o).alloc (.cells cs t)) (w.heap.size + 1) t cs := by
  have := Blk.new (w.alloc o) t cs
  rwa [World.size_alloc] at this
/-- two spans, each in a block of its own -/
def Two (W : World) (g h : Nat) (x y : Sp) : Prop := W.cell? ⟨g, 0, none⟩ = some (.int .u64 (x.1 : Int)) ∧ W.cell? ⟨g, 1, none⟩ = some (.int .u64 (x.2 : Int)) ∧ W.cell? ⟨h, 0, none⟩ = some (.int .u64 (y.1 : Int)) ∧ W.cell? ⟨h, 1, none⟩ = some (.int .u64 (y.2 : Int))
theorem Two.of {W : World} {g h : Nat} {x y : Sp} (h1 : Blk W g 25 #[.int .u64 (x.1 : Int), .int .u64 (x.2 : Int)]) (h2 : Blk W h 25 #[.int .u64 (y.1 : Int), .int .u64 (y.2 : Int)]) : Two W g h x y :=
  ⟨by simpa using h1.cell 0, by simpa using h1.cell 1, by simpa using h2.cell 0, by simpa using h2.cell 1⟩
end Go.Proofs.Ytnnpahjopfkchaa
