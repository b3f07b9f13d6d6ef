/- The law's own map of pairs that were seen: one more: what each operation does to it. -/
import Derived.Test.YtlikngepcbmhdaaTabN
import Derived.Test.YtlikngepcbmhdaaMapZ
set_option linter.unusedVariables false
set_option linter.unusedSimpArgs false
namespace Go.Proofs.Ytlikngepcbmhdaa
open Go.ChangeShapes Go.WideShapes Go.ChangeAt Go.RowKit Go.Maps Go.BigFrame
open Go.ChangeMaps (setBlock)

theorem zeroN (w : World) : (zeroValue 3).run Try.prog w = .ok (.int .i64 0) w := by kernel_rfl
def prV (p : Pr) : Value := .agg #[.int .u32 p.a, .int .u16 p.b, .int .u32 p.c, .int .u16 p.d]
theorem seen_run {W : World} {m n : Nat} {p : Pr} {M : Lit → Option Value} (h : MapIs Try.prog 34 W m n M) (hp : p.wf) (hno : M (pairL p) = none) (hn : n < maxLen) :
    ∃ (st : Nat) (W1 W2 : World), (∀ q, (Instr.lookup 61 (.map (some m)) (prV p) false).run Try.prog (W.drewN q) = .ok (.int .i64 0) (W.drewN q)) ∧
      (∀ q, (Instr.mapEntry 61 (.map (some m)) (prV p)).run Try.prog (W.drewN q) = .ok (.tuple #[.int .i64 0, goInt st]) (W1.drewN q)) ∧
      (∀ q, (Instr.lookup 61 (.map (some m)) (prV p) false).run Try.prog (W1.drewN q) = .ok (.int .i64 0) (W1.drewN q)) ∧
      (∀ q, (Instr.entryStore 61 (.map (some m)) (goInt st) (.int .i64 1)).run Try.prog (W1.drewN q) = .ok () (W2.drewN q)) ∧
      MapIs Try.prog 34 W2 m (n + 1) (updM M (pairL p) (some (.int .i64 1))) ∧ W.grownBy W1 (some m) ∧ W.grownBy W2 (some m) := by
  obtain ⟨st, B0, B1, B2, b1, b2, b3, b4, b5, b6, b7, b8⟩ := h.entryZ lawPair Try.underlying61 hn zeroN (key_pair hp) hno
  have h1 : (setBlock W m B1).heap[m]? = some B1 := set_at _ b1
  have g1 := set_grown B1 b1
  have g2 := set_grown (B2 (.int .i64 1)) h1
  refine ⟨st, setBlock W m B1, setBlock (setBlock W m B1) m (B2 (.int .i64 1)), fun q => ?_, fun q => b2 (W.drewN q) b1, fun q => ?_, fun q => b3 ((setBlock W m B1).drewN q) _ h1, b4 _ _ (set_at _ h1), g1, ?_⟩
  · have e := (h.drewN q).look lawPair Try.underlying61 (zeroN (W.drewN q)) (key_pair hp)
    rw [hno] at e
    exact e
  · have hm := b4 ((setBlock W m B1).drewN q) (.int .i64 0) (by rw [b8]; exact h1)
    have e := hm.look lawPair Try.underlying61 (zeroN _) (key_pair hp)
    rw [updM_same] at e
    exact e
  · exact ⟨g2.os.trans g1.os, g2.tape.trans g1.tape, g2.output.trans g1.output, Nat.le_trans g1.size g2.size, fun i hi hne => (g2.block i (Nat.lt_of_lt_of_le hi g1.size) hne).trans (g1.block i hi hne)⟩
end Go.Proofs.Ytlikngepcbmhdaa
