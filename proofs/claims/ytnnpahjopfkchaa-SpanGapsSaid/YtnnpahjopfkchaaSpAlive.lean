/- transomlaw02.alive, long. -/
import Derived.Test.YtnnpahjopfkchaaSpSet
import Derived.Test.YtnnpahjopfkchaaSpan10
import Derived.Test.YtnnpahjopfkchaaSpan11
import Derived.Test.YtnnpahjopfkchaaSpan6
import Derived.Test.YtnnpahjopfkchaaSpan7
import Derived.Test.YtnnpahjopfkchaaSpan8
set_option linter.unusedVariables false
set_option linter.unusedSimpArgs false
namespace Go.Proofs.Ytnnpahjopfkchaa
open Go.RowKit Go.BigFrame

theorem spAt_blk {W : World} {g : Nat} {l : List Sp} (h : Blk W g 25 (l.flatMap spC).toArray) : SpAt W.heap.size W (some ⟨g, 0, none⟩) l := by
  refine .inr ⟨g, 0, rfl, h.lt, fun j hj => ?_⟩
  obtain ⟨r1, r2⟩ := flat2_get l j hj
  rw [Nat.zero_add]
  exact ⟨(h.cell (j * 2)).trans (by simpa using r1), (h.cell (j * 2 + 1)).trans (by simpa using r2)⟩
def l0 : List Sp := [(2, 4), (6, 8)]
theorem norm_l0 : Norm l0 := ⟨by decide, fun r hr => by rw [List.mem_singleton.1 hr]; decide, norm_one (by decide)⟩
theorem mayB_l0 : mayB l0 = true := (mayB_iff l0).2 ⟨norm_l0, by decide⟩
theorem mayB_28 : mayB [(2, 8)] = true := (mayB_iff _).2 ⟨norm_one (by decide), by decide⟩
theorem mayB_22 : mayB [(2, 2)] = false := by
  cases h : mayB [(2, 2)] with
  | false => rfl
  | true => have := ((mayB_iff _).1 h).1.1; exact absurd this (by decide)
theorem r_add : setR true l0 (4, 6) = ([(2, 8)], 0) := by
  unfold setR
  rw [if_neg (by rw [mayB_l0]; decide), if_neg (by decide)]
  rfl
theorem r_cut : setR false [(2, 8)] (3, 5) = ([(2, 3), (5, 8)], 0) := by
  unfold setR
  rw [if_neg (by rw [mayB_28]; decide), if_neg (by decide)]
  rfl
theorem r_bad : setR true [(2, 2)] (0, 0) = ([], 8) := by unfold setR; rw [if_pos mayB_22]
theorem r_arg : setR false l0 (1, 0) = ([], 2) := by unfold setR; rw [if_neg (by rw [mayB_l0]; decide), if_pos (by decide)]
end Go.Proofs.Ytnnpahjopfkchaa
