/- Layer 12 (table), of numbers: All. -/
import Derived.Test.YtlikngepcbmhdaaTabH
import Derived.Test.YtlikngepcbmhdaaSqSorted
set_option linter.unusedVariables false
set_option linter.unusedSimpArgs false
namespace Go.Proofs.Ytlikngepcbmhdaa
open Go.ChangeShapes Go.WideShapes Go.ChangeAt Go.RowKit Go.Maps

/-- All: the numbers of the entries, in order -/
theorem all_i {w : World} {t : Nat} {s : Tab} (h : TabAt TI w t s) (hk : s.n ≤ 1000000) :
    Calls Try.prog 21 #[.pointer (some ⟨t, 0, none⟩)] w fun e w' => ∃ v ss, e = .returned v ∧ S64.KeysAre (allM s.E) s.n ss ∧ S64.SortedIs w w' s.n ss v ∧ Below w.heap.size w w' := by
  have hc2 := h.blk.cell 2
  simp [tabCells] at hc2
  have c1 := S64.keys_any (some s.ba) w
  have c2 := S64.sorted_any w.heap.size s.ba s.n (allM s.E) (w.alloc (.cells #[.map (some s.ba)] 64)) (by simp) ((Blk.new w 64 #[.map (some s.ba)]).cell 0) (h.all_.alloc _) hk
  clear h
  generalize s.ba = ba at *
  generalize s.n = n at *
  generalize allM s.E = M at *
  go_enter Try.func21, Try.ntmps21
  go_wp2_with (first
    | (go_at_call 33; with_reducible refine c1.mono ?_; rintro e w1 ⟨rfl, rfl⟩)
    | (go_at_call 32; with_reducible refine c2.mono ?_; rintro e w2 ⟨v, ss, rfl, h1, h2, h3⟩))
  go_ret
  refine ⟨v, ss, rfl, h1, ?_, ?_⟩
  · obtain ⟨A, cap, e, h⟩ := h2
    refine ⟨A, cap, e, h.imp id ?_⟩
    rintro ⟨g, e1, e2, e3⟩
    exact ⟨g, e1, by simp at e2; omega, e3⟩
  · exact ((Below.refl _ w).alloc (Nat.le_refl _) _).trans (h3.mono (by simp))
end Go.Proofs.Ytlikngepcbmhdaa
