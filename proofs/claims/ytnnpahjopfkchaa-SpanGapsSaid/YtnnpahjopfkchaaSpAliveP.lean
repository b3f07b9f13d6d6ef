/- Plain: which answers are determined; the contracts at alive's literal list. -/
import Derived.Test.YtnnpahjopfkchaaSpAlive
set_option linter.unusedVariables false
set_option linter.unusedSimpArgs false
namespace Go.Proofs.Ytnnpahjopfkchaa
open Go.RowKit Go.BigFrame

section
variable {w : World} {A : Option Addr} {cap : Nat}
theorem gapP_24 : GapP l0 2 4 := .inr ⟨mayB_l0, .inl ⟨(2, 4), by decide, ⟨by decide, by decide⟩, rfl⟩⟩
theorem gapP_00 : GapP l0 0 0 := .inr ⟨mayB_l0, .inr ⟨by rintro ⟨q, hq, h⟩; simp [l0] at hq; rcases hq with rfl | rfl <;> simp at h, rfl⟩⟩
theorem GapP.uniq {l : List Sp} {n r r' : Nat} (h : GapP l n r) (h' : GapP l n r') : r = r' := by
  rcases h with ⟨h1, rfl⟩ | ⟨h1, h2⟩ <;> rcases h' with ⟨g1, rfl⟩ | ⟨g1, g2⟩
  · rfl
  · rw [h1] at g1; cases g1
  · rw [h1] at g1; cases g1
  · have hN := ((mayB_iff l).1 h1).1
    rcases h2 with ⟨q, hq, hqn, rfl⟩ | ⟨hc, rfl⟩ <;> rcases g2 with ⟨q', hq', hqn', rfl⟩ | ⟨hc', rfl⟩
    · rw [hN.uniq hq hq' hqn.1 hqn.2 hqn'.1 hqn'.2]
    · exact absurd ⟨q, hq, hqn.1, hqn.2⟩ hc'
    · exact absurd ⟨q', hq', hqn'.1, hqn'.2⟩ hc
    · rfl
theorem bool_iff {b b' : Bool} {P : Prop} (h : b = true ↔ P) (h' : b' = true ↔ P) : b = b' := by
  cases b <;> cases b' <;> simp_all
theorem has_7 : HasP l0 7 true := ⟨fun _ => ⟨mayB_l0, (6, 8), by decide, by decide, by decide⟩, fun _ => rfl⟩
theorem has_8 : HasP l0 8 false := ⟨(fun h => by cases h), fun ⟨_, h⟩ => by obtain ⟨q, hq, h⟩ := h; simp [l0] at hq; rcases hq with rfl | rfl <;> simp at h⟩
theorem cv_68 : CvP l0 (6, 8) true := ⟨fun _ => ⟨mayB_l0, by decide, .inr ⟨(6, 8), by decide, by decide, by decide⟩⟩, fun _ => rfl⟩
theorem gap_l0 (n r : Nat) (hr : GapP l0 n r) (h : SpAt w.heap.size w A l0) : Calls Try.prog 20 #[.slice A 2 cap, .int .u64 (n : Int)] w fun e w' => e = .returned (.int .u64 (r : Int)) ∧ Below w.heap.size w w' := by
  obtain ⟨r', hr', c⟩ := gap_any (cap := cap) (l := l0) n (by decide) h
  rw [hr.uniq hr']
  exact c
theorem has_l0 (n : Nat) (b : Bool) (hb : HasP l0 n b) (h : SpAt w.heap.size w A l0) : Calls Try.prog 16 #[.slice A 2 cap, .int .u64 (n : Int)] w fun e w' => e = .returned (.bool b) ∧ Below w.heap.size w w' := by
  obtain ⟨b', hb', c⟩ := has_any (cap := cap) (l := l0) n (by decide) h
  rw [bool_iff hb hb']
  exact c
theorem cov_l0 (h : SpAt w.heap.size w A l0) : Calls Try.prog 18 #[.slice A 2 cap, .agg #[.int .u64 6, .int .u64 8]] w fun e w' => e = .returned (.bool true) ∧ Below w.heap.size w w' := by
  obtain ⟨b', hb', c⟩ := covers_any (cap := cap) (l := l0) (6, 8) (by decide) h
  rw [← bool_iff cv_68 hb'] at c
  exact c
theorem u64_l0 : U64 l0 := by intro q hq; simp [l0] at hq; rcases hq with rfl | rfl <;> decide
theorem len_l0 (h : SpAt w.heap.size w A l0) : Calls Try.prog 22 #[.slice A 2 cap] w fun e w' => e = .returned (.int .u64 4) ∧ Below w.heap.size w w' := by
  have c := len_any (cap := cap) (l := l0) (by decide) h u64_l0
  rw [show lenN l0 = 4 by unfold lenN; rw [mayB_l0]; rfl] at c
  exact c
theorem may_l0 (h : SpAt w.heap.size w A l0) : Calls Try.prog 13 #[.slice A 2 cap] w fun e w' => e = .returned (.bool true) ∧ Below w.heap.size w w' := by
  have c := may_any (cap := cap) (l := l0) (by decide) h
  rw [mayB_l0] at c
  exact c
end
end Go.Proofs.Ytnnpahjopfkchaa
