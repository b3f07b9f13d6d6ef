/- The contracts of Has, Gap, Covers (the program's, and the document's) with the answer as a function of the list; what a world keeps that only grows. -/
import Derived.Test.YtnnpahjopfkchaaSpLaw
import Derived.Test.YtnnpahjopfkchaaFlowA
set_option linter.unusedVariables false
set_option linter.unusedSimpArgs false
namespace Go.Proofs.Ytnnpahjopfkchaa
open Go.RowKit Go.BigFrame

noncomputable def covB (l : List Sp) (n : Nat) : Bool := @decide (cov l n) (Classical.propDecidable _)
theorem covB_iff (l : List Sp) (n : Nat) : covB l n = true ↔ cov l n := by unfold covB; simp
noncomputable def cvB (l : List Sp) (x : Sp) : Bool := @decide (mayB l = true ∧ x.1 ≤ x.2 ∧ (x.1 = x.2 ∨ ∃ q ∈ l, q.1 ≤ x.1 ∧ x.2 ≤ q.2)) (Classical.propDecidable _)
theorem cvB_iff (l : List Sp) (x : Sp) : CvP l x (cvB l x) := by unfold CvP cvB; simp
noncomputable def gapN (l : List Sp) (n : Nat) : Nat := @dite _ (∃ r, GapP l n r) (Classical.propDecidable _) (fun h => h.choose) (fun _ => 0)
theorem gapN_eq {l : List Sp} {n r : Nat} (h : GapP l n r) : gapN l n = r := by
  have he : ∃ r, GapP l n r := ⟨r, h⟩
  unfold gapN
  rw [dif_pos he]
  exact he.choose_spec.uniq h
section
variable {w : World} {A : Option Addr} {l : List Sp} {cap : Nat}
theorem has_det (n : Nat) (hm : l.length ≤ 1000000) (hI : SpAt w.heap.size w A l) : Calls Try.prog 16 #[.slice A l.length cap, .int .u64 (n : Int)] w fun e w' => e = .returned (.bool (mayB l && covB l n)) ∧ Below w.heap.size w w' := by
  obtain ⟨b, hb, c⟩ := has_any (cap := cap) n hm hI
  rw [show (mayB l && covB l n) = b from bool_iff (P := mayB l = true ∧ cov l n) (by rw [Bool.and_eq_true, covB_iff]) hb]
  exact c
theorem rhas_det (n : Nat) (hm : l.length ≤ 1000000) (hI : SpAt w.heap.size w A l) : Calls Try.prog 17 #[.slice A l.length cap, .int .u64 (n : Int)] w fun e w' => e = .returned (.bool (covB l n)) ∧ Below w.heap.size w w' := by
  obtain ⟨b, hb, c⟩ := rhas_any (cap := cap) n hm hI
  rw [show covB l n = b from bool_iff (covB_iff l n) hb]
  exact c.mono fun e w' ⟨he, hw⟩ => ⟨he, hw ▸ Below.refl _ _⟩
theorem covers_det (x : Sp) (hm : l.length ≤ 1000000) (hI : SpAt w.heap.size w A l) : Calls Try.prog 18 #[.slice A l.length cap, .agg #[.int .u64 (x.1 : Int), .int .u64 (x.2 : Int)]] w fun e w' => e = .returned (.bool (cvB l x)) ∧ Below w.heap.size w w' := by
  obtain ⟨b, hb, c⟩ := covers_any (cap := cap) x hm hI
  rw [bool_iff (cvB_iff l x) hb]
  exact c
theorem rcovers_det (x : Sp) (hm : l.length ≤ 1000000) (hI : SpAt w.heap.size w A l) : Calls Try.prog 19 #[.slice A l.length cap, .agg #[.int .u64 (x.1 : Int), .int .u64 (x.2 : Int)]] w fun e w' => e = .returned (.bool (cvB l x)) ∧ Below w.heap.size w w' := by
  obtain ⟨b, hb, c⟩ := rcovers_any (cap := cap) x hm hI
  rw [bool_iff (cvB_iff l x) hb]
  exact c
theorem gap_det (n : Nat) (hm : l.length ≤ 1000000) (hI : SpAt w.heap.size w A l) : Calls Try.prog 20 #[.slice A l.length cap, .int .u64 (n : Int)] w fun e w' => e = .returned (.int .u64 (gapN l n : Int)) ∧ Below w.heap.size w w' := by
  obtain ⟨r, hr, c⟩ := gap_any (cap := cap) n hm hI
  rw [gapN_eq hr]
  exact c
theorem rgap_det (n : Nat) (hm : l.length ≤ 1000000) (hI : SpAt w.heap.size w A l) : Calls Try.prog 21 #[.slice A l.length cap, .int .u64 (n : Int)] w fun e w' => e = .returned (.int .u64 (gapN l n : Int)) ∧ Below w.heap.size w w' := by
  obtain ⟨r, hr, c⟩ := rgap_any (cap := cap) n hm hI
  rw [gapN_eq hr]
  exact c
end
/-- all that was there at W0 is there -/
def Fresh (W0 W : World) : Prop := Below W0.heap.size W0 W
theorem Fresh.below {W0 W W' : World} (h : Fresh W0 W) (hb : Below W.heap.size W W') : Fresh W0 W' := Below.trans h (hb.mono (Below.size h))
theorem fresh_calls {W0 : World} {F : FuncId} {vals : Array Value} {v : Value} (h : ∀ W, Below W0.heap.size W0 W → Calls Try.prog F vals W fun e w' => e = .returned v ∧ Below W.heap.size W w') :
    ∀ y : Cls (Fresh W0), Calls Try.prog F vals y.w fun e w' => e = .returned v ∧ Fresh W0 w' ∧ Below y.w.heap.size y.w w' :=
  fun y => (h y.w y.h).mono fun e w' ⟨he, hb⟩ => ⟨he, Fresh.below y.h hb, hb⟩
end Go.Proofs.Ytnnpahjopfkchaa
