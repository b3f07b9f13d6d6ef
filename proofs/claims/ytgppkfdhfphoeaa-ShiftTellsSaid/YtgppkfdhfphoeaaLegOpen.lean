/- Legs that came in, by value. -/
import Derived.Test.YtgppkfdhfphoeaaSegOpen
set_option linter.unusedVariables false
set_option linter.unusedSimpArgs false
set_option linter.unusedSectionVars false
namespace Go.Proofs.Ytgppkfdhfphoeaa
open Go.RowKit Go.ChangeShapes Go.WideShapes Go.Deep
theorem cellsLeg : Try.prog.cellsOf 34 = 10 := by kernel_rfl
section
variable {H : Type} {enc : TypeId × Value → H} {w : World} {base : Nat} {held : Bool}
theorem open_leg {r : Reach} {b0 : Nat} {v : Value} {d : DataW H} {p : List MemPlace} (hv : Value.okWide Try.prog w r b0 34 v) (h : DataW.Trod enc Try.prog w base (fun _ => true) held 34 v d p) :
    ∃ x0 x1 x2 x3 x4 x5 x6 x7 x8 x9 : Int, v = .agg #[.int .u32 x0, .int .u16 x1, .int .u32 x2, .int .u16 x3, .int .u32 x4, .int .u32 x5, .int .u32 x6, .int .u32 x7, .int .i64 x8, .int .i64 x9] ∧ ShiftF x0 x1 x2 x3 x4 x5 x6 x7 x8 x9 := by
  obtain ⟨cs, rfl, hsz⟩ := okWide_struct Try.underlying34 hv
  obtain ⟨l⟩ := cs
  match l, hsz.trans cellsLeg with
  | [c0, c1, c2, c3, c4, c5, c6, c7, c8, c9], _ =>
    have h0 := ReadsAs.of h
    obtain ⟨s0, s1, rfl, rfl, w0, w1⟩ := addr_cells (h0.part Try.underlying34 0 rfl cellsAddr2 (ds := [c0, c1]) rfl)
    obtain ⟨s2, s3, rfl, rfl, w2, w3⟩ := addr_cells (h0.part Try.underlying34 1 rfl cellsAddr2 (ds := [c2, c3]) rfl)
    obtain ⟨s4, rfl, w4⟩ := (h0.part Try.underlying34 2 rfl cellsU32 (ds := [c4]) rfl).int Try.underlying23
    obtain ⟨s5, rfl, w5⟩ := (h0.part Try.underlying34 3 rfl cellsU32 (ds := [c5]) rfl).int Try.underlying23
    obtain ⟨s6, rfl, w6⟩ := (h0.part Try.underlying34 4 rfl cellsU32 (ds := [c6]) rfl).int Try.underlying23
    obtain ⟨s7, rfl, w7⟩ := (h0.part Try.underlying34 5 rfl cellsU32 (ds := [c7]) rfl).int Try.underlying23
    obtain ⟨s8, rfl, w8⟩ := (h0.part Try.underlying34 6 rfl cellsInt (ds := [c8]) rfl).int Try.underlying3
    obtain ⟨s9, rfl, w9⟩ := (h0.part Try.underlying34 7 rfl cellsInt (ds := [c9]) rfl).int Try.underlying3
    exact ⟨s0, s1, s2, s3, s4, s5, s6, s7, s8, s9, rfl, ⟨w0, w1, w2, w3, wf_u32b w4, wf_u32b w5, wf_u32b w6, wf_u32b w7, w8, w9⟩⟩
end
end Go.Proofs.Ytgppkfdhfphoeaa
