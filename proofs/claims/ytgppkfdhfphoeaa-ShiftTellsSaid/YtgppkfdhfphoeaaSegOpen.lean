/- Segments and shifts that came in, by value: what they are. -/
import Derived.Test.YtgppkfdhfphoeaaOptOpen
import Derived.Test.YtgppkfdhfphoeaaPktMay
set_option linter.unusedVariables false
set_option linter.unusedSimpArgs false
set_option linter.unusedSectionVars false
namespace Go.Proofs.Ytgppkfdhfphoeaa
open Go.RowKit Go.ChangeShapes Go.WideShapes Go.Deep

theorem cellsSeg : Try.prog.cellsOf 39 = 16 := by kernel_rfl
theorem cellsShift : Try.prog.cellsOf 27 = 10 := by kernel_rfl
theorem cellsAddr2 : Try.prog.cellsOf 25 = 2 := by kernel_rfl
theorem cellsU8 : Try.prog.cellsOf 5 = 1 := by kernel_rfl
theorem cellsStr : Try.prog.cellsOf 9 = 1 := by kernel_rfl
/-- what is known of a segment that came in -/
structure SegF (w : World) (s0 s1 s2 s3 s4 s5 : Int) (f : Nat) (s7 : Int) (o : Op) (A : Option Addr) (c : Nat) (d : ByteArray) : Prop where
  b0 : 0 ≤ s0 ∧ s0 < 4294967296
  b1 : 0 ≤ s1 ∧ s1 < 65536
  b2 : 0 ≤ s2 ∧ s2 < 4294967296
  b3 : 0 ≤ s3 ∧ s3 < 65536
  b4 : 0 ≤ s4 ∧ s4 < 4294967296
  b5 : 0 ≤ s5 ∧ s5 < 4294967296
  f : f < 256
  b7 : 0 ≤ s7 ∧ s7 < 65536
  o : OptF w o A c
  d : d.size ≤ maxLen
structure ShiftF (x0 x1 x2 x3 x4 x5 x6 x7 x8 x9 : Int) : Prop where
  b0 : 0 ≤ x0 ∧ x0 < 4294967296
  b1 : 0 ≤ x1 ∧ x1 < 65536
  b2 : 0 ≤ x2 ∧ x2 < 4294967296
  b3 : 0 ≤ x3 ∧ x3 < 65536
  b4 : 0 ≤ x4 ∧ x4 < 4294967296
  b5 : 0 ≤ x5 ∧ x5 < 4294967296
  b6 : 0 ≤ x6 ∧ x6 < 4294967296
  b7 : 0 ≤ x7 ∧ x7 < 4294967296
  b8 : (Lit.int .i64 x8).wf = true
  b9 : (Lit.int .i64 x9).wf = true
theorem wf_u16b {a : Int} (h : (Lit.int .u16 a).wf = true) : 0 ≤ a ∧ a < 65536 := by obtain ⟨n, rfl, hn⟩ := wf_u16 h; omega
theorem wf_u32b {a : Int} (h : (Lit.int .u32 a).wf = true) : 0 ≤ a ∧ a < 4294967296 := by obtain ⟨n, rfl, hn⟩ := wf_u32 h; omega
section
variable {H : Type} {enc : TypeId × Value → H} {w : World} {base : Nat} {held : Bool}
theorem addr_cells {c0 c1 : Value} (h : ReadsAs enc Try.prog w base (fun _ => true) held 25 [c0, c1]) : ∃ a b : Int, c0 = .int .u32 a ∧ c1 = .int .u16 b ∧ (0 ≤ a ∧ a < 4294967296) ∧ 0 ≤ b ∧ b < 65536 := by
  obtain ⟨a, rfl, wa⟩ := (h.part Try.underlying25 0 rfl cellsU32 (ds := [c0]) rfl).int Try.underlying23
  obtain ⟨b, rfl, wb⟩ := (h.part Try.underlying25 1 rfl cellsU16 (ds := [c1]) rfl).int Try.underlying22
  exact ⟨a, b, rfl, rfl, wf_u32b wa, wf_u16b wb⟩
theorem open_seg {r : Reach} {b0 : Nat} {v : Value} {d : DataW H} {p : List MemPlace} (hv : Value.okWide Try.prog w r b0 39 v) (h : DataW.Trod enc Try.prog w base (fun _ => true) held 39 v d p) :
    ∃ (s0 s1 s2 s3 s4 s5 : Int) (f : Nat) (s7 : Int) (o : Op) (A : Option Addr) (c : Nat) (d : ByteArray), v = .agg (segO s0 s1 s2 s3 s4 s5 f s7 o A c d) ∧ SegF w s0 s1 s2 s3 s4 s5 f s7 o A c d := by
  obtain ⟨cs, rfl, hsz⟩ := okWide_struct Try.underlying39 hv
  obtain ⟨l⟩ := cs
  match l, hsz.trans cellsSeg with
  | [c0, c1, c2, c3, c4, c5, c6, c7, d0, d1, d2, d3, d4, d5, d6, c15], _ =>
    have h0 := ReadsAs.of h
    obtain ⟨s0, s1, rfl, rfl, w0, w1⟩ := addr_cells (h0.part Try.underlying39 0 rfl cellsAddr2 (ds := [c0, c1]) rfl)
    obtain ⟨s2, s3, rfl, rfl, w2, w3⟩ := addr_cells (h0.part Try.underlying39 1 rfl cellsAddr2 (ds := [c2, c3]) rfl)
    obtain ⟨s4, rfl, w4⟩ := (h0.part Try.underlying39 2 rfl cellsU32 (ds := [c4]) rfl).int Try.underlying23
    obtain ⟨s5, rfl, w5⟩ := (h0.part Try.underlying39 3 rfl cellsU32 (ds := [c5]) rfl).int Try.underlying23
    obtain ⟨f0, rfl, w6⟩ := (h0.part Try.underlying39 4 rfl cellsU8 (ds := [c6]) rfl).int Try.underlying5
    obtain ⟨s7, rfl, w7⟩ := (h0.part Try.underlying39 5 rfl cellsU16 (ds := [c7]) rfl).int Try.underlying22
    obtain ⟨o, A, c, hc, hf⟩ := opts_cells (h0.part Try.underlying39 6 rfl cellsOpts (ds := [d0, d1, d2, d3, d4, d5, d6]) rfl)
    obtain ⟨dd, rfl, wd⟩ := (h0.part Try.underlying39 7 rfl cellsStr (ds := [c15]) rfl).string Try.underlying9
    obtain ⟨f, rfl, wf⟩ := wf_u8 w6
    simp only [optC, List.cons.injEq, and_true] at hc
    obtain ⟨rfl, rfl, rfl, rfl, rfl, rfl, rfl⟩ := hc
    exact ⟨s0, s1, s2, s3, s4, s5, f, s7, o, A, c, dd, rfl, ⟨w0, w1, w2, w3, wf_u32b w4, wf_u32b w5, wf, wf_u16b w7, hf, wd⟩⟩
theorem open_shift {r : Reach} {b0 : Nat} {v : Value} {d : DataW H} {p : List MemPlace} (hv : Value.okWide Try.prog w r b0 27 v) (h : DataW.Trod enc Try.prog w base (fun _ => true) held 27 v d p) :
    ∃ x0 x1 x2 x3 x4 x5 x6 x7 x8 x9 : Int, v = .agg #[.int .u32 x0, .int .u16 x1, .int .u32 x2, .int .u16 x3, .int .u32 x4, .int .u32 x5, .int .u32 x6, .int .u32 x7, .int .i64 x8, .int .i64 x9] ∧ ShiftF x0 x1 x2 x3 x4 x5 x6 x7 x8 x9 := by
  obtain ⟨cs, rfl, hsz⟩ := okWide_struct Try.underlying27 hv
  obtain ⟨l⟩ := cs
  match l, hsz.trans cellsShift with
  | [c0, c1, c2, c3, c4, c5, c6, c7, c8, c9], _ =>
    have h0 := ReadsAs.of h
    obtain ⟨s0, s1, rfl, rfl, w0, w1⟩ := addr_cells (h0.part Try.underlying27 0 rfl cellsAddr2 (ds := [c0, c1]) rfl)
    obtain ⟨s2, s3, rfl, rfl, w2, w3⟩ := addr_cells (h0.part Try.underlying27 1 rfl cellsAddr2 (ds := [c2, c3]) rfl)
    obtain ⟨s4, rfl, w4⟩ := (h0.part Try.underlying27 2 rfl cellsU32 (ds := [c4]) rfl).int Try.underlying23
    obtain ⟨s5, rfl, w5⟩ := (h0.part Try.underlying27 3 rfl cellsU32 (ds := [c5]) rfl).int Try.underlying23
    obtain ⟨s6, rfl, w6⟩ := (h0.part Try.underlying27 4 rfl cellsU32 (ds := [c6]) rfl).int Try.underlying23
    obtain ⟨s7, rfl, w7⟩ := (h0.part Try.underlying27 5 rfl cellsU32 (ds := [c7]) rfl).int Try.underlying23
    obtain ⟨s8, rfl, w8⟩ := (h0.part Try.underlying27 6 rfl cellsInt (ds := [c8]) rfl).int Try.underlying3
    obtain ⟨s9, rfl, w9⟩ := (h0.part Try.underlying27 7 rfl cellsInt (ds := [c9]) rfl).int Try.underlying3
    exact ⟨s0, s1, s2, s3, s4, s5, s6, s7, s8, s9, rfl, ⟨w0, w1, w2, w3, wf_u32b w4, wf_u32b w5, wf_u32b w6, wf_u32b w7, w8, w9⟩⟩
end
end Go.Proofs.Ytgppkfdhfphoeaa
