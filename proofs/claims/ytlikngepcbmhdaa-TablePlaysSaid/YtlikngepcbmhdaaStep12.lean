/- The script of layer 12's laws: a slice of steps, each of eight cells. -/
import Derived.Test.YtlikngepcbmhdaaNestRows
import Derived.Test.YtlikngepcbmhdaaTabKeys
set_option linter.unusedVariables false
set_option linter.unusedSimpArgs false
namespace Go.Proofs.Ytlikngepcbmhdaa
open Go.RowKit Go.ChangeShapes Go.WideShapes Go.Deep

structure St12 where
  d : Int
  p : Pr
  n : Nat
  m : Nat
  v : Int
def St12.cells (x : St12) : List Value := [.int .i64 x.d, .int .u32 x.p.a, .int .u16 x.p.b, .int .u32 x.p.c, .int .u16 x.p.d, .int .u64 (x.n : Int), .int .u64 (x.m : Int), .int .i64 x.v]
def St12.wf (x : St12) : Prop := x.p.wf ∧ x.n < 18446744073709551616 ∧ x.m < 18446744073709551616 ∧ (Lit.int .i64 x.d).wf = true ∧ (Lit.int .i64 x.v).wf = true
def Steps12 (w : World) (A : Option Addr) (len : Nat) : Prop := len ≤ maxLen ∧ ∀ i, i < len → ∃ b off x, A = some ⟨b, off, none⟩ ∧ b < w.heap.size ∧ St12.wf x ∧ ∀ j, j < 8 → w.cell? ⟨b, off + i * 8 + j, none⟩ = x.cells[j]?
theorem Steps12.below {w w' : World} {A : Option Addr} {len : Nat} (h : Steps12 w A len) (hb : Below w.heap.size w w') : Steps12 w' A len := by
  refine ⟨h.1, fun i hi => ?_⟩
  obtain ⟨b, off, x, h1, h2, h3, h4⟩ := h.2 i hi
  exact ⟨b, off, x, h1, Nat.lt_of_lt_of_le h2 hb.size, h3, fun j hj => by rw [World.cell?_of_block (hb.block b h2)]; exact h4 j hj⟩
theorem one_list {α : Type} {l : List α} {i : Nat} (h : i < l.length) : (l.drop i).take 1 = [l[i]] := by
  rw [List.drop_eq_getElem_cons h]; rfl
section
variable {H : Type} {enc : TypeId × Value → H} {w : World} {base : Nat} {held : Bool}
theorem steps_rows {A : Option Addr} {len cap : Nat} {d : DataW H} {p : List MemPlace} (h : DataW.Trod enc Try.prog w base (fun _ => true) held 40 (.slice A len cap) d p) : Steps12 w A len := by
  obtain ⟨h1, h2⟩ := nest_rows Try.underlying40 (C := 8) (by kernel_rfl) (by decide) h
  refine ⟨h1, fun i hi => ?_⟩
  obtain ⟨b, off, cs, hA, hb, hl, hc, hr⟩ := h2 i hi
  obtain ⟨c0, c1, c2, c3, c4, c5, c6, c7, rfl⟩ : ∃ c0 c1 c2 c3 c4 c5 c6 c7, cs = [c0, c1, c2, c3, c4, c5, c6, c7] := by
    match cs, hl with
    | [c0, c1, c2, c3, c4, c5, c6, c7], _ => exact ⟨_, _, _, _, _, _, _, _, rfl⟩
  have r0 := hr.part Try.underlying46 0 rfl (k := 1) (by kernel_rfl) (ds := [c0]) rfl
  have r1 := hr.part Try.underlying46 1 rfl (k := 4) (by kernel_rfl) (ds := [c1, c2, c3, c4]) rfl
  have r2 := hr.part Try.underlying46 2 rfl (k := 1) (by kernel_rfl) (ds := [c5]) rfl
  have r3 := hr.part Try.underlying46 3 rfl (k := 1) (by kernel_rfl) (ds := [c6]) rfl
  have r4 := hr.part Try.underlying46 4 rfl (k := 1) (by kernel_rfl) (ds := [c7]) rfl
  have p0 := r1.part Try.underlying34 0 rfl (k := 2) (by kernel_rfl) (ds := [c1, c2]) rfl
  have p1 := r1.part Try.underlying34 1 rfl (k := 2) (by kernel_rfl) (ds := [c3, c4]) rfl
  have a0 := p0.part Try.underlying32 0 rfl (k := 1) (by kernel_rfl) (ds := [c1]) rfl
  have a1 := p0.part Try.underlying32 1 rfl (k := 1) (by kernel_rfl) (ds := [c2]) rfl
  have b0 := p1.part Try.underlying32 0 rfl (k := 1) (by kernel_rfl) (ds := [c3]) rfl
  have b1 := p1.part Try.underlying32 1 rfl (k := 1) (by kernel_rfl) (ds := [c4]) rfl
  obtain ⟨x0, rfl, w0⟩ := r0.int Try.underlying3
  obtain ⟨x1, rfl, w1⟩ := a0.int (k := .u32) (by kernel_rfl)
  obtain ⟨x2, rfl, w2⟩ := a1.int (k := .u16) (by kernel_rfl)
  obtain ⟨x3, rfl, w3⟩ := b0.int (k := .u32) (by kernel_rfl)
  obtain ⟨x4, rfl, w4⟩ := b1.int (k := .u16) (by kernel_rfl)
  obtain ⟨x5, rfl, w5⟩ := r2.int Try.underlying26
  obtain ⟨x6, rfl, w6⟩ := r3.int Try.underlying26
  obtain ⟨x7, rfl, w7⟩ := r4.int Try.underlying3
  obtain ⟨l5, g5⟩ := bounds_u64 w5
  obtain ⟨l6, g6⟩ := bounds_u64 w6
  obtain ⟨n, rfl⟩ : ∃ n : Nat, x5 = (n : Int) := ⟨x5.toNat, by omega⟩
  obtain ⟨m, rfl⟩ : ∃ n : Nat, x6 = (n : Int) := ⟨x6.toNat, by omega⟩
  exact ⟨b, off, ⟨x0, ⟨x1, x2, x3, x4⟩, n, m, x7⟩, hA, hb, ⟨⟨w1, w2, w3, w4⟩, by show n < _; omega, by show m < _; omega, w0, w7⟩, hc⟩
end
end Go.Proofs.Ytlikngepcbmhdaa
