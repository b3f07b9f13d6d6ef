/- Layer 12 (table), of numbers: Pairs where there is none; what a Find answers, next to the reference's. -/
import Derived.Test.YtlikngepcbmhdaaTabR
import Derived.Test.YtlikngepcbmhdaaRef12D
set_option linter.unusedVariables false
set_option linter.unusedSimpArgs false
namespace Go.Proofs.Ytlikngepcbmhdaa
open Go.ChangeShapes Go.WideShapes Go.ChangeAt Go.RowKit Go.Maps

set_option maxRecDepth 100000 in
set_option maxHeartbeats 1000000 in
theorem pairs_no_i {w : World} {t id : Nat} {s : Tab} (h : TabAt TI w t s) (hid : id < 18446744073709551616) (he : s.E id = none) :
    Calls Try.prog 23 #[.pointer (some ⟨t, 0, none⟩), .int .u64 (id : Int)] w fun e' w' => e' = .returned (.tuple #[.agg #[.int .u32 0, .int .u16 0, .int .u32 0, .int .u16 0], .agg #[.int .u32 0, .int .u16 0, .int .u32 0, .int .u16 0], .bool false]) ∧ Below w.heap.size w w' := by
  obtain ⟨W, hW⟩ : ∃ W, W = (w.alloc (.cells #[.int .u32 0, .int .u16 0, .int .u32 0, .int .u16 0] 34)).alloc (.cells #[.int .u32 0, .int .u16 0, .int .u32 0, .int .u16 0] 34) := ⟨_, rfl⟩
  have hT : TabAt TI W t s := by rw [hW]; exact (h.alloc _).alloc _
  have ho := of_i W t s id hT hid
  have hv' : ofV s id = .pointer none := by unfold ofV; rw [he]
  rw [hv'] at ho
  have hb : Below w.heap.size w W := by rw [hW]; exact ((Below.refl _ w).alloc (Nat.le_refl _) _).alloc (by simp) _
  have h1 : Blk W w.heap.size 34 #[.int .u32 0, .int .u16 0, .int .u32 0, .int .u16 0] := by rw [hW]; exact (Blk.new w _ _).alloc _
  have h2 : Blk W (w.heap.size + 1) 34 #[.int .u32 0, .int .u16 0, .int .u32 0, .int .u16 0] := by
    rw [hW]
    have := Blk.new (w.alloc (.cells #[.int .u32 0, .int .u16 0, .int .u32 0, .int .u16 0] 34)) 34 #[.int .u32 0, .int .u16 0, .int .u32 0, .int .u16 0]
    rwa [World.size_alloc] at this
  have Ho := Lib.hid ho
  have HW := Lib.hid hW
  have H1 := Lib.hid h1
  have H2 := Lib.hid h2
  have HB := Lib.hid hb
  clear h hT hid he hv' ho h1 h2 hb hW
  go_enter Try.func23, Try.ntmps23
  go_upto_region 4 with (go_at_call 25; rw [← HW.out]; with_reducible refine Ho.out.mono ?_; rintro e' w1 ⟨rfl, hw⟩; rw [← hw]; clear hw)
  have h1 := H1.out
  have h2 := H2.out
  have hb := HB.out
  clear H1 H2 HB Ho HW
  obtain ⟨g1, e1⟩ : ∃ g, g = w.heap.size := ⟨_, rfl⟩
  obtain ⟨g2, e2⟩ : ∃ g, g = w.heap.size + 1 := ⟨_, rfl⟩
  rw [← e2] at h2 ⊢
  rw [← e1] at h1 ⊢
  have hne : g1 ≠ g2 := by omega
  have hne' : g2 ≠ g1 := by omega
  have hg1 : w.heap.size ≤ g1 := by omega
  have hg2 : w.heap.size ≤ g2 := by omega
  clear e1 e2
  have c0 := h1.cell 0
  have c1 := h1.cell 1
  have c2 := h1.cell 2
  have c3 := h1.cell 3
  have d0 := h2.cell 0
  have d1 := h2.cell 1
  have d2 := h2.cell 2
  have d3 := h2.cell 3
  have f0 := h1.frozen
  have k0 := h2.frozen
  simp at c0 c1 c2 c3 d0 d1 d2 d3
  have HB := Lib.hid hb
  have Hg1 := Lib.hid hg1
  have Hg2 := Lib.hid hg2
  have H1 := Lib.hid h1
  have H2 := Lib.hid h2
  clear h1 h2 hb hg1 hg2
  go_region
  generalize hW9 : World.drew _ = W9
  have q1 : Blk W9 g1 34 #[.int .u32 0, .int .u16 0, .int .u32 0, .int .u16 0] := by
    rw [← hW9]
    exact ((((((((H1.out.set_ 0 (.int .u32 0)).set_ 1 (.int .u16 0)).set_ 2 (.int .u32 0)).set_ 3 (.int .u16 0)).far (p := ⟨g2, 0, none⟩) hne _).far (p := ⟨g2, 1, none⟩) hne _).far (p := ⟨g2, 2, none⟩) hne _).far (p := ⟨g2, 3, none⟩) hne _).drew
  have q2 : Blk W9 g2 34 #[.int .u32 0, .int .u16 0, .int .u32 0, .int .u16 0] := by
    rw [← hW9]
    exact ((((((((H2.out.far (p := ⟨g1, 0, none⟩) hne' _).far (p := ⟨g1, 1, none⟩) hne' _).far (p := ⟨g1, 2, none⟩) hne' _).far (p := ⟨g1, 3, none⟩) hne' _).set_ 0 (.int .u32 0)).set_ 1 (.int .u16 0)).set_ 2 (.int .u32 0)).set_ 3 (.int .u16 0)).drew
  have q3 : Below w.heap.size w W9 := by
    rw [← hW9]
    exact ((((((((HB.out.setCell Hg1.out _).setCell Hg1.out _).setCell Hg1.out _).setCell Hg1.out _).setCell Hg2.out _).setCell Hg2.out _).setCell Hg2.out _).setCell Hg2.out _).drew
  clear hW9 c0 c1 c2 c3 d0 d1 d2 d3 f0 k0
  have c0 := q1.cell 0
  have c1 := q1.cell 1
  have c2 := q1.cell 2
  have c3 := q1.cell 3
  have d0 := q2.cell 0
  have d1 := q2.cell 1
  have d2 := q2.cell 2
  have d3 := q2.cell 3
  simp at c0 c1 c2 c3 d0 d1 d2 d3
  have Q3 := Lib.hid q3
  clear q1 q2 q3
  go_wp2
  exact bodyPost_ret (v := .tuple #[.agg #[.int .u32 0, .int .u16 0, .int .u32 0, .int .u16 0], .agg #[.int .u32 0, .int .u16 0, .int .u32 0, .int .u16 0], .bool false]) (by simp [results, Try.results23, go_sem, c0, c1, c2, c3, d0, d1, d2, d3]) rfl ⟨rfl, Q3.out⟩
end Go.Proofs.Ytlikngepcbmhdaa
