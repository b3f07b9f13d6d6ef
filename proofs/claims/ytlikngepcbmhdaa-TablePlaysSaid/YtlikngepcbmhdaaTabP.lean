/- Layer 12 (table), of numbers: Pairs. -/
import Derived.Test.YtlikngepcbmhdaaTabS
set_option linter.unusedVariables false
set_option linter.unusedSimpArgs false
namespace Go.Proofs.Ytlikngepcbmhdaa
open Go.ChangeShapes Go.WideShapes Go.ChangeAt Go.RowKit Go.Maps

def pairA (p : Pr) : Value := .agg #[.int .u32 p.a, .int .u16 p.b, .int .u32 p.c, .int .u16 p.d]
set_option maxRecDepth 100000 in
set_option maxHeartbeats 4000000 in
theorem pairs_i {w : World} {t id : Nat} {s : Tab} {e : Ent} (h : TabAt TI w t s) (hid : id < 18446744073709551616) (he : s.E id = some e) :
    Calls Try.prog 23 #[.pointer (some ⟨t, 0, none⟩), .int .u64 (id : Int)] w fun e' w' => e' = .returned (.tuple #[pairA e.near, pairA e.far, .bool e.bound]) ∧ Below w.heap.size w w' := by
  obtain ⟨W, hW⟩ : ∃ W, W = (w.alloc (.cells #[.int .u32 0, .int .u16 0, .int .u32 0, .int .u16 0] 34)).alloc (.cells #[.int .u32 0, .int .u16 0, .int .u32 0, .int .u16 0] 34) := ⟨_, rfl⟩
  have hT : TabAt TI W t s := by rw [hW]; exact (h.alloc _).alloc _
  have ho := of_i W t s id hT hid
  have hv' : ofV s id = entPtr e := by unfold ofV; rw [he]
  rw [hv'] at ho
  have hk := (h.ents id e he).2.2.1
  have hlt := hk.lt
  have hkW := (hT.ents id e he).2.2.1
  have d1 := hkW.cell 1
  have d2 := hkW.cell 2
  have d3 := hkW.cell 3
  have d4 := hkW.cell 4
  have d5 := hkW.cell 5
  have d6 := hkW.cell 6
  have d7 := hkW.cell 7
  have d8 := hkW.cell 8
  have d9 := hkW.cell 9
  simp [entCells] at d1 d2 d3 d4 d5 d6 d7 d8 d9
  have hB : Below w.heap.size w W := by rw [hW]; exact ((Below.refl _ w).alloc (Nat.le_refl _) _).alloc (by simp) _
  have hx : Blk W w.heap.size 34 #[.int .u32 0, .int .u16 0, .int .u32 0, .int .u16 0] := by rw [hW]; exact (Blk.new w _ _).alloc _
  have hy : Blk W (w.heap.size + 1) 34 #[.int .u32 0, .int .u16 0, .int .u32 0, .int .u16 0] := by
    rw [hW]
    have := Blk.new (w.alloc (.cells #[.int .u32 0, .int .u16 0, .int .u32 0, .int .u16 0] 34)) 34 #[.int .u32 0, .int .u16 0, .int .u32 0, .int .u16 0]
    rwa [World.size_alloc] at this
  unfold entPtr at ho
  obtain ⟨eb, ev, ⟨na, nb, nc, nd⟩, ⟨fa, fb, fc, fd⟩, bd⟩ := e
  simp only [pairA] at *
  have Ho := Lib.hid ho
  have HW := Lib.hid hW
  have HB := Lib.hid hB
  clear h hT hid he hv' ho hk hkW hW hB
  go_enter Try.func23, Try.ntmps23
  go_wp2_with (go_at_call 25; rw [← HW.out]; with_reducible refine Ho.out.mono ?_; rintro e' w1 ⟨rfl, hw⟩; rw [← hw]; clear hw)
  have x0 := hx.cell 0
  have x1 := hx.cell 1
  have x2 := hx.cell 2
  have x3 := hx.cell 3
  have y0 := hy.cell 0
  have y1 := hy.cell 1
  have y2 := hy.cell 2
  have y3 := hy.cell 3
  have fx := hx.frozen
  have fy := hy.frozen
  simp at x0 x1 x2 x3 y0 y1 y2 y3
  have n1 : eb ≠ w.heap.size := by omega
  have n2 : eb ≠ w.heap.size + 1 := by omega
  have n3 : w.heap.size ≠ w.heap.size + 1 := by omega
  have Hx := Lib.hid hx
  clear hx
  have Hy := Lib.hid hy
  clear hy
  go_region
  generalize hW2 : World.drew _ = W2
  have hx2 : Blk W2 w.heap.size 34 #[.int .u32 na, .int .u16 nb, .int .u32 nc, .int .u16 nd] := by
    rw [← hW2]
    exact ((((((((Hx.out.set_ 0 (.int .u32 na)).set_ 1 (.int .u16 nb)).set_ 2 (.int .u32 nc)).set_ 3 (.int .u16 nd)).far (p := ⟨w.heap.size + 1, 0, none⟩) n3 _).far (p := ⟨w.heap.size + 1, 1, none⟩) n3 _).far (p := ⟨w.heap.size + 1, 2, none⟩) n3 _).far (p := ⟨w.heap.size + 1, 3, none⟩) n3 _).drew
  have hy2 : Blk W2 (w.heap.size + 1) 34 #[.int .u32 fa, .int .u16 fb, .int .u32 fc, .int .u16 fd] := by
    rw [← hW2]
    exact ((((((((Hy.out.far (p := ⟨w.heap.size, 0, none⟩) n3.symm (.int .u32 na)).far (p := ⟨w.heap.size, 1, none⟩) n3.symm _).far (p := ⟨w.heap.size, 2, none⟩) n3.symm _).far (p := ⟨w.heap.size, 3, none⟩) n3.symm _).set_ 0 (.int .u32 fa)).set_ 1 (.int .u16 fb)).set_ 2 (.int .u32 fc)).set_ 3 (.int .u16 fd)).drew
  have hb2 : Below w.heap.size w W2 := by
    rw [← hW2]
    have := HB.out
    refine this.trans ?_
    refine Below.drew ?_
    exact ((((((((Below.refl _ W).setCell (p := ⟨w.heap.size, 0, none⟩) (Nat.le_refl _) _).setCell (p := ⟨w.heap.size, 1, none⟩) (Nat.le_refl _) _).setCell (p := ⟨w.heap.size, 2, none⟩) (Nat.le_refl _) _).setCell (p := ⟨w.heap.size, 3, none⟩) (Nat.le_refl _) _).setCell (p := ⟨w.heap.size + 1, 0, none⟩) (by simp) _).setCell (p := ⟨w.heap.size + 1, 1, none⟩) (by simp) _).setCell (p := ⟨w.heap.size + 1, 2, none⟩) (by simp) _).setCell (p := ⟨w.heap.size + 1, 3, none⟩) (by simp) _
  have z0 := hx2.cell 0
  have z1 := hx2.cell 1
  have z2 := hx2.cell 2
  have z3 := hx2.cell 3
  have u0 := hy2.cell 0
  have u1 := hy2.cell 1
  have u2 := hy2.cell 2
  have u3 := hy2.cell 3
  simp at z0 z1 z2 z3 u0 u1 u2 u3
  have HB2 := Lib.hid hb2
  clear hW2 hx2 hy2 hb2 x0 x1 x2 x3 y0 y1 y2 y3 fx fy d1 d2 d3 d4 d5 d6 d7 d8 d9
  go_wp2
  exact bodyPost_ret (v := .tuple #[.agg #[.int .u32 na, .int .u16 nb, .int .u32 nc, .int .u16 nd], .agg #[.int .u32 fa, .int .u16 fb, .int .u32 fc, .int .u16 fd], .bool bd]) (by simp [results, Try.results23, go_sem, z0, z1, z2, z3, u0, u1, u2, u3]) rfl ⟨rfl, HB2.out⟩
end Go.Proofs.Ytlikngepcbmhdaa
