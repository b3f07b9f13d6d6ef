/- Layer 7 (opt): the reference's None; the law's long. -/
import Derived.Test.YtimepplfaaddeaaOptDec
set_option linter.unusedVariables false
set_option linter.unusedSimpArgs false
namespace Go.Proofs.Ytimepplfaaddeaa
open Go.RowKit Go.BigFrame

theorem rnone_any (w : World) : Calls Try.prog 18 #[] w fun e w' => e = .returned (.agg #[.int .u16 0, .int .i64 (-1), .bool false, .slice none 0 0, .bool false, .int .u32 0, .int .u32 0]) ∧ Below w.heap.size w w' := by
  have hb0 : Below w.heap.size w w := Below.refl _ _
  have HB := Lib.hid hb0
  clear hb0
  go_enter Try.func18, Try.ntmps18
  go_upto_region 1 with fail
  have hr := Blk.new w 26 #[.int .u16 0, .int .i64 0, .bool false, .slice none 0 0, .bool false, .int .u32 0, .int .u32 0]
  have hB := HB.out.alloc HB.out.size (.cells #[.int .u16 0, .int .i64 0, .bool false, .slice none 0 0, .bool false, .int .u32 0, .int .u32 0] 26)
  clear HB
  obtain ⟨gr, hge⟩ : ∃ g, g = w.heap.size := ⟨_, rfl⟩
  rw [← hge] at hr ⊢
  have hle_r : w.heap.size ≤ gr := by omega
  clear hge
  generalize w.alloc _ = wn1 at *
  have Hr := Lib.hid hr
  clear hr
  have HB := Lib.hid hB
  clear hB
  have d0 := Hr.out.cell 0
  have d1 := Hr.out.cell 1
  have d2 := Hr.out.cell 2
  have d3 := Hr.out.cell 3
  have d4 := Hr.out.cell 4
  have d5 := Hr.out.cell 5
  have d6 := Hr.out.cell 6
  simp at d0 d1 d2 d3 d4 d5 d6
  have fr := Hr.out.frozen
  go_wp2
  generalize hWf : World.setCell _ _ _ = Wf
  have hf : Blk Wf gr 26 #[.int .u16 0, .int .i64 (-1), .bool false, .slice none 0 0, .bool false, .int .u32 0, .int .u32 0] := by
    rw [← hWf]
    have := ((((((Hr.out.set_ 0 (.int .u16 0)).set_ 1 (.int .i64 (-1))).set_ 2 (.bool false)).set_ 3 (.slice none 0 0)).set_ 4 (.bool false)).set_ 5 (.int .u32 0)).set_ 6 (.int .u32 0)
    simpa using this
  have hBf : Below w.heap.size w Wf := by
    rw [← hWf]
    repeat (refine Below.setCell ?_ hle_r _)
    exact HB.out
  clear hWf d0 d1 d2 d3 d4 d5 d6 fr
  have z0 := hf.cell 0
  have z1 := hf.cell 1
  have z2 := hf.cell 2
  have z3 := hf.cell 3
  have z4 := hf.cell 4
  have z5 := hf.cell 5
  have z6 := hf.cell 6
  simp at z0 z1 z2 z3 z4 z5 z6
  exact bodyPost_ret (v := .agg #[.int .u16 0, .int .i64 (-1), .bool false, .slice none 0 0, .bool false, .int .u32 0, .int .u32 0]) (by simp [results, Try.results18, go_sem, z0, z1, z2, z3, z4, z5, z6]) rfl ⟨rfl, hBf⟩
theorem long07_any (w : World) (x0 x1 x5 x6 : Int) (x2 x4 : Bool) (A : Option Addr) (n c : Nat) :
    Calls Try.prog 7 #[.agg #[.int .u16 x0, .int .i64 x1, .bool x2, .slice A n c, .bool x4, .int .u32 x5, .int .u32 x6]] w fun e w' => e = .returned (.bool (decide ((n : Int) > 100))) ∧ Below w.heap.size w w' := by
  have hb0 : Below w.heap.size w w := Below.refl _ _
  have HB := Lib.hid hb0
  clear hb0
  go_enter Try.func7, Try.ntmps7
  go_upto_region 1 with fail
  have hq := Blk.new w 26 #[.int .u16 x0, .int .i64 x1, .bool x2, .slice A n c, .bool x4, .int .u32 x5, .int .u32 x6]
  have hB := HB.out.alloc HB.out.size (.cells #[.int .u16 x0, .int .i64 x1, .bool x2, .slice A n c, .bool x4, .int .u32 x5, .int .u32 x6] 26)
  clear HB
  obtain ⟨gq, hge⟩ : ∃ g, g = w.heap.size := ⟨_, rfl⟩
  rw [← hge] at hq ⊢
  clear hge
  generalize w.alloc _ = wn2 at *
  have Hq := Lib.hid hq
  clear hq
  have HB := Lib.hid hB
  clear hB
  have c0 := Hq.out.cell 0
  have c1 := Hq.out.cell 1
  have c2 := Hq.out.cell 2
  have c3 := Hq.out.cell 3
  have c4 := Hq.out.cell 4
  have c5 := Hq.out.cell 5
  have c6 := Hq.out.cell 6
  simp at c0 c1 c2 c3 c4 c5 c6
  go_wp2
  go_ret
  exact ⟨ret_bool (by simp), HB.out⟩
end Go.Proofs.Ytimepplfaaddeaa
