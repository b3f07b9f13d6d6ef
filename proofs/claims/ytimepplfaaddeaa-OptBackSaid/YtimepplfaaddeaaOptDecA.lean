/- Layer 7 (opt): Decode, of any bytes. -/
import Derived.Test.YtimepplfaaddeaaOptDecW
set_option linter.unusedVariables false
set_option linter.unusedSimpArgs false
namespace Go.Proofs.Ytimepplfaaddeaa
open Go.RowKit Go.BigFrame

set_option maxHeartbeats 2000000 in
theorem dec_long (x : ByteArray) (L : List UInt8) (hx : x.data.toList = L) (hm : 40 < L.length) (w : World) :
    Calls Try.prog 11 #[.string x] w (DecPost w L) := by
  have hsz : x.size = L.length := by rw [← hx]; simp
  have j1 : (40 : Int) < (L.length : Int) := by omega
  have hr : decR L = (zeroO, 4) := by unfold decR; rw [if_pos hm]
  have hb0 : Below w.heap.size w w := Below.refl _ _
  have HB := Lib.hid hb0
  clear hb0
  have Hr := Lib.hid hr
  clear hr
  go_enter Try.func11, Try.ntmps11
  go_upto_region 2 with fail
  have hs := Blk.alloc (Blk.alloc (Blk.new w 9 #[.string x]) (.cells #[.int .u16 0, .int .i64 0, .bool false, .slice none 0 0, .bool false, .int .u32 0, .int .u32 0] 26)) (.cells #[.int .i64 0] 29)
  have ho := Blk.alloc (Blk.new (w.alloc (.cells #[.string x] 9)) 26 #[.int .u16 0, .int .i64 0, .bool false, .slice none 0 0, .bool false, .int .u32 0, .int .u32 0]) (.cells #[.int .i64 0] 29)
  rw [show (w.alloc (.cells #[.string x] 9)).heap.size = w.heap.size + 1 by simp] at ho
  have he := Blk.new ((w.alloc (.cells #[.string x] 9)).alloc (.cells #[.int .u16 0, .int .i64 0, .bool false, .slice none 0 0, .bool false, .int .u32 0, .int .u32 0] 26)) 29 #[.int .i64 0]
  rw [show ((w.alloc (.cells #[.string x] 9)).alloc (.cells #[.int .u16 0, .int .i64 0, .bool false, .slice none 0 0, .bool false, .int .u32 0, .int .u32 0] 26)).heap.size = w.heap.size + 2 by simp] at he
  have hB := Below.alloc (Below.alloc (Below.alloc (HB.out) (Nat.le_trans HB.out.size (by simp <;> omega)) (.cells #[.string x] 9)) (Nat.le_trans HB.out.size (by simp <;> omega)) (.cells #[.int .u16 0, .int .i64 0, .bool false, .slice none 0 0, .bool false, .int .u32 0, .int .u32 0] 26)) (Nat.le_trans HB.out.size (by simp <;> omega)) (.cells #[.int .i64 0] 29)
  clear HB
  obtain ⟨ge, hgee⟩ : ∃ g, g = w.heap.size + 2 := ⟨_, rfl⟩
  rw [← hgee] at he ⊢
  obtain ⟨go, hgeo⟩ : ∃ g, g = w.heap.size + 1 := ⟨_, rfl⟩
  rw [← hgeo] at ho ⊢
  obtain ⟨gs, hges⟩ : ∃ g, g = w.heap.size := ⟨_, rfl⟩
  rw [← hges] at hs ⊢
  have hne_s_o : gs ≠ go := by omega
  have hne_s_e : gs ≠ ge := by omega
  have hne_o_e : go ≠ ge := by omega
  have hle_s : w.heap.size ≤ gs := by omega
  have hle_o : w.heap.size ≤ go := by omega
  have hle_e : w.heap.size ≤ ge := by omega
  clear hges hgeo hgee
  generalize ((w.alloc _).alloc _).alloc _ = wn1 at *
  have Hs := Lib.hid hs
  clear hs
  have Ho := Lib.hid ho
  clear ho
  have He := Lib.hid he
  clear he
  have HB := Lib.hid hB
  clear hB
  have d0 := Ho.out.cell 0
  have d1 := Ho.out.cell 1
  have d2 := Ho.out.cell 2
  have d3 := Ho.out.cell 3
  have d4 := Ho.out.cell 4
  have d5 := Ho.out.cell 5
  have d6 := Ho.out.cell 6
  simp at d0 d1 d2 d3 d4 d5 d6
  have fr := Ho.out.frozen
  have ce := He.out.cell 0
  try simp at ce
  have fe := He.out.frozen 0
  go_wp2
  generalize hWf : World.setCell _ _ _ = Wf
  have hoF : Blk Wf go 26 #[.int .u16 0, .int .i64 0, .bool false, .slice none 0 0, .bool false, .int .u32 0, .int .u32 0] := by
    rw [← hWf]
    have := (((((((Ho.out.set_ 0 (.int .u16 0)).set_ 1 (.int .i64 0)).set_ 2 (.bool false)).set_ 3 (.slice none 0 0)).set_ 4 (.bool false)).set_ 5 (.int .u32 0)).set_ 6 (.int .u32 0)).far (p := ⟨ge, 0, none⟩) hne_o_e (.int .i64 4)
    simpa using this
  have heF : Blk Wf ge 29 #[.int .i64 4] := by
    rw [← hWf]
    have := (((((((He.out.far (p := ⟨go, 0, none⟩) (Ne.symm hne_o_e) (.int .u16 0)).far (p := ⟨go, 1, none⟩) (Ne.symm hne_o_e) (.int .i64 0)).far (p := ⟨go, 2, none⟩) (Ne.symm hne_o_e) (.bool false)).far (p := ⟨go, 3, none⟩) (Ne.symm hne_o_e) (.slice none 0 0)).far (p := ⟨go, 4, none⟩) (Ne.symm hne_o_e) (.bool false)).far (p := ⟨go, 5, none⟩) (Ne.symm hne_o_e) (.int .u32 0)).far (p := ⟨go, 6, none⟩) (Ne.symm hne_o_e) (.int .u32 0)).set_ 0 (.int .i64 4)
    simpa using this
  have hBf : Below w.heap.size w Wf := by
    rw [← hWf]
    repeat (first | (refine Below.setCell ?_ hle_e _) | (refine Below.setCell ?_ hle_o _))
    exact HB.out
  clear hWf d0 d1 d2 d3 d4 d5 d6 fr ce fe
  have z0 := hoF.cell 0
  have z1 := hoF.cell 1
  have z2 := hoF.cell 2
  have z3 := hoF.cell 3
  have z4 := hoF.cell 4
  have z5 := hoF.cell 5
  have z6 := hoF.cell 6
  simp at z0 z1 z2 z3 z4 z5 z6
  have y0 := heF.cell 0
  try simp at y0
  exact bodyPost_ret (v := .tuple #[.agg #[.int .u16 0, .int .i64 0, .bool false, .slice none 0 0, .bool false, .int .u32 0, .int .u32 0], .int .i64 4]) (by simp [results, Try.results11, go_sem, z0, z1, z2, z3, z4, z5, z6, y0]) rfl ⟨zeroO, none, 0, 4, rfl, .inl rfl, hBf, Hr.out.symm⟩
theorem dec_any (x : ByteArray) (w : World) : Calls Try.prog 11 #[.string x] w (DecPost w x.data.toList) := by
  by_cases h : x.data.toList.length ≤ 40
  · exact callsIn_wide.1 (dec_in x _ rfl h w)
  · exact dec_long x _ rfl (by omega) w
end Go.Proofs.Ytimepplfaaddeaa
