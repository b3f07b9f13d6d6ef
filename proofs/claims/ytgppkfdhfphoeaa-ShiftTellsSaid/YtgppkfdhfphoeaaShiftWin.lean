/- Contracts of layer 26 (shift): Window. -/
import Derived.Test.YtgppkfdhfphoeaaPktTurnedA
set_option linter.unusedVariables false
set_option linter.unusedSimpArgs false
namespace Go.Proofs.Ytgppkfdhfphoeaa
open Go.RowKit Go.BigFrame

theorem field_win (x0 x1 x2 x3 q a o : Int) (A : Option Addr) (c : Nat) (w : World) : (Instr.field 39 (.agg #[.int .u32 x0, .int .u16 x1, .int .u32 x2, .int .u16 x3, .int .u32 q, .int .u32 a, .int .u8 0, .int .u16 o, .int .u16 0, .int .i64 0, .bool false, .slice A 0 c, .bool false, .int .u32 0, .int .u32 0, .string ⟨#[]⟩]) 5).run Try.prog w = .ok (.int .u16 o) w := by kernel_rfl
theorem turned_z (x0 x1 x2 x3 x4 x5 x6 x7 x8 x9 v : Int) (w : World) (h0 : 0 ≤ v) (h1 : v < 65536) : Calls Try.prog 16 #[.agg #[.int .u32 0, .int .u16 0, .int .u32 0, .int .u16 0, .int .u32 0, .int .u32 0, .int .u8 0, .int .u16 v, .int .u16 0, .int .i64 0, .bool false, .slice none 0 0, .bool false, .int .u32 0, .int .u32 0, .string ⟨#[]⟩], .agg #[.int .u32 x0, .int .u16 x1, .int .u32 x2, .int .u16 x3, .int .u32 x4, .int .u32 x5, .int .u32 x6, .int .u32 x7, .int .i64 x8, .int .i64 x9]] w fun e w' => ∃ (q a o : Int) (A : Option Addr) (c : Nat), o = winT v x8 x9 ∧ e = .returned (.agg #[.int .u32 x0, .int .u16 x1, .int .u32 x2, .int .u16 x3, .int .u32 q, .int .u32 a, .int .u8 0, .int .u16 o, .int .u16 0, .int .i64 0, .bool false, .slice A 0 c, .bool false, .int .u32 0, .int .u32 0, .string ⟨#[]⟩]) ∧ Below w.heap.size w w' := by
  refine (turned_any 0 0 0 0 0 0 0 v 0 0 false false none 0 0 0 0 ⟨#[]⟩ x0 x1 x2 x3 x4 x5 x6 x7 x8 x9 [] w rfl (.inl rfl) (by decide) h0 h1).mono ?_
  rintro e w' ⟨A, c, hz, rfl, ho, hb⟩
  exact ⟨_, _, _, A, c, rfl, rfl, hb⟩
set_option maxRecDepth 100000 in
set_option maxHeartbeats 4000000 in
theorem window_any (x0 x1 x2 x3 x4 x5 x6 x7 x8 x9 v : Int) (w : World) (h0 : 0 ≤ v) (h1 : v < 65536) : Calls Try.prog 6 #[.agg #[.int .u32 x0, .int .u16 x1, .int .u32 x2, .int .u16 x3, .int .u32 x4, .int .u32 x5, .int .u32 x6, .int .u32 x7, .int .i64 x8, .int .i64 x9], .int .u16 v] w fun e w' => e = .returned (.int .u16 (winT v x8 x9)) ∧ Below w.heap.size w w' := by
  have hb0 : Below w.heap.size w w := Below.refl _ _
  have HB := Lib.hid hb0
  clear hb0
  have m1 := fun W => turned_z x0 x1 x2 x3 x4 x5 x6 x7 x8 x9 v W h0 h1
  obtain ⟨Q, hQ⟩ : ∃ Q, Q = winT v x8 x9 := ⟨_, rfl⟩
  rw [← hQ] at m1 ⊢
  clear hQ
  have M1 := Lib.hid m1
  clear m1
  go_enter Try.func6, Try.ntmps6
  go_upto_region 1 with fail
  have hp := Blk.new w 27 #[.int .u32 x0, .int .u16 x1, .int .u32 x2, .int .u16 x3, .int .u32 x4, .int .u32 x5, .int .u32 x6, .int .u32 x7, .int .i64 x8, .int .i64 x9]
  have hB := HB.out.alloc HB.out.size (.cells #[.int .u32 x0, .int .u16 x1, .int .u32 x2, .int .u16 x3, .int .u32 x4, .int .u32 x5, .int .u32 x6, .int .u32 x7, .int .i64 x8, .int .i64 x9] 27)
  clear HB
  obtain ⟨gp, hge⟩ : ∃ g, g = w.heap.size := ⟨_, rfl⟩
  rw [← hge] at hp ⊢
  clear hge
  generalize w.alloc _ = wn1 at *
  have Hp := Lib.hid hp
  clear hp
  have HB := Lib.hid hB
  clear hB
  have c0 := Hp.out.cell 0
  have c1 := Hp.out.cell 1
  have c2 := Hp.out.cell 2
  have c3 := Hp.out.cell 3
  have c4 := Hp.out.cell 4
  have c5 := Hp.out.cell 5
  have c6 := Hp.out.cell 6
  have c7 := Hp.out.cell 7
  have c8 := Hp.out.cell 8
  have c9 := Hp.out.cell 9
  simp at c0 c1 c2 c3 c4 c5 c6 c7 c8 c9
  go_wp2_with fail
  (with_reducible refine (M1.out _).mono ?_)
  rintro e w2 ⟨q, a, _, A, c, rfl, rfl, hbq⟩
  have hp := Hp.out.below hbq Hp.out.lt
  clear Hp
  have Hp := Lib.hid hp
  clear hp
  have hB := HB.out.trans (hbq.mono HB.out.size)
  clear HB
  have HB := Lib.hid hB
  clear hB
  go_wp2
  rw [field_win]
  go_wp2
  go_ret
  exact ⟨rfl, HB.out⟩
end Go.Proofs.Ytgppkfdhfphoeaa
