/- Layer 11 (ports): New, Free, Give, Lent; what none answer. -/
import Derived.Test.YtjeckahbkepnpaaPorts
import Derived.WalkMore
set_option linter.unusedVariables false
set_option linter.unusedSimpArgs false
namespace Go.Proofs.Ytjeckahbkepnpaa
open Go.RowKit Go.Maps Go.BigFrame

def po0 (low high : Nat) : Po := ⟨low, high, low, fun _ => false, fun _ => 0⟩
theorem new_any (low high : Nat) (h1 : 1 ≤ low) (h2 : low ≤ high) (h3 : high < 65536) (w : World) :
    Calls Try.prog 6 #[.int .u16 (low : Int), .int .u16 (high : Int)] w fun e w' => ∃ b m1 m2, e = .returned (.tuple #[.pointer (some ⟨b, 0, none⟩), .int .i64 0]) ∧ PoAt w' b m1 m2 (po0 low high) 0 ∧ w.heap.size ≤ b ∧ w.heap.size ≤ m1 ∧ w.heap.size ≤ m2 ∧ Below w.heap.size w w' := by
  have k1 : ∀ W : World, (Instr.makeMap 40 none).run Try.prog W = .ok (.map (some W.heap.size)) (W.alloc (.map #[] 0)) := fun _ => by kernel_rfl
  have k2 : ∀ W : World, (Instr.makeMap 29 none).run Try.prog W = .ok (.map (some W.heap.size)) (W.alloc (.map #[] 0)) := fun _ => by kernel_rfl
  have hp : ∀ W0 W1 W2 : World, W0 = w.alloc (.map #[] 0) → W1 = W0.alloc (.map #[] 0) → W2 = W1.alloc (.cells (poCells (po0 low high) w.heap.size (w.heap.size + 1)) 42) → PoAt W2 (w.heap.size + 1 + 1) w.heap.size (w.heap.size + 1) (po0 low high) 0 ∧ Below w.heap.size w W2 := by
    intro W0 W1 W2 e0 e1 e2
    have s0 : W0.heap.size = w.heap.size + 1 := by rw [e0]; simp
    have s1 : W1.heap.size = w.heap.size + 1 + 1 := by rw [e1]; simp [s0]
    have a0 := MapIs.made Try.prog 22 w
    rw [← e0] at a0
    have a1 := a0.alloc (.map #[] 0)
    rw [← e1] at a1
    have a2 := a1.alloc (.cells (poCells (po0 low high) w.heap.size (w.heap.size + 1)) 42)
    rw [← e2] at a2
    have b1 := MapIs.made Try.prog 22 W0
    rw [← e1, s0] at b1
    have b2 := b1.alloc (.cells (poCells (po0 low high) w.heap.size (w.heap.size + 1)) 42)
    rw [← e2] at b2
    have c2 := Blk.new W1 42 (poCells (po0 low high) w.heap.size (w.heap.size + 1))
    rw [← e2, s1] at c2
    refine ⟨⟨c2, ⟨0, _, Nat.le_refl _, a2, fun p _ => rfl⟩, ⟨0, _, Nat.le_refl _, b2, fun p _ => rfl⟩, by omega, by simp only [po0]; omega⟩, ?_⟩
    rw [e2, e1, e0]
    exact (((Below.refl _ w).alloc (Nat.le_refl _) _).alloc (by simp) _).alloc (by simp; omega) _
  have i1 : (1 : Int) ≤ (low : Int) := by omega
  have i2 : (low : Int) ≤ (high : Int) := by omega
  have Hp := Lib.hid hp
  clear hp h1 h2 h3
  go_enter Try.func6, Try.ntmps6
  go_wp2
  go_ret2
  have h := Hp.out _ _ _ rfl rfl rfl
  exact ⟨w.heap.size + 1 + 1, w.heap.size, w.heap.size + 1, rfl, h.1, by omega, by omega, by omega, h.2⟩
set_option maxRecDepth 100000 in
theorem take_nil (t : Int) (w : World) : Calls Try.prog 8 #[.pointer none, .int .i64 t] w fun e w' => e = .returned (.tuple #[.int .u16 0, .int .i64 1]) ∧ w' = w := by
  go_enter Try.func8, Try.ntmps8
  go_wp2
  go_step3
  go_wp2
  rw [Exit.noGoto_ret]
  go_ret2
  exact ⟨rfl, rfl⟩
theorem give_nil (p t : Int) (w : World) : Calls Try.prog 9 #[.pointer none, .int .u16 p, .int .i64 t] w fun e w' => e = .returned (.int .i64 1) ∧ w' = w := by
  go_enter Try.func9, Try.ntmps9
  go_wp2
  go_ret
  exact ⟨rfl, rfl⟩
theorem lent_nil (w : World) : Calls Try.prog 10 #[.pointer none] w fun e w' => e = .returned (.slice none 0 0) ∧ w' = w := by
  go_enter Try.func10, Try.ntmps10
  go_wp2
  go_ret
  exact ⟨rfl, rfl⟩
theorem free_nil (t : Int) (w : World) : Calls Try.prog 7 #[.pointer none, .int .i64 t] w fun e w' => e = .returned (.int .i64 0) ∧ w' = w := by
  go_enter Try.func7, Try.ntmps7
  go_wp2
  go_ret
  exact ⟨rfl, rfl⟩
theorem eq_map_p (a : Nat) (w : World) : (binOp .eql 40 (.map (some a)) (.map none)).run Try.prog w = .ok (.bool false) w := by kernel_rfl
/-- Lent: so many as are lent -/
def LentIs (w w' : World) (k : Nat) (s : Po) (v : Value) : Prop := ∃ (n : Nat) (M : Lit → Option Value) (ss : List Int), n ≤ k ∧ poL s M ∧ S16.KeysAre M n ss ∧ S16.SortedIs w w' n ss v
theorem lent_any {w : World} {b m1 m2 k : Nat} {s : Po} (h : PoAt w b m1 m2 s k) (hk : k ≤ 1000000) :
    Calls Try.prog 10 #[.pointer (some ⟨b, 0, none⟩)] w fun e w' => ∃ v, e = .returned v ∧ LentIs w w' k s v ∧ Below w.heap.size w w' := by
  obtain ⟨n, M, hn, hM, hL⟩ := h.ml
  have hc3 := h.blk.cell 3
  simp [poCells] at hc3
  have c1 := S16.keys_any (some m1) w
  have c2 := S16.sorted_any w.heap.size m1 n M (w.alloc (.cells #[.map (some m1)] 40)) (by simp) ((Blk.new w 40 #[.map (some m1)]).cell 0) (hM.alloc _) (by omega)
  clear h hM
  have HL := Lib.hid hL
  clear hL
  have Hn := Lib.hid hn
  clear hn
  go_enter Try.func10, Try.ntmps10
  go_wp2_with (first
    | (go_at_call 14; with_reducible refine c1.mono ?_; rintro e w1 ⟨rfl, rfl⟩)
    | (go_at_call 13; with_reducible refine c2.mono ?_; rintro e w2 ⟨v, ss, rfl, h1, h2, h3⟩))
  go_ret
  refine ⟨v, rfl, ⟨n, M, ss, Hn.out, HL.out, h1, ?_⟩, ?_⟩
  · obtain ⟨A, cap, e, h⟩ := h2
    refine ⟨A, cap, e, h.imp id ?_⟩
    rintro ⟨g, e1, e2, e3⟩
    exact ⟨g, e1, by simp at e2; omega, e3⟩
  · exact ((Below.refl _ w).alloc (Nat.le_refl _) _).trans (h3.mono (by simp))
end Go.Proofs.Ytjeckahbkepnpaa
