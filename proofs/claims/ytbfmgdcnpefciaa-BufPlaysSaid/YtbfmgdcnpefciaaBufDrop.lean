/- Contracts of layer 15 (buf), fourth part: Drop, New, what none answers. -/
import Derived.Test.YtbfmgdcnpefciaaBufPut
import Derived.Test.YtbfmgdcnpefciaaBufGet
set_option linter.unusedVariables false
set_option linter.unusedSimpArgs false
namespace Go.Proofs.Ytbfmgdcnpefciaa
open Go.RowKit

def dropN (f : Nat) (l : List UInt8) (q : Nat) : Nat := if q ≤ f then 0 else min l.length (q - f)
theorem dropN_le (f : Nat) (l : List UInt8) (q : Nat) : dropN f l q ≤ l.length := by unfold dropN; split <;> omega

theorem drop_fin {w W : World} {b r f d : Nat} {R l : List UInt8} (hW : BufAt W b r f R l) (hk : Kept2 b r w W) (hd : d ≤ l.length) (x y : Int) (hx : x = ((f + d : Nat) : Int)) (hy : y = ((l.length - d : Nat) : Int)) :
    BufAt ((W.setCell ⟨b, 1, none⟩ (.int .u64 x)).setCell ⟨b, 2, none⟩ (.int .i64 y)) b r (f + d) R (l.drop d) ∧ Kept2 b r w ((W.setCell ⟨b, 1, none⟩ (.int .u64 x)).setCell ⟨b, 2, none⟩ (.int .i64 y)) := by
  subst hx hy
  have hbr := hW.ne
  refine ⟨⟨?_, ?_, holds_drop hW.2.2.1 hd, hW.2.2.2⟩, ?_⟩
  · have := (hW.1.set_ 1 (.int .u64 ((f + d : Nat) : Int))).set_ 2 (.int .i64 ((l.length - d : Nat) : Int))
    rw [List.length_drop]
    simpa using this
  · exact (hW.2.1.far (p := ⟨b, 1, none⟩) (fun e => hbr e.symm) _).far (p := ⟨b, 2, none⟩) (fun e => hbr e.symm) _
  · exact hk.trans (Kept2.of_grown (b := b) (r := r) (only_set (only_set (World.grownBy.refl W _) 1 _) 2 _) (.inl rfl))

set_option maxHeartbeats 1000000 in
theorem drop_at (w : World) (b r f : Nat) (R l : List UInt8) (q : Nat) (h : BufAt w b r f R l) (hf : f ≤ 9223372036854775807) (hq : q < 18446744073709551616) :
    Calls Try.prog 18 #[.pointer (some ⟨b, 0, none⟩), .int .u64 (q : Int)] w fun e w' => e = .returned (.int .i64 ((dropN f l q : Nat) : Int)) ∧ BufAt w' b r (f + dropN f l q) R (l.drop (dropN f l q)) ∧ Kept2 b r w w' := by
  have hl := h.le
  have h4 := h.2.2.2
  have c1 := h.c1
  have c2 := h.c2
  by_cases g1 : q ≤ f
  · have v : dropN f l q = 0 := if_pos g1
    rw [v]
    have e1 : decide ((q : Int) ≤ (f : Int)) = true := by rw [decide_eq_true_eq]; omega
    go_enter Try.func18, Try.ntmps18
    go_wp2
    go_ret
    exact ⟨rfl, by simpa using h, Kept2.refl⟩
  have v : dropN f l q = min l.length (q - f) := if_neg g1
  have e1 : decide ((q : Int) ≤ (f : Int)) = false := by rw [decide_eq_false_iff_not]; omega
  obtain ⟨d, hd⟩ : ∃ d, d = dropN f l q := ⟨_, rfl⟩
  rw [← hd] at v ⊢
  have hdl : d ≤ l.length := by omega
  clear hd
  have V := Lib.hid v
  clear v
  go_enter Try.func18, Try.ntmps18
  go_wp2_with fail
  (with_reducible refine (to_at _ b r f R l h (by omega)).mono ?_)
  rintro e w' ⟨rfl, n1, rfl⟩
  have hW := h.drewN n1
  have kW : Kept2 b r w (w.drewN n1) := Kept2.refl.drewN _
  generalize w.drewN n1 = W at *
  have c1 := hW.c1
  have c2 := hW.c2
  have f1 := hW.1.frozen 1
  have f2 := hW.1.frozen 2
  by_cases g2 : q < f + l.length
  · have e2 : decide ((q : Int) < (f : Int) + (l.length : Int)) = true := by rw [decide_eq_true_eq]; omega
    have j1 : (0 : Int) ≤ (q : Int) - (f : Int) := by omega
    have j2 : (q : Int) - (f : Int) ≤ 65536 := by omega
    go_wp2
    go_ret
    have := V.out
    refine ⟨ret_int ?_, (drop_fin hW kW hdl _ _ ?_ ?_).1, (drop_fin hW kW hdl _ _ ?_ ?_).2⟩ <;> omega
  · have e2 : decide ((q : Int) < (f : Int) + (l.length : Int)) = false := by rw [decide_eq_false_iff_not]; omega
    go_wp2
    go_ret
    have := V.out
    refine ⟨ret_int ?_, (drop_fin hW kW hdl _ _ ?_ ?_).1, (drop_fin hW kW hdl _ _ ?_ ?_).2⟩ <;> omega

set_option maxHeartbeats 1000000 in
theorem new_ok (f m : Nat) (w : World) (hf : f ≤ 4611686018427387904) (hm : m ≤ 65536) :
    Calls Try.prog 13 #[.int .u64 (f : Int), .int .i64 (m : Int)] w fun e w' => e = .returned (.tuple #[.pointer (some ⟨w.heap.size + 1, 0, none⟩), .int .i64 0]) ∧ BufAt w' (w.heap.size + 1) w.heap.size f (List.replicate m 0) [] ∧ Below w.heap.size w w' ∧ w'.heap.size = w.heap.size + 2 := by
  have hmk := run_make_bytes w m hm
  go_enter Try.func13, Try.ntmps13
  go_wp2
  go_ret2
  have e : Array.replicate m (u8v 0) = ((List.replicate m (0 : UInt8)).map u8v).toArray := by simp
  refine ⟨rfl, ⟨?_, ?_, ⟨by simp, by intro i hi; simp at hi⟩, by simp; omega⟩, ?_, ?_⟩
  · have := Blk.new (w.alloc (.cells (Array.replicate m (u8v 0)) 5)) 63 #[.slice (some ⟨w.heap.size, 0, none⟩) m m, .int .u64 (f : Int), .int .i64 0]
    simpa using this
  · have := Blk.alloc (Blk.new w 5 (Array.replicate m (u8v 0))) (.cells #[.slice (some ⟨w.heap.size, 0, none⟩) m m, .int .u64 (f : Int), .int .i64 0] 63)
    rw [← e]
    exact this
  · exact ((Below.refl _ _).alloc (Nat.le_refl _) _).alloc (by simp) _
  · simp
set_option maxHeartbeats 1000000 in
theorem new_bad (f m : Int) (w : World) (hf : ¬ (f ≤ 4611686018427387904 ∧ 0 ≤ m ∧ m ≤ 65536)) (h0 : 0 ≤ f) (h1 : f < 18446744073709551616) (h2 : -9223372036854775808 ≤ m) (h3 : m ≤ 9223372036854775807) :
    Calls Try.prog 13 #[.int .u64 f, .int .i64 m] w fun e w' => e = .returned (.tuple #[.pointer none, .int .i64 2]) ∧ w = w' := by
  go_enter Try.func13, Try.ntmps13
  go_wp2
  all_goals try omega
  all_goals go_ret2
  all_goals exact ⟨rfl, rfl⟩

theorem room_nil (w : World) : Calls Try.prog 22 #[.pointer none] w fun e w' => e = .returned (.int .i64 0) ∧ w = w' := by
  go_enter Try.func22, Try.ntmps22
  go_wp2
  go_ret
  exact ⟨rfl, rfl⟩
theorem to_nil (w : World) : Calls Try.prog 21 #[.pointer none] w fun e w' => e = .returned (.int .u64 0) ∧ w = w' := by
  go_enter Try.func21, Try.ntmps21
  go_wp2
  go_ret
  exact ⟨rfl, rfl⟩
theorem from_nil (w : World) : Calls Try.prog 20 #[.pointer none] w fun e w' => e = .returned (.int .u64 0) ∧ w = w' := by
  go_enter Try.func20, Try.ntmps20
  go_wp2
  go_ret
  exact ⟨rfl, rfl⟩
theorem drop_nil (q : Int) (w : World) : Calls Try.prog 18 #[.pointer none, .int .u64 q] w fun e w' => e = .returned (.int .i64 0) ∧ w = w' := by
  go_enter Try.func18, Try.ntmps18
  go_wp2
  go_ret
  exact ⟨rfl, rfl⟩
theorem get_nil (q n : Int) (w : World) : Calls Try.prog 16 #[.pointer none, .int .u64 q, .int .i64 n] w fun e w' => e = .returned (.string ⟨#[]⟩) ∧ w = w' := by
  go_enter Try.func16, Try.ntmps16
  go_wp2
  go_ret
  exact ⟨rfl, rfl⟩
theorem put_nil (s : ByteArray) (w : World) (hs : s.size ≤ maxLen) : Calls Try.prog 14 #[.pointer none, .string s] w fun e w' => e = .returned (.int .i64 0) ∧ w = w' := by
  unfold maxLen at hs
  have e0 : min (s.size : Int) 0 = 0 := by omega
  go_enter Try.func14, Try.ntmps14
  go_wp2_with fail
  (with_reducible refine (room_nil _).mono ?_)
  rintro e w' ⟨rfl, rfl⟩
  go_wp2
  go_ret
  exact ⟨rfl, rfl⟩
end Go.Proofs.Ytbfmgdcnpefciaa
