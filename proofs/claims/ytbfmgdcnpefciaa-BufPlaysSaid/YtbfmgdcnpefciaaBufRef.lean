/- Contracts of layer 15 (buf): the document's Buf. -/
import Derived.Test.YtbfmgdcnpefciaaBufDrop
set_option linter.unusedVariables false
set_option linter.unusedSimpArgs false
namespace Go.Proofs.Ytbfmgdcnpefciaa
open Go.RowKit

def RefAt (w : World) (g m f : Nat) (s : ByteArray) : Prop := Blk w g 32 #[.int .i64 (m : Int), .int .u64 (f : Int), .string s]
theorem RefAt.c0 {w : World} {g m f : Nat} {s : ByteArray} (h : RefAt w g m f s) : w.cell? ⟨g, 0, none⟩ = some (.int .i64 (m : Int)) := by have := Blk.cell h 0; simpa using this
theorem RefAt.c1 {w : World} {g m f : Nat} {s : ByteArray} (h : RefAt w g m f s) : w.cell? ⟨g, 1, none⟩ = some (.int .u64 (f : Int)) := by have := Blk.cell h 1; simpa using this
theorem RefAt.c2 {w : World} {g m f : Nat} {s : ByteArray} (h : RefAt w g m f s) : w.cell? ⟨g, 2, none⟩ = some (.string s) := by have := Blk.cell h 2; simpa using this

set_option maxHeartbeats 1000000 in
theorem ref_put_at (w : World) (g m f : Nat) (s t : ByteArray) (n : Nat) (h : RefAt w g m f s) (hm : m ≤ 65536) (hs : s.size ≤ m) (ht : t.size ≤ maxLen) (hn : n = min t.size (m - s.size)) :
    Calls Try.prog 15 #[.pointer (some ⟨g, 0, none⟩), .string t] w fun e w' => e = .returned (.int .i64 (n : Int)) ∧ RefAt w' g m f (s ++ t.extract 0 n) ∧ w.grownBy w' (some g) := by
  unfold maxLen at ht
  have c0 := h.c0
  have c2 := h.c2
  have j1 : (0 : Int) ≤ (m : Int) - (s.size : Int) := by omega
  have hmi : min (t.size : Int) ((m : Int) - (s.size : Int)) = (n : Int) := by omega
  have n1 : (n : Int) ≤ (t.size : Int) := by omega
  have n0 : (0 : Int) ≤ (n : Int) := by omega
  have nb : s.size + n ≤ m := by omega
  have HMI := Lib.hid hmi
  clear hmi hn
  go_enter Try.func15, Try.ntmps15
  go_wp2
  go_quiet (fail)
  rw [HMI.out]
  generalize hW : w.drewN _ = W
  have hR : RefAt W g m f s := by rw [← hW]; exact Blk.drewN h _
  have hg0 : w.grownBy W (some g) := by rw [← hW]; exact only_drewN (World.grownBy.refl w _) _
  have d2 := hR.c2
  have f2 := Blk.frozen hR 2
  clear hW c0 c2
  go_upto_region 2 with fail
  have jl : ¬ 9223372036854775807 < s.size + min n t.size := by omega
  have jl2 : s.size + min n t.size ≤ 9223372036854775807 := by omega
  go_still_tail 11, (by kernel_rfl)
  go_wp2
  go_ret
  refine ⟨rfl, ?_, only_drew (only_set hg0 2 _)⟩
  have hfin : Blk (W.setCell ⟨g, 2, none⟩ (.string (s ++ t.extract 0 n))) g 32 #[.int .i64 (m : Int), .int .u64 (f : Int), .string (s ++ t.extract 0 n)] := by
    have := Blk.set_ hR 2 (.string (s ++ t.extract 0 n))
    simpa using this
  exact hfin.drew

set_option maxHeartbeats 1000000 in
theorem ref_drop_at (w : World) (g m f : Nat) (s : ByteArray) (q : Nat) (h : RefAt w g m f s) (hs : s.size ≤ 65536) (hf : f ≤ 9223372036854775807) (hq : q < 18446744073709551616) :
    Calls Try.prog 19 #[.pointer (some ⟨g, 0, none⟩), .int .u64 (q : Int)] w fun e w' => e = .returned (.int .i64 ((dropN f s.data.toList q : Nat) : Int)) ∧ RefAt w' g m (f + dropN f s.data.toList q) (s.extract (dropN f s.data.toList q) s.size) ∧ w.grownBy w' (some g) := by
  have c1 := h.c1
  have c2 := h.c2
  have f1 := Blk.frozen h 1
  have f2 := Blk.frozen h 2
  have hll : s.data.toList.length = s.size := rfl
  by_cases g1 : q ≤ f
  · have v : dropN f s.data.toList q = 0 := if_pos g1
    rw [v]
    have e1 : decide ((q : Int) ≤ (f : Int)) = true := by rw [decide_eq_true_eq]; omega
    go_enter Try.func19, Try.ntmps19
    go_wp2
    go_ret
    exact ⟨rfl, by simpa [RefAt] using h, World.grownBy.refl w _⟩
  have v : dropN f s.data.toList q = min s.size (q - f) := by unfold dropN; rw [if_neg g1, hll]
  obtain ⟨d, hd⟩ : ∃ d, d = dropN f s.data.toList q := ⟨_, rfl⟩
  rw [← hd] at v ⊢
  have hdl : d ≤ s.size := by omega
  have V := Lib.hid v
  clear v hd
  have e1 : decide ((q : Int) ≤ (f : Int)) = false := by rw [decide_eq_false_iff_not]; omega
  have j1 : (0 : Int) ≤ (q : Int) - (f : Int) := by omega
  have fin : ∀ x y, x = ((f + d : Nat) : Int) → y = s.extract d s.size → RefAt ((w.setCell ⟨g, 2, none⟩ (.string y)).setCell ⟨g, 1, none⟩ (.int .u64 x)) g m (f + d) (s.extract d s.size) := by
    rintro x y rfl rfl
    have := (Blk.set_ (Blk.set_ h 2 (.string (s.extract d s.size))) 1 (.int .u64 ((f + d : Nat) : Int)))
    unfold RefAt
    simpa using this
  by_cases g2 : q - f < s.size
  · have e2 : decide ((q : Int) - (f : Int) < (s.size : Int)) = true := by rw [decide_eq_true_eq]; omega
    have dq : (d : Int) = (q : Int) - (f : Int) := by have := V.out; omega
    have HF := Lib.hid fin
    have j2 : (q : Int) - (f : Int) ≤ (s.size : Int) := by omega
    go_enter Try.func19, Try.ntmps19
    go_wp2
    go_ret
    refine ⟨ret_int (by omega), HF.out _ _ (by omega) ?_, only_set (only_set (World.grownBy.refl w _) 2 _) 1 _⟩
    congr 1
    omega
  · have e2 : decide ((q : Int) - (f : Int) < (s.size : Int)) = false := by rw [decide_eq_false_iff_not]; omega
    have dq : d = s.size := by have := V.out; omega
    have HF := Lib.hid fin
    go_enter Try.func19, Try.ntmps19
    go_wp2
    go_ret
    refine ⟨ret_int (by omega), HF.out _ _ (by omega) ?_, only_set (only_set (World.grownBy.refl w _) 2 _) 1 _⟩
    rw [dq]
    first | rfl | simp
end Go.Proofs.Ytbfmgdcnpefciaa
