/- The known answers of layer 17's laws (works), and the call of New as the laws make it. -/
import Derived.Test.YtcfomapeiaobaaaRto2
set_option linter.unusedVariables false
set_option linter.unusedSimpArgs false
set_option linter.unusedSectionVars false
namespace Go.Proofs.Ytcfomapeiaobaaa
open Go.RowKit

theorem RAt.drewN {w : World} {t : TypeId} {g : Nat} {c : RCf} {s : RSt} (h : RAt w t g c s) (n : Nat) : RAt (w.drewN n) t g c s := Blk.drewN h n
theorem RAt.drew {w : World} {t : TypeId} {g : Nat} {c : RCf} {s : RSt} (h : RAt w t g c s) : RAt w.drew t g c s := Blk.drew h
theorem RAt.lt {w : World} {t : TypeId} {g : Nat} {c : RCf} {s : RSt} (h : RAt w t g c s) : g < w.heap.size := Blk.lt h
theorem RAt.below {w w' : World} {t : TypeId} {g B : Nat} {c : RCf} {s : RSt} (h : RAt w t g c s) (hb : Below B w w') (hg : g < B) : RAt w' t g c s := Blk.below h hb hg
theorem RAt.grown {w w' : World} {t : TypeId} {g : Nat} {c : RCf} {s : RSt} {row : Option Nat} (h : RAt w t g c s) (hb : w.grownBy w' row) (hg : some g ≠ row) : RAt w' t g c s := Blk.grown h hb hg
theorem new_okv (f l m t : Int) (w : World) (hc : (⟨f, l, m, t⟩ : RCf).ok) :
    Calls Try.prog 15 #[.agg #[.int .i64 f, .int .i64 l, .int .i64 m, .int .i64 t]] w fun r w' => r = .returned (.tuple #[.pointer (some ⟨w.heap.size + 1, 0, none⟩), .int .i64 0]) ∧ RAt w' 72 (w.heap.size + 1) ⟨f, l, m, t⟩ ⟨false, 0, 0, f, 0⟩ ∧ Below w.heap.size w w' :=
  new_ok ⟨f, l, m, t⟩ w hc
theorem new_badv (f l m t : Int) (w : World) (hc : ¬ (⟨f, l, m, t⟩ : RCf).ok) (l1 : -9223372036854775808 ≤ t) (l2 : t ≤ 9223372036854775807) :
    Calls Try.prog 15 #[.agg #[.int .i64 f, .int .i64 l, .int .i64 m, .int .i64 t]] w fun r w' => r = .returned (.tuple #[.pointer none, .int .i64 2]) ∧ Below w.heap.size w w' :=
  new_bad ⟨f, l, m, t⟩ w hc l1 l2
theorem may_okv (f l m t : Int) (w : World) (hc : (⟨f, l, m, t⟩ : RCf).ok) :
    Calls Try.prog 16 #[.agg #[.int .i64 f, .int .i64 l, .int .i64 m, .int .i64 t]] w fun r w' => r = .returned (.bool true) ∧ Below w.heap.size w w' :=
  may_ok ⟨f, l, m, t⟩ w hc
theorem may_badv (f l m t : Int) (w : World) (hc : ¬ (⟨f, l, m, t⟩ : RCf).ok) (l1 : -9223372036854775808 ≤ t) (l2 : t ≤ 9223372036854775807) :
    Calls Try.prog 16 #[.agg #[.int .i64 f, .int .i64 l, .int .i64 m, .int .i64 t]] w fun r w' => r = .returned (.bool false) ∧ Below w.heap.size w w' :=
  may_bad ⟨f, l, m, t⟩ w hc l1 l2

theorem works_rto (w : World) : Calls Try.prog 14 #[] w fun e w' => e = .returned (.bool true) ∧ Below w.heap.size w w' := by
  have ho : (⟨10, 2, 40, 3⟩ : RCf).ok := by unfold RCf.ok; decide
  have o1 : (⟨false, 0, 0, 10, 0⟩ : RSt).ok ⟨10, 2, 40, 3⟩ := by unfold RSt.ok; decide
  have o2 : (⟨false, 0, 0, 20, 1⟩ : RSt).ok ⟨10, 2, 40, 3⟩ := by unfold RSt.ok; decide
  have o3 : (⟨false, 0, 0, 40, 2⟩ : RSt).ok ⟨10, 2, 40, 3⟩ := by unfold RSt.ok; decide
  have o4 : (⟨false, 0, 0, 40, 3⟩ : RSt).ok ⟨10, 2, 40, 3⟩ := by unfold RSt.ok; decide
  have Ho := Lib.hid ho
  clear ho
  have O1 := Lib.hid o1
  clear o1
  have O2 := Lib.hid o2
  clear o2
  have O3 := Lib.hid o3
  clear o3
  have O4 := Lib.hid o4
  clear o4
  go_enter Try.func14, Try.ntmps14
  go_wp2_with fail
  (with_reducible refine (new_okv 10 2 40 3 _ Ho.out).mono ?_)
  rintro e w1 ⟨rfl, hr, hb⟩
  have hr1 : RAt w1 72 (w.heap.size + 1) ⟨10, 2, 40, 3⟩ ⟨false, 0, 0, 10, 0⟩ := hr
  clear hr
  have Hr1 := Lib.hid hr1
  clear hr1
  have Hb := Lib.hid hb
  clear hb
  go_wp2_with fail
  (with_reducible refine (back_core _ ⟨10, 2, 40, 3⟩ ⟨false, 0, 0, 10, 0⟩ _ Hr1.out Ho.out O1.out (by decide)).mono ?_)
  rintro e w2 ⟨rfl, hr, hg2⟩
  have hr2 : RAt w2 72 (w.heap.size + 1) ⟨10, 2, 40, 3⟩ ⟨false, 0, 0, 20, 1⟩ := hr
  clear hr
  have hb2 : Below w.heap.size w w2 := below_only Hb.out hg2 (by omega) Hb.out.size
  clear hg2
  have Hr2 := Lib.hid hr2
  clear hr2
  have Hb2 := Lib.hid hb2
  clear hb2
  go_wp2_with fail
  (with_reducible refine (wait_core _ ⟨10, 2, 40, 3⟩ ⟨false, 0, 0, 20, 1⟩ _ Hr2.out).mono ?_)
  rintro e w' ⟨rfl, rfl⟩
  go_wp2_with fail
  (with_reducible refine (back_core _ ⟨10, 2, 40, 3⟩ ⟨false, 0, 0, 20, 1⟩ _ Hr2.out Ho.out O2.out (by decide)).mono ?_)
  rintro e w3 ⟨rfl, hr, hg3⟩
  have hr3 : RAt w3 72 (w.heap.size + 1) ⟨10, 2, 40, 3⟩ ⟨false, 0, 0, 40, 2⟩ := hr
  clear hr
  have hb3 : Below w.heap.size w w3 := below_only Hb2.out hg3 (by omega) Hb2.out.size
  clear hg3
  have Hr3 := Lib.hid hr3
  clear hr3
  have Hb3 := Lib.hid hb3
  clear hb3
  go_wp2_with fail
  (with_reducible refine (back_core _ ⟨10, 2, 40, 3⟩ ⟨false, 0, 0, 40, 2⟩ _ Hr3.out Ho.out O3.out (by decide)).mono ?_)
  rintro e w4 ⟨rfl, hr, hg4⟩
  have hr4 : RAt w4 72 (w.heap.size + 1) ⟨10, 2, 40, 3⟩ ⟨false, 0, 0, 40, 3⟩ := hr
  clear hr
  have hb4 : Below w.heap.size w w4 := below_only Hb3.out hg4 (by omega) Hb3.out.size
  clear hg4
  have Hr4 := Lib.hid hr4
  clear hr4
  have Hb4 := Lib.hid hb4
  clear hb4
  go_wp2_with fail
  (with_reducible refine (wait_core _ ⟨10, 2, 40, 3⟩ ⟨false, 0, 0, 40, 3⟩ _ Hr4.out).mono ?_)
  rintro e w' ⟨rfl, rfl⟩
  go_wp2_with fail
  (with_reducible refine (back_no _ ⟨10, 2, 40, 3⟩ ⟨false, 0, 0, 40, 3⟩ _ Hr4.out (by decide)).mono ?_)
  rintro e w' ⟨rfl, n1, rfl⟩
  go_wp2_with fail
  (with_reducible refine (sample_core _ ⟨10, 2, 40, 3⟩ ⟨false, 0, 0, 40, 3⟩ 4 _ (Hr4.out.drewN _) Ho.out O4.out (by unfold rBad; decide)).mono ?_)
  rintro e w5 ⟨rfl, hr, hg5⟩
  have hr5 : RAt w5 72 (w.heap.size + 1) ⟨10, 2, 40, 3⟩ ⟨true, 32, 8, 12, 3⟩ := hr
  clear hr
  have hb5 : Below w.heap.size w w5 := below_only (below_drewN Hb4.out _) hg5 (by omega) Hb4.out.size
  clear hg5
  have Hr5 := Lib.hid hr5
  clear hr5
  have Hb5 := Lib.hid hb5
  clear hb5
  go_wp2_with fail
  (with_reducible refine (wait_core _ ⟨10, 2, 40, 3⟩ ⟨true, 32, 8, 12, 3⟩ _ Hr5.out).mono ?_)
  rintro e w' ⟨rfl, rfl⟩
  go_wp2_with fail
  (with_reducible refine (fresh_core _ ⟨10, 2, 40, 3⟩ ⟨true, 32, 8, 12, 3⟩ _ Hr5.out).mono ?_)
  rintro e w6 ⟨rfl, hr, hg6⟩
  have hr6 : RAt w6 72 (w.heap.size + 1) ⟨10, 2, 40, 3⟩ ⟨true, 32, 8, 12, 0⟩ := hr
  clear hr
  have hb6 : Below w.heap.size w w6 := below_only Hb5.out hg6 (by omega) Hb5.out.size
  clear hg6
  have Hr6 := Lib.hid hr6
  clear hr6
  have Hb6 := Lib.hid hb6
  clear hb6
  go_wp2_with fail
  (with_reducible refine (tries_core _ ⟨10, 2, 40, 3⟩ ⟨true, 32, 8, 12, 0⟩ _ Hr6.out).mono ?_)
  rintro e w' ⟨rfl, rfl⟩
  go_wp2
  go_ret
  exact ⟨rfl, Hb6.out⟩
end Go.Proofs.Ytcfomapeiaobaaa
