/- Contracts of layer 15 (buf), third part: Get. -/
import Derived.Test.YtbfmgdcnpefciaaBuf
import Derived.Test.YtbfmgdcnpefciaaBytes
import Derived.Laws.CopyOwn
import Derived.Laws.MakeOwn
import Derived.Laws.OwnMore
import Derived.Deep.DeepCutAuto
set_option linter.unusedVariables false
set_option linter.unusedSimpArgs false
namespace Go.Proofs.Ytbfmgdcnpefciaa
open Go.RowKit

theorem infoU8z : (Try.prog.info? 5).map (fun i => (i.zero, i.size, i.bytes)) = some (some (.int .u8 0), 1, 1) := by kernel_rfl
theorem run_make_bytes (w : World) (m : Nat) (hm : m ≤ 65536) : (Instr.makeSlice 42 (.int .i64 (m : Int)) (.int .i64 (m : Int))).run Try.prog w =
    .ok (.slice (some ⟨w.heap.size, 0, none⟩) m m) (w.alloc (.cells ((List.replicate m (0 : UInt8)).map u8v).toArray 5)) := by
  obtain ⟨i, hi, h0, h1, h2⟩ := info_parts infoU8z
  have h := run_make (P := Try.prog) w 42 5 i (.int .u8 0) Try.underlying42 hi h0 .i64 .i64 (m : Int) (m : Int) (by omega) (Int.le_refl _) (by rw [h2]; omega) (by omega)
  rw [Int.toNat_natCast, h1] at h
  have e : madeCells (Value.int .u8 0).cells (m * 1) = ((List.replicate m (0 : UInt8)).map u8v).toArray := by
    apply Array.toList_inj.1
    rw [Nat.mul_one]
    have := toList_madeCells_one (.int .u8 0) m
    show (madeCells #[Value.int .u8 0] m).toList = _
    rw [this]
    simp [u8v]
  rw [e] at h
  exact h

/-- the part of bytes that is asked for -/
def getL (f : Nat) (l : List UInt8) (at_ : Nat) (n : Int) : List UInt8 := if at_ < f ∨ f + l.length ≤ at_ ∨ n ≤ 0 then [] else (l.drop (at_ - f)).take n.toNat

set_option maxHeartbeats 2000000 in
theorem get_at (w : World) (b r f : Nat) (R l : List UInt8) (q : Nat) (n : Int) (h : BufAt w b r f R l) (hf : f ≤ 9223372036854775807) (hq : q < 18446744073709551616) (n0 : -9223372036854775808 ≤ n) (n1 : n ≤ 9223372036854775807) :
    Calls Try.prog 16 #[.pointer (some ⟨b, 0, none⟩), .int .u64 (q : Int), .int .i64 n] w fun e w' => e = .returned (.string ⟨(getL f l q n).toArray⟩) ∧ Below w.heap.size w w' := by
  have hl := h.le
  have h4 := h.2.2.2
  have c1 := h.c1
  have ct := fun W (h : BufAt W b r f R l) => to_at W b r f R l h (by omega)
  obtain ⟨t0, ht0⟩ : ∃ t0, t0 = f + l.length := ⟨_, rfl⟩
  rw [← ht0] at ct
  have CT := Lib.hid ct
  have HT := Lib.hid ht0
  clear ct
  by_cases g1 : q < f
  · have v : getL f l q n = [] := by unfold getL; rw [if_pos (.inl g1)]
    have V := Lib.hid v
    clear v ht0
    have e1 : decide ((q : Int) < (f : Int)) = true := by rw [decide_eq_true_eq]; omega
    go_enter Try.func16, Try.ntmps16
    go_wp2
    go_ret
    exact ⟨by rw [V.out]; rfl, Below.refl _ _⟩
  have e1 : decide ((q : Int) < (f : Int)) = false := by rw [decide_eq_false_iff_not]; omega
  by_cases g2 : t0 ≤ q
  · have v : getL f l q n = [] := by unfold getL; rw [if_pos (.inr (.inl (by omega)))]
    have V := Lib.hid v
    clear v ht0
    have e2 : decide ((t0 : Int) ≤ (q : Int)) = true := by rw [decide_eq_true_eq]; omega
    go_enter Try.func16, Try.ntmps16
    go_wp2_with fail
    (with_reducible refine (CT.out _ h).mono ?_)
    rintro e w' ⟨rfl, n1, rfl⟩
    go_wp2
    go_ret
    exact ⟨by rw [V.out]; rfl, below_n _ _⟩
  have e2 : decide ((t0 : Int) ≤ (q : Int)) = false := by rw [decide_eq_false_iff_not]; omega
  by_cases g3 : n ≤ 0
  · have v : getL f l q n = [] := by unfold getL; rw [if_pos (.inr (.inr g3))]
    have V := Lib.hid v
    clear v ht0
    go_enter Try.func16, Try.ntmps16
    go_wp2_with fail
    (with_reducible refine (CT.out _ h).mono ?_)
    rintro e w' ⟨rfl, n2, rfl⟩
    go_wp2
    go_ret
    exact ⟨by rw [V.out]; rfl, below_n _ _⟩
  obtain ⟨m, hm⟩ : ∃ m : Nat, (m : Int) = min n ((t0 : Int) - (q : Int)) := ⟨(min n ((t0 : Int) - (q : Int))).toNat, Int.toNat_of_nonneg (by omega)⟩
  obtain ⟨d, hd⟩ : ∃ d : Nat, f + d = q := ⟨q - f, by omega⟩
  have hdm : d + m ≤ l.length := by omega
  have hm0 : 0 < m := by omega
  have v : getL f l q n = (l.drop d).take m := by
    unfold getL
    rw [if_neg (by omega), show q - f = d by omega]
    rcases Int.le_total n ((t0 : Int) - (q : Int)) with c | c
    · rw [show n.toNat = m by omega]
    · rw [List.take_of_length_le (by rw [List.length_drop]; omega), List.take_of_length_le (by rw [List.length_drop]; omega)]
  obtain ⟨p, hp⟩ : ∃ p, p = q % R.length := ⟨_, rfl⟩
  have hR0 : 0 < R.length := by omega
  have hpl : p < R.length := by rw [hp]; exact Nat.mod_lt _ hR0
  obtain ⟨k, hk⟩ : ∃ k, k = min m (R.length - p) := ⟨_, rfl⟩
  have hget := holds_get (R := R) (l := l) (f := f) (q := d) (n := m) (k := k) h.2.2.1 hdm hm0 (by rw [hd, ← hp]; exact hk)
  rw [hd, ← hp, ← v] at hget
  have cs := fun W (h : BufAt W b r f R l) => slot_at W b r f R l h q hq hR0
  rw [← hp] at cs
  have hk1 : k ≤ m := by omega
  have hk2 : p + k ≤ R.length := by omega
  have hml : m ≤ R.length := by omega
  have j1 : (0 : Int) ≤ (t0 : Int) - (q : Int) := by omega
  have j2 : (t0 : Int) - (q : Int) ≤ 65536 := by omega
  have CS := Lib.hid cs
  have HG := Lib.hid hget
  have HM := Lib.hid hm
  have HKM := Lib.hid hk
  clear cs hget hm hk v hp hd ht0
  have n2 : ¬ n ≤ 0 := g3
  go_enter Try.func16, Try.ntmps16
  go_wp2_with fail
  (with_reducible refine (CT.out _ h).mono ?_)
  rintro e w' ⟨rfl, n3, rfl⟩
  go_upto_region 3 with fail
  go_wp2_with fail
  (with_reducible refine (CT.out _ (h.drewN _)).mono ?_)
  rintro e w' ⟨rfl, n4, rfl⟩
  go_upto_region 4 with fail
  rw [← HM.out]
  have hW := h.drewN (n3 + n4)
  have kW := below_n w (n3 + n4)
  have hgl : w.heap.size = (w.drewN (n3 + n4)).heap.size := rfl
  generalize w.drewN (n3 + n4) = W at *
  have hmk := run_make_bytes W m (by omega)
  go_upto_region 5 with fail
  have hO := Blk.new W 5 (Array.replicate m (u8v 0))
  rw [show Array.replicate m (u8v 0) = ((List.replicate m (0 : UInt8)).map u8v).toArray by simp] at hO ⊢
  have kZ : Below w.heap.size w (W.alloc (.cells ((List.replicate m (0 : UInt8)).map u8v).toArray 5)) := kW.alloc kW.size _
  have hZ : BufAt (W.alloc (.cells ((List.replicate m (0 : UInt8)).map u8v).toArray 5)) b r f R l := ⟨Blk.alloc hW.1 _, Blk.alloc hW.2.1 _, hW.2.2⟩
  obtain ⟨g, hg⟩ : ∃ g, g = W.heap.size := ⟨_, rfl⟩
  have hgr : g ≠ r := by have := hW.2.1.lt; omega
  rw [← hg] at hO ⊢
  have hgw : w.heap.size ≤ g := by rw [hg]; exact kW.size
  generalize W.alloc (.cells ((List.replicate m (0 : UInt8)).map u8v).toArray 5) = Z at *
  have d0 := hZ.c0
  have hcs : Calls Try.prog 28 #[.pointer (some ⟨b, 0, none⟩), .int .u64 (q : Int)] Z.drew fun e w' => e = .returned (.int .i64 (p : Int)) ∧ w' = Z.drew := (CS.out _ hZ.drew).mono fun e w' ⟨x1, x2⟩ => ⟨x1, x2.symm⟩
  have HCS := Lib.hid hcs
  have i1 : (p : Int) ≤ (R.length : Int) := by omega
  have i2 : (0 : Int) ≤ (p : Int) := by omega
  have hne : ¬ R.length = p := by omega
  clear hcs hmk hW kW hg hgl
  refine wp_region_still_tail 9 (by kernel_rfl) (by kernel_rfl) ?_
  simp only [List.take_succ_cons, List.take_zero, List.drop_succ_cons, List.drop_zero]
  repeat still_step
  still_call HCS.out
  repeat still_step
  try refine wpStill_nil ?_
  change wpList _ _ _ _ _ Z.drew
  obtain ⟨X1, hX1⟩ : ∃ X1, X1 = ((R.drop p).take k).map u8v := ⟨_, rfl⟩
  obtain ⟨X2, hX2⟩ : ∃ X2, X2 = (R.take (m - k)).map u8v := ⟨_, rfl⟩
  obtain ⟨Zs, hZs⟩ : ∃ Zs, Zs = (List.replicate m (0 : UInt8)).map u8v := ⟨_, rfl⟩
  have l1 : X1.length = k := by rw [hX1, List.length_map, List.length_take, List.length_drop]; omega
  have l2 : X2.length = m - k := by rw [hX2, List.length_map, List.length_take]; omega
  have lz : Zs.length = m := by rw [hZs]; simp
  have o1 : ∀ v ∈ X1, v.oneCell' = true := by rw [hX1]; intro v hv; obtain ⟨x, _, rfl⟩ := List.mem_map.1 hv; rfl
  have o2 : ∀ v ∈ X2, v.oneCell' = true := by rw [hX2]; intro v hv; obtain ⟨x, _, rfl⟩ := List.mem_map.1 hv; rfl
  have hall : splice (splice Zs 0 X1) k X2 = (getL f l q n).map u8v := by
    rw [← HG.out, List.map_append, ← hX1, ← hX2]
    unfold splice
    rw [List.take_zero, List.nil_append, Nat.zero_add, l1, List.take_append_of_le_length (by omega), List.take_of_length_le (by omega), List.drop_of_length_le (by simp only [List.length_append, List.length_drop]; omega), List.append_nil]
  have src1 : ∀ j v, X1[j]? = some v → Z.drew.cell? ((⟨r, p, none⟩ : Addr).add j) = some v := by
    intro j v hv
    have hj : j < k := by
      rcases Nat.lt_or_ge j k with c | c
      · exact c
      · rw [List.getElem?_eq_none (by omega)] at hv; cases hv
    rw [add_plain]
    show Z.cell? ⟨r, p + j, none⟩ = some v
    rw [hZ.2.1.cell (p + j), ← hv, hX1]
    simp [List.getElem?_map, List.getElem?_take_of_lt hj, List.getElem?_drop]
  rw [← hZs] at hO
  have HA := Lib.hid hall
  have HX2 := Lib.hid hX2
  clear hall hX1 hZs hX2
  refine wpList_copy_splice rfl _ _ _ _ rfl 5 Try.underlying42 infoU8 (some ⟨g, 0, none⟩) (some ⟨r, p, none⟩) m m (R.length - p) (R.length - p) (by simp [Act.eval]) (by simp [Act.eval]) g 0 Zs 5 hO X1 (by rw [l1]; show k = min (R.length - p) m; have := HKM.out; omega) (fun _ => ⟨rfl, _, rfl, src1⟩) (by omega) o1 w.heap.size w kZ.drew hgw ?_
  intro w1 HG1 hB1
  have hb1 : BufAt w1 b r f R l := ⟨Blk.below h.1 hB1 h.1.lt, Blk.below h.2.1 hB1 h.2.1.lt, h.2.2⟩
  have d1 := hb1.c0
  clear src1 kZ hZ hO d0
  rw [l1]
  go_upto_region 6 with fail
  have i3 : (0 : Int) ≤ (k : Int) := by omega
  have i4 : (k : Int) ≤ (m : Int) := by omega
  go_still_tail 7, (by kernel_rfl)
  change wpList _ _ _ _ _ w1.drew
  have src2 : ∀ j v, X2[j]? = some v → w1.drew.cell? ((⟨r, 0, none⟩ : Addr).add j) = some v := by
    intro j v hv
    have hj : j < m - k := by
      rcases Nat.lt_or_ge j (m - k) with c | c
      · exact c
      · rw [List.getElem?_eq_none (by omega)] at hv; cases hv
    rw [add_plain, Nat.zero_add]
    show w1.cell? ⟨r, j, none⟩ = some v
    rw [hb1.2.1.cell j, ← hv, HX2.out]
    simp [List.getElem?_map, List.getElem?_take_of_lt hj]
  refine wpList_copy_splice rfl _ _ _ _ rfl 5 Try.underlying42 infoU8 (if m = k then some ⟨g, 0, none⟩ else some ⟨g, k, none⟩) (some ⟨r, 0, none⟩) (m - k) (m - k) R.length R.length (by simp [Act.eval]) (by simp [Act.eval]) g k (splice Zs 0 X1) 5 HG1.out X2 (by rw [l2]; show m - k = min R.length (m - k); omega) (fun hp => ⟨by rw [if_neg (by omega)], _, rfl, src2⟩) (by rw [length_splice _ _ _ (by omega)]; omega) o2 w.heap.size w hB1.drew hgw ?_
  intro w2 HG2 hB2
  have hg2 : Blk w2 g 5 ((getL f l q n).map u8v).toArray := by
    have := HG2.out
    rw [HA.out] at this
    exact this
  have hlen : (getL f l q n).length = m := by
    rw [← HG.out, List.length_append, List.length_take, List.length_drop, List.length_take]
    omega
  clear HG2 HG1 src2 hB1 hb1 d1
  have hbk := run_bytes_back w2 ⟨g, 0, none⟩ m m (getL f l q n) hlen.symm (by
    intro j hj
    rw [add_plain, Nat.zero_add, hg2.cell j]
    simp [List.getElem?_map, List.getElem?_eq_getElem hj, u8v])
  go_wp2
  all_goals go_ret
  all_goals exact ⟨rfl, hB2⟩
end Go.Proofs.Ytbfmgdcnpefciaa
