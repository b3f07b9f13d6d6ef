/- slices.Repeat of one number, two, four, six or eight times. -/
import Derived.Test.YtimepplfaaddeaaOptRTurn
import Derived.Laws.CopyOwn
import Derived.StillTailTactics
set_option linter.unusedVariables false
set_option linter.unusedSimpArgs false
namespace Go.Proofs.Ytimepplfaaddeaa
open Go.RowKit Go.BigFrame

theorem mul64_2 (w : World) : Calls Try.prog 44 #[.int .u64 1, .int .u64 2] w fun e w' => e = .returned (.tuple #[.int .u64 0, .int .u64 2]) ∧ w = w' := by
  go_enter Try.func44, Try.ntmps44
  go_wp2
  go_ret2
  exact ⟨rfl, rfl⟩
theorem mulu_2 (w : World) : Calls Try.prog 41 #[.int .u64 1, .int .u64 2] w fun e w' => e = .returned (.tuple #[.int .u64 0, .int .u64 2]) ∧ w = w' := by
  have h := mul64_2
  have H := Lib.hid h
  clear h
  go_enter Try.func41, Try.ntmps41
  go_wp2_with fail
  with_reducible refine (H.out _).mono ?_
  rintro e w' ⟨rfl, rfl⟩
  go_wp2
  go_ret2
  exact ⟨rfl, rfl⟩
theorem mul64_4 (w : World) : Calls Try.prog 44 #[.int .u64 1, .int .u64 4] w fun e w' => e = .returned (.tuple #[.int .u64 0, .int .u64 4]) ∧ w = w' := by
  go_enter Try.func44, Try.ntmps44
  go_wp2
  go_ret2
  exact ⟨rfl, rfl⟩
theorem mulu_4 (w : World) : Calls Try.prog 41 #[.int .u64 1, .int .u64 4] w fun e w' => e = .returned (.tuple #[.int .u64 0, .int .u64 4]) ∧ w = w' := by
  have h := mul64_4
  have H := Lib.hid h
  clear h
  go_enter Try.func41, Try.ntmps41
  go_wp2_with fail
  with_reducible refine (H.out _).mono ?_
  rintro e w' ⟨rfl, rfl⟩
  go_wp2
  go_ret2
  exact ⟨rfl, rfl⟩
theorem mul64_6 (w : World) : Calls Try.prog 44 #[.int .u64 1, .int .u64 6] w fun e w' => e = .returned (.tuple #[.int .u64 0, .int .u64 6]) ∧ w = w' := by
  go_enter Try.func44, Try.ntmps44
  go_wp2
  go_ret2
  exact ⟨rfl, rfl⟩
theorem mulu_6 (w : World) : Calls Try.prog 41 #[.int .u64 1, .int .u64 6] w fun e w' => e = .returned (.tuple #[.int .u64 0, .int .u64 6]) ∧ w = w' := by
  have h := mul64_6
  have H := Lib.hid h
  clear h
  go_enter Try.func41, Try.ntmps41
  go_wp2_with fail
  with_reducible refine (H.out _).mono ?_
  rintro e w' ⟨rfl, rfl⟩
  go_wp2
  go_ret2
  exact ⟨rfl, rfl⟩
theorem mul64_8 (w : World) : Calls Try.prog 44 #[.int .u64 1, .int .u64 8] w fun e w' => e = .returned (.tuple #[.int .u64 0, .int .u64 8]) ∧ w = w' := by
  go_enter Try.func44, Try.ntmps44
  go_wp2
  go_ret2
  exact ⟨rfl, rfl⟩
theorem mulu_8 (w : World) : Calls Try.prog 41 #[.int .u64 1, .int .u64 8] w fun e w' => e = .returned (.tuple #[.int .u64 0, .int .u64 8]) ∧ w = w' := by
  have h := mul64_8
  have H := Lib.hid h
  clear h
  go_enter Try.func41, Try.ntmps41
  go_wp2_with fail
  with_reducible refine (H.out _).mono ?_
  rintro e w' ⟨rfl, rfl⟩
  go_wp2
  go_ret2
  exact ⟨rfl, rfl⟩
theorem infoU32r : (Try.prog.info? 24).map (·.size) = some 1 := by kernel_rfl
theorem makeU32 (m : Nat) (hm : m = 2 ∨ m = 4 ∨ m = 6 ∨ m = 8) (W : World) : (Instr.makeSlice 63 (.int .i64 (m : Int)) (.int .i64 (m : Int))).run Try.prog W = .ok (.slice (some ⟨W.heap.size, 0, none⟩) m m) (W.alloc (.cells ((List.replicate m (Value.int .u32 0)).toArray) 24)) := by
  rcases hm with rfl | rfl | rfl | rfl <;> kernel_rfl
set_option maxHeartbeats 2000000 in
theorem rep_any (w : World) (g c : Nat) (b : Int) (hB : Blk w g 24 #[.int .u32 b]) (m : Nat) (hm : m = 2 ∨ m = 4 ∨ m = 6 ∨ m = 8) :
    Calls Try.prog 30 #[.slice (some ⟨g, 0, none⟩) 1 c, .int .i64 (m : Int)] w fun e w' => ∃ r, e = .returned (.slice (some ⟨r, 0, none⟩) m m) ∧ Blk w' r 24 ((List.replicate m (Value.int .u32 b)).toArray) ∧ w.heap.size ≤ r ∧ Below w.heap.size w w' := by
  have hmul : ∀ w, Calls Try.prog 41 #[.int .u64 1, .int .u64 (m : Int)] w fun e w' => e = .returned (.tuple #[.int .u64 0, .int .u64 (m : Int)]) ∧ w = w' := by
    intro w
    rcases hm with rfl | rfl | rfl | rfl
    · exact mulu_2 w
    · exact mulu_4 w
    · exact mulu_6 w
    · exact mulu_8 w
  have hmk := makeU32 m hm
  have m0 : (0 : Int) ≤ (m : Int) := by omega
  have m8 : (m : Int) ≤ 8 := by omega
  have m2 : (2 : Int) ≤ (m : Int) := by omega
  have hb0 : Below w.heap.size w (w.alloc (.cells ((List.replicate m (Value.int .u32 0)).toArray) 24)) := (Below.refl _ _).alloc (Nat.le_refl _) _
  have hN := Blk.new w 24 ((List.replicate m (Value.int .u32 0)).toArray)
  have hB1 := hB.alloc (.cells ((List.replicate m (Value.int .u32 0)).toArray) 24)
  obtain ⟨r, hr⟩ : ∃ r, r = w.heap.size := ⟨_, rfl⟩
  have hrl : w.heap.size ≤ r := by omega
  have hgr : g ≠ r := by have := hB.lt; omega
  rw [← hr] at hN
  obtain ⟨Z, hZ⟩ : ∃ Z : List Value, Z = List.replicate m (Value.int .u32 0) := ⟨_, rfl⟩
  have hZl : Z.length = m := by rw [hZ, List.length_replicate]
  have hmk' : ∀ W : World, (Instr.makeSlice 63 (.int .i64 (m : Int)) (.int .i64 (m : Int))).run Try.prog W = .ok (.slice (some ⟨W.heap.size, 0, none⟩) m m) (W.alloc (.cells Z.toArray 24)) := by rw [hZ]; exact hmk
  clear hmk
  rw [← hZ] at hN hb0 hB1
  have hBc := hB1.cell 0
  simp at hBc
  obtain ⟨X1, hX1⟩ : ∃ X : List Value, X = [.int .u32 b] := ⟨_, rfl⟩
  have l1 : X1.length = 1 := by rw [hX1]; rfl
  have o1 : ∀ v ∈ X1, v.oneCell' = true := by rw [hX1]; intro v hv; simp at hv; subst hv; rfl
  have src1 : ∀ j v, X1[j]? = some v → (w.alloc (.cells Z.toArray 24)).cell? ((⟨g, 0, none⟩ : Addr).add j) = some v := by
    intro j v hv
    rw [hX1] at hv
    cases j with
    | zero => simp at hv; subst hv; exact hBc
    | succ j => simp at hv
  have hfin : ∀ n k : Nat, 1 ≤ n → n + k ≤ m → splice (List.replicate n (Value.int .u32 b) ++ List.replicate (m - n) (Value.int .u32 0)) n (List.replicate k (Value.int .u32 b)) = List.replicate (n + k) (Value.int .u32 b) ++ List.replicate (m - (n + k)) (Value.int .u32 0) := by
    intro n k _ h
    unfold splice
    rw [List.take_left' (by simp), List.length_replicate, ← List.append_assoc, List.replicate_append_replicate]
    congr 1
    rw [List.drop_append, List.drop_of_length_le (by simp), List.nil_append, List.length_replicate, Nat.add_sub_cancel_left, List.drop_replicate]
    congr 1
    omega
  have hst0 : splice Z 0 X1 = List.replicate 1 (Value.int .u32 b) ++ List.replicate (m - 1) (Value.int .u32 0) := by
    rw [hZ, hX1]
    unfold splice
    rw [List.take_zero, List.nil_append, List.drop_replicate]
    rfl
  have Hmul := Lib.hid hmul
  clear hmul
  have Hb0 := Lib.hid hb0
  clear hb0
  have HN := Lib.hid hN
  clear hN
  have HB1 := Lib.hid hB1
  clear hB1
  have Hm := Lib.hid hm
  clear hm
  have HB := Lib.hid hB
  clear hB
  have HZ := Lib.hid hZ
  clear hZ
  have HX1 := Lib.hid hX1
  clear hX1
  have L1 := Lib.hid l1
  clear l1
  have Hfin := Lib.hid hfin
  clear hfin
  have Hst0 := Lib.hid hst0
  clear hst0
  have Hr := Lib.hid hr
  clear hr
  have HZl := Lib.hid hZl
  clear hZl
  clear hBc
  go_enter Try.func30, Try.ntmps30
  go_wp2_with fail
  with_reducible refine (Hmul.out _).mono ?_
  rintro e w' ⟨rfl, rfl⟩
  go_upto_region 7 with fail
  rw [← Hr.out]
  generalize hW1 : w.alloc _ = W1 at *
  clear hW1
  have hcp := run_copy_row (P := Try.prog) W1 63 63 3 24 r 0 m m ⟨g, 0, none⟩ 1 c Z.toArray 24 X1 Try.underlying63 infoU32r HN.out (by rw [L1.out]; show 1 = min 1 m; omega) src1 (by rw [L1.out]; simp; have := HZl.out; omega) o1
  have hrow := setRow_heap W1 r _ ((Z.take 0 ++ X1 ++ Z.drop (0 + X1.length)).toArray) 24 (0, 0) HN.out
  have hbl := below_setRow Hb0.out hrl ((Z.take 0 ++ X1 ++ Z.drop (0 + X1.length)).toArray)
  simp only [List.toList_toArray] at hcp
  have hg2 : Blk (W1.setRow r ((Z.take 0 ++ X1 ++ Z.drop (0 + X1.length)).toArray)) r 24 ((List.replicate 1 (Value.int .u32 b) ++ List.replicate (m - 1) (Value.int .u32 0)).toArray) := by
    have h := Hst0.out
    unfold splice at h
    rw [← h, ← List.append_assoc]
    exact hrow
  rw [L1.out] at hcp
  have hcp : (Builtin.copy_ #[63, 63] 3 #[.slice (some ⟨r, 0, none⟩) m m, .slice (some ⟨g, 0, none⟩) 1 c]).run Try.prog W1 = .ok (.int .i64 1) (W1.setRow r ((Z.take 0 ++ X1 ++ Z.drop (0 + 1)).toArray)) := hcp
  rw [L1.out] at hg2 hbl
  generalize (W1.setRow r ((Z.take 0 ++ X1 ++ Z.drop (0 + 1)).toArray)) = w2 at *
  have hB2 : Below w.heap.size w w2 := hbl
  clear hrow hbl
  clear src1 o1
  have Hg2 := Lib.hid hg2
  clear hg2
  have HB2 := Lib.hid hB2
  clear hB2
  go_wp2_with fail
  go_loopw [8] (fun i wr => ∃ n : Nat, i = .int .i64 (n : Int) ∧ 1 ≤ n ∧ n ≤ m ∧ Blk wr r 24 ((List.replicate n (Value.int .u32 b) ++ List.replicate (m - n) (Value.int .u32 0)).toArray) ∧ Below w.heap.size w wr) (fun i _ => m - (intOf i).toNat)
  case atStart => exact ⟨1, rfl, Nat.le_refl _, by omega, Hg2.out, HB2.out⟩
  case round =>
    obtain ⟨n, rfl, hn1, hnm, hk, hb⟩ := hrel
    by_cases hn : n < m
    · have j1 : (n : Int) < (m : Int) := by omega
      have j2 : (0 : Int) ≤ (n : Int) := by omega
      have j3 : (n : Int) ≤ (m : Int) := by omega
      obtain ⟨k, hkk⟩ : ∃ k, k = min n (m - n) := ⟨_, rfl⟩
      have hk1 : n + k ≤ m := by omega
      have hk2 : 1 ≤ k := by omega
      have hk3 : (n : Int) + (k : Int) ≤ 8 := by omega
      obtain ⟨X2, hX2⟩ : ∃ X : List Value, X = List.replicate k (.int .u32 b) := ⟨_, rfl⟩
      have l2 : X2.length = k := by rw [hX2, List.length_replicate]
      have o2 : ∀ v ∈ X2, v.oneCell' = true := by rw [hX2]; intro v hv; rw [(List.mem_replicate.1 hv).2]; rfl
      obtain ⟨Y, hY⟩ : ∃ Y : List Value, Y = List.replicate n (Value.int .u32 b) ++ List.replicate (m - n) (Value.int .u32 0) := ⟨_, rfl⟩
      have hYl : Y.length = m := by rw [hY, List.length_append, List.length_replicate, List.length_replicate]; omega
      rw [← hY] at hk
      have hspl : splice Y n X2 = List.replicate (n + k) (Value.int .u32 b) ++ List.replicate (m - (n + k)) (Value.int .u32 0) := by rw [hY, hX2]; exact Hfin.out n k hn1 hk1
      have hS0 : Out (fun i => i = r) wr wr.drew := Out.of_below (Below.drew (Below.refl _ _))
      have ne : Nonempty (Cls (fun W => Out (fun i => i = r) wr W)) := ⟨⟨_, hS0⟩⟩
      have hU0 : ∀ q ∈ ([(7, fun W => Blk W r 24 Y.toArray)] : List (Nat × (World → Prop))), q.2 wr.drew := by
        intro q hq
        obtain rfl := List.mem_singleton.1 hq
        exact hk.drew
      have hUs : ∀ q ∈ ([(7, fun W => Blk W r 24 Y.toArray)] : List (Nat × (World → Prop))), ∀ i w w', i ≠ q.1 → RApp 7 (some r) i w w' → q.2 w → q.2 w' := by
        intro q hq i w w' hi hr hw
        obtain rfl := List.mem_singleton.1 hq
        exact Blk.below hw (hr.below hi) (Blk.lt hw)
      have hcopy : ∀ W, Out (fun i => i = r) wr W → untilU [(7, fun W => Blk W r 24 Y.toArray)] 7 W → ∃ W', (Builtin.copy_ #[63, 63] 3 #[.slice (some ⟨r, n, none⟩) (m - n) (m - n), .slice (some ⟨r, 0, none⟩) n m]).run Try.prog W = .ok (.int .i64 (k : Int)) W' ∧
          Blk W' r 24 ((List.replicate (n + k) (Value.int .u32 b) ++ List.replicate (m - (n + k)) (Value.int .u32 0)).toArray) ∧ Out (fun i => i = r) wr W' ∧ RApp 7 (some r) 7 W W' := by
        intro W hW hut
        have hkW : Blk W r 24 Y.toArray := hut _ List.mem_cons_self rfl
        have src2 : ∀ j v, X2[j]? = some v → W.cell? ((⟨r, 0, none⟩ : Addr).add j) = some v := by
          intro j v hv
          have hj : j < k := by
            rcases Nat.lt_or_ge j k with c | c
            · exact c
            · rw [List.getElem?_eq_none (by omega)] at hv; cases hv
          rw [add_plain, Nat.zero_add, hkW.cell j, ← hv, hX2, hY]
          simp only [List.getElem?_toArray]
          rw [List.getElem?_append_left (by rw [List.length_replicate]; omega), List.getElem?_replicate, List.getElem?_replicate, if_pos (by omega), if_pos hj]
        have hcp := run_copy_row (P := Try.prog) W 63 63 3 24 r n (m - n) (m - n) ⟨r, 0, none⟩ n m Y.toArray 24 X2 Try.underlying63 infoU32r hkW (by rw [l2, hkk]) src2 (by rw [l2]; simp only [List.size_toArray]; omega) o2
        simp only [List.toList_toArray] at hcp
        rw [l2] at hcp
        have hrow := setRow_heap W r _ ((Y.take n ++ X2 ++ Y.drop (n + k)).toArray) 24 (0, 0) hkW
        have hgr2 : W.grownBy (W.setRow r ((Y.take n ++ X2 ++ Y.drop (n + k)).toArray)) (some r) := ⟨rfl, rfl, rfl, by simp [World.setRow], fun i hi hne => setRow_other W r i _ (fun e => hne (by rw [e]))⟩
        refine ⟨_, hcp, ?_, Out.trans hW (Out.grown (O := fun i => i = r) hgr2 rfl) (fun _ _ e => e), hgr2⟩
        unfold splice at hspl
        rw [l2] at hspl
        rw [← hspl, ← List.append_assoc]
        exact hrow
      have Hk := Lib.hid hk
      clear hk
      have Hb := Lib.hid hb
      clear hb
      have Hkk := Lib.hid hkk
      clear hkk
      have HX2 := Lib.hid hX2
      clear hX2
      have L2 := Lib.hid l2
      clear l2
      have HY := Lib.hid hY
      clear hY
      have HYl := Lib.hid hYl
      clear hYl
      have Hspl := Lib.hid hspl
      clear hspl
      have HS0 := Lib.hid hS0
      clear hS0
      have HU0 := Lib.hid hU0
      clear hU0
      have HUs := Lib.hid hUs
      clear hUs
      have Hcopy := Lib.hid hcopy
      clear hcopy
      clear o2
      go_upto_region 9 with fail
      refine wp_region_flowu 10 (fun W => Out (fun i => i = r) wr W) (RApp 7 (some r)) [(7, fun W => Blk W r 24 Y.toArray)] (by kernel_rfl) (by kernel_rfl) (by kernel_rfl) RApp.refl HUs.out HU0.out HS0.out ?_
      simp only [List.take_succ_cons, List.take_zero, List.drop_succ_cons, List.drop_zero]
      repeat (refine flowu_quiet RApp.refl rfl rfl rfl rfl ?_; intro K hK; go_big_quiet_op; go_big_quiet_on)
      refine flowu_do (.int .i64 (k : Int)) (fun _ W => Blk W r 24 ((List.replicate (n + k) (Value.int .u32 b) ++ List.replicate (m - (n + k)) (Value.int .u32 0)).toArray)) (fun l i w w' hi hr h => Blk.below h (hr.below hi) (Blk.lt h)) (fun _ _ h => by cases h) rfl (fun W hW hut => by
        obtain ⟨W', h1, h2, h3, h4⟩ := Hcopy.out W hW hut
        refine ⟨W', ?_, h2, h3, h4⟩
        simp [execOp, resolve, invoke, builtin, Act.eval, h1, Result.andThen, show ¬ m = n by omega]) rfl rfl wr ?_
      intro K hK; go_big_quiet_op; go_big_quiet_on
      repeat (refine flowu_quiet RApp.refl rfl rfl rfl rfl ?_; intro K hK; go_big_quiet_op; go_big_quiet_on)
      refine flowu_nil ?_
      intro W5 f hW5 hF5
      have hk5 := hF5 _ (.head _)
      clear hF5
      have hk5 : Blk W5 r 24 ((List.replicate (n + k) (Value.int .u32 b) ++ List.replicate (m - (n + k)) (Value.int .u32 0)).toArray) := hk5
      have hb5 : Below w.heap.size w W5 := Hb.out.trans (Out.below hW5 Hb.out.size (fun i hi e => by omega))
      simp only [fillW]
      clear hW5 ne
      have Hk5 := Lib.hid hk5
      clear hk5
      have Hb5 := Lib.hid hb5
      clear hb5
      go_wp2_with fail
      go_roundw
      case rel => exact ⟨n + k, by go_num, by omega, hk1, Hk5.out, Hb5.out⟩
      case measure => simp [intOf]; omega
    · have j1 : ¬ (n : Int) < (m : Int) := by omega
      have hnm' : n = m := by omega
      have hk' : Blk wr r 24 ((List.replicate m (Value.int .u32 b)).toArray) := by
        rw [hnm', Nat.sub_self, List.replicate_zero, List.append_nil] at hk
        exact hk
      clear hk hnm'
      have Hk' := Lib.hid hk'
      clear hk'
      have Hb := Lib.hid hb
      clear hb
      go_wp2_with fail
      go_ret
      exact ⟨r, rfl, Hk'.out, hrl, Hb.out⟩
end Go.Proofs.Ytimepplfaaddeaa
