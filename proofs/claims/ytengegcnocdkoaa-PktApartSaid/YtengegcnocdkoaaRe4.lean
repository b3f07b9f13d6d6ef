/- Contracts and plain lemmas: PTcpDecAny, PTcpLaws, PTcpAlive, OptHigh, FlatK, Flow, FlowA, FlowV, FlowU, FlowUA, Fence, FlowW, Map, FlowUB, FlowX, PktTurned. -/
import Derived.OrdersIn
import Derived.RangeFuncCalls
import Derived.Maps.OwnOps
import Derived.Maps.OwnSet
import Derived.WideKeyEntry
import Derived.Lib.MinMax
import Derived.Deep.DeepCutAuto
import Derived.BigRegion
import Derived.LoopTactic
import Derived.Test.YtengegcnocdkoaaRe3
import Derived.Test.YtengegcnocdkoaaRe1
set_option linter.unusedVariables false
set_option linter.unusedSimpArgs false
set_option linter.unusedSectionVars false
section
namespace Go.Proofs.Ytengegcnocdkoaa.T
open Go.RowKit Go.BigFrame
set_option maxRecDepth 100000 in
set_option maxHeartbeats 4000000 in
theorem dec_any (s d : Nat) (t : ByteArray) (w : World) (hs : s < 4294967296) (hd : d < 4294967296) (h20 : 20 ≤ t.size) (hl : t.size ≤ 65515) :
    Calls Try.prog 41 #[.int .u32 (s : Int), .int .u32 (d : Int), .string t] w fun e w' => e = .returned (decV s d t.data.toList) ∧ Below w.heap.size w w' := by
  obtain ⟨m, hm⟩ : ∃ m, m = t.size := ⟨_, rfl⟩
  have e1 : (t.size : Int) = (m : Int) := by omega
  have hm1 : 20 ≤ m := by omega
  have hm2 : m ≤ 65515 := by omega
  have b7 := fun W => ahead_ok s d m W hs hd (by omega)
  obtain ⟨ah, hah⟩ : ∃ ah : List UInt8, ah = aheadL s d m := ⟨_, rfl⟩
  have za : ah.length = 12 := by rw [hah]; rfl
  rw [← hah] at b7
  have hcat : catS [⟨ah.toArray⟩, t] = ah ++ t.data.toList := by simp [catS]
  obtain ⟨ok, hok⟩ : ∃ ok : Bool, ((ofL (ah ++ t.data.toList) : Int) == 0) = ok := ⟨_, rfl⟩
  have rl := fun W g (h : Blk W g 9 #[.string ⟨ah.toArray⟩, .string t]) => right_lit [⟨ah.toArray⟩, t] ok (by rw [hcat]; exact hok) (by
    intro x hx
    simp only [List.mem_cons, List.not_mem_nil, or_false] at hx
    rcases hx with rfl | rfl
    · show ah.length ≤ maxLen; rw [za]; decide
    · have : x.size ≤ 65515 := by omega
      exact Nat.le_trans this (by decide)) g 2 2 W rfl (by omega) h
  clear hcat
  have hbx := Blk.new w 60 zeroC
  have hb0 : Below w.heap.size w (w.alloc (.cells zeroC 60)) := (Below.refl _ _).alloc (Nat.le_refl _) _
  unfold zeroC at hbx hb0
  have j12 : 12 < t.size := by omega
  have j13 : 13 < t.size := by omega
  have l12 := (t[12]'j12).toNat_lt
  have l13 := (t[13]'j13).toNat_lt
  have k12 : ((t[12]'j12).toNat : Int) < 256 := by omega
  have k13 : ((t[13]'j13).toNat : Int) < 256 := by omega
  have i12 : (12 : Int) < (m : Int) := by omega
  have i13 : (13 : Int) < (m : Int) := by omega
  have B7 := Lib.hid b7
  clear b7
  have Rl := Lib.hid rl
  clear rl
  have Hok := Lib.hid hok
  clear hok
  have Hah := Lib.hid hah
  clear hah
  have Hm := Lib.hid hm
  clear hm
  have Hbx := Lib.hid hbx
  clear hbx
  have Hb0 := Lib.hid hb0
  clear hb0
  go_enter Try.func41, Try.ntmps41
  go_wp2_with fail
  generalize hW : w.alloc _ = W at *
  obtain ⟨x, hx⟩ : ∃ x, x = w.heap.size := ⟨_, rfl⟩
  rw [← hx] at Hbx ⊢
  have hxw : w.heap.size ≤ x := by omega
  have Hxw := Lib.hid hxw
  clear hxw
  clear hW hx
  with_reducible refine (B7.out _).mono ?_
  rintro e w1 ⟨rfl, hb1⟩
  go_wp2_with fail
  with_reducible refine (Rl.out _ _ (Blk.new _ _ _)).mono ?_
  rintro e w2 ⟨rfl, hb2⟩
  have hS : Below W.heap.size W w2 := hb1.trans ((((Below.refl _ _).alloc (Nat.le_refl _) _).trans (hb2.mono (by simp))).mono hb1.size)
  have hx2 := Hbx.out.below hS Hbx.out.lt
  have hbw : Below w.heap.size w w2 := Hb0.out.trans (hS.mono Hb0.out.size)
  clear hb1 hb2 hS Hb0 Hbx Rl B7
  have x0 := hx2.cell 0
  have x1 := hx2.cell 1
  have x2 := hx2.cell 2
  have x3 := hx2.cell 3
  have x4 := hx2.cell 4
  have x5 := hx2.cell 5
  have x6 := hx2.cell 6
  have x7 := hx2.cell 7
  simp at x0 x1 x2 x3 x4 x5 x6 x7
  have xf := hx2.frozen
  have Hx2 := Lib.hid hx2
  clear hx2
  have Hbw := Lib.hid hbw
  clear hbw
  have hlen : t.data.toList.length = t.size := rfl
  cases ok
  · have hE : decE s d t.data.toList = 55 := by
      have h55 : ofL (aheadL s d t.data.toList.length ++ t.data.toList) ≠ 0 := by
        have := Hok.out
        rw [hlen, ← Hm.out, ← Hah.out]
        intro h0
        rw [h0] at this
        cases this
      unfold decE
      rw [if_neg (by omega), if_neg (by omega), if_pos h55]
    have hV := decV_bad hE (by decide)
    have HV := Lib.hid hV
    clear hV
    clear hE hlen
    go_wp2
    rw [HV.out]
    clear x0 x1 x2 x3 x4 x5 x6 x7 xf
    generalize hWf : World.setCell _ _ _ = Wf
    have hf : Blk Wf x 60 zeroC := by
      rw [← hWf]
      exact blk_set8 Hx2.out _ _ _ _ _ _ _ _
    have hbf : Below w.heap.size w Wf := by
      rw [← hWf]
      exact below_set8 Hbw.out Hxw.out _ _ _ _ _ _ _ _
    clear hWf
    have x0 := hf.cell 0
    have x1 := hf.cell 1
    have x2 := hf.cell 2
    have x3 := hf.cell 3
    have x4 := hf.cell 4
    have x5 := hf.cell 5
    have x6 := hf.cell 6
    have x7 := hf.cell 7
    simp [zeroC] at x0 x1 x2 x3 x4 x5 x6 x7
    exact bodyPost_ret (v := badV 55) (by simp [results, Try.results41, go_sem, badV, zeroC, x0, x1, x2, x3, x4, x5, x6, x7]) rfl ⟨rfl, hbf⟩
  have h0 : ofL (aheadL s d t.data.toList.length ++ t.data.toList) = 0 := by
    have := Hok.out
    rw [hlen, ← Hm.out, ← Hah.out]
    have h1 := beq_iff_eq.1 this
    exact_mod_cast h1
  have hE : decE s d t.data.toList = if (t[12]'j12).toNat / 16 * 4 < 20 ∨ m < (t[12]'j12).toNat / 16 * 4 then 60 else if (t[12]'j12).toNat % 16 ≠ 0 ∨ 64 ≤ (t[13]'j13).toNat then 61 else 0 := by
    unfold decE
    rw [if_neg (by omega), if_neg (by omega), if_neg (by rw [h0]; simp), at0_get t 12 j12, at0_get t 13 j13, hlen, ← Hm.out]
  clear h0 hlen
  obtain ⟨c, hc⟩ : ∃ c, c = (t[12]'j12).toNat := ⟨_, rfl⟩
  obtain ⟨c3, hc3⟩ : ∃ c, c = (t[13]'j13).toNat := ⟨_, rfl⟩
  rw [← hc] at hE l12
  rw [← hc3] at hE l13
  by_cases ho : c / 16 * 4 < 20 ∨ m < c / 16 * 4
  · rw [if_pos ho] at hE
    have hV := decV_bad hE (by decide)
    have HV := Lib.hid hV
    clear hV
    clear hE
    by_cases ho1 : c / 16 * 4 < 20
    · have i5 : ((t[12]'j12).toNat : Int) / 16 * 4 < 20 := by omega
      have Ho := Lib.hid ho
      clear ho
      have Hc := Lib.hid hc
      clear hc
      have Hc3 := Lib.hid hc3
      clear hc3
      go_wp2
      rw [HV.out]
      clear x0 x1 x2 x3 x4 x5 x6 x7 xf
      generalize hWf : World.setCell _ _ _ = Wf
      have hf : Blk Wf x 60 zeroC := by
        rw [← hWf]
        exact blk_set8 Hx2.out _ _ _ _ _ _ _ _
      have hbf : Below w.heap.size w Wf := by
        rw [← hWf]
        exact below_set8 Hbw.out Hxw.out _ _ _ _ _ _ _ _
      clear hWf
      have x0 := hf.cell 0
      have x1 := hf.cell 1
      have x2 := hf.cell 2
      have x3 := hf.cell 3
      have x4 := hf.cell 4
      have x5 := hf.cell 5
      have x6 := hf.cell 6
      have x7 := hf.cell 7
      simp [zeroC] at x0 x1 x2 x3 x4 x5 x6 x7
      exact bodyPost_ret (v := badV 60) (by simp [results, Try.results41, go_sem, badV, zeroC, x0, x1, x2, x3, x4, x5, x6, x7]) rfl ⟨rfl, hbf⟩
    · have i5 : (20 : Int) ≤ ((t[12]'j12).toNat : Int) / 16 * 4 := by omega
      have i6 : (m : Int) < ((t[12]'j12).toNat : Int) / 16 * 4 := by omega
      have Ho := Lib.hid ho
      clear ho
      have Hc := Lib.hid hc
      clear hc
      have Hc3 := Lib.hid hc3
      clear hc3
      go_wp2
      rw [HV.out]
      clear x0 x1 x2 x3 x4 x5 x6 x7 xf
      generalize hWf : World.setCell _ _ _ = Wf
      have hf : Blk Wf x 60 zeroC := by
        rw [← hWf]
        exact blk_set8 Hx2.out _ _ _ _ _ _ _ _
      have hbf : Below w.heap.size w Wf := by
        rw [← hWf]
        exact below_set8 Hbw.out Hxw.out _ _ _ _ _ _ _ _
      clear hWf
      have x0 := hf.cell 0
      have x1 := hf.cell 1
      have x2 := hf.cell 2
      have x3 := hf.cell 3
      have x4 := hf.cell 4
      have x5 := hf.cell 5
      have x6 := hf.cell 6
      have x7 := hf.cell 7
      simp [zeroC] at x0 x1 x2 x3 x4 x5 x6 x7
      exact bodyPost_ret (v := badV 60) (by simp [results, Try.results41, go_sem, badV, zeroC, x0, x1, x2, x3, x4, x5, x6, x7]) rfl ⟨rfl, hbf⟩
  · rw [if_neg ho] at hE
    have i5 : (20 : Int) ≤ ((t[12]'j12).toNat : Int) / 16 * 4 := by omega
    have i6 : ((t[12]'j12).toNat : Int) / 16 * 4 ≤ (m : Int) := by omega
    by_cases hr1 : c % 16 ≠ 0
    · have hV := decV_bad (hE.trans (if_pos (.inl hr1))) (by decide)
      have HV := Lib.hid hV
      clear hV
      clear hE
      have q1 : (((t[12]'j12).toNat : Int) % 16 != 0) = true := by rw [bne_iff_ne]; omega
      have Ho := Lib.hid ho
      clear ho
      have Hc := Lib.hid hc
      clear hc
      have Hc3 := Lib.hid hc3
      clear hc3
      have Hr1 := Lib.hid hr1
      clear hr1
      go_wp2
      rw [HV.out]
      clear x0 x1 x2 x3 x4 x5 x6 x7 xf
      generalize hWf : World.setCell _ _ _ = Wf
      have hf : Blk Wf x 60 zeroC := by
        rw [← hWf]
        exact blk_set8 Hx2.out _ _ _ _ _ _ _ _
      have hbf : Below w.heap.size w Wf := by
        rw [← hWf]
        exact below_set8 Hbw.out Hxw.out _ _ _ _ _ _ _ _
      clear hWf
      have x0 := hf.cell 0
      have x1 := hf.cell 1
      have x2 := hf.cell 2
      have x3 := hf.cell 3
      have x4 := hf.cell 4
      have x5 := hf.cell 5
      have x6 := hf.cell 6
      have x7 := hf.cell 7
      simp [zeroC] at x0 x1 x2 x3 x4 x5 x6 x7
      exact bodyPost_ret (v := badV 61) (by simp [results, Try.results41, go_sem, badV, zeroC, x0, x1, x2, x3, x4, x5, x6, x7]) rfl ⟨rfl, hbf⟩
    have q1 : (((t[12]'j12).toNat : Int) % 16 != 0) = false := by rw [bne_eq_false_iff_eq]; omega
    by_cases hr2 : 64 ≤ c3
    · have hV := decV_bad (hE.trans (if_pos (.inr hr2))) (by decide)
      have HV := Lib.hid hV
      clear hV
      clear hE
      have q2 : (((t[13]'j13).toNat : Int) / 64 != 0) = true := by rw [bne_iff_ne]; omega
      have Ho := Lib.hid ho
      clear ho
      have Hc := Lib.hid hc
      clear hc
      have Hc3 := Lib.hid hc3
      clear hc3
      have Hr1 := Lib.hid hr1
      clear hr1
      have Hr2 := Lib.hid hr2
      clear hr2
      go_wp2
      rw [HV.out]
      clear x0 x1 x2 x3 x4 x5 x6 x7 xf
      generalize hWf : World.setCell _ _ _ = Wf
      have hf : Blk Wf x 60 zeroC := by
        rw [← hWf]
        exact blk_set8 Hx2.out _ _ _ _ _ _ _ _
      have hbf : Below w.heap.size w Wf := by
        rw [← hWf]
        exact below_set8 Hbw.out Hxw.out _ _ _ _ _ _ _ _
      clear hWf
      have x0 := hf.cell 0
      have x1 := hf.cell 1
      have x2 := hf.cell 2
      have x3 := hf.cell 3
      have x4 := hf.cell 4
      have x5 := hf.cell 5
      have x6 := hf.cell 6
      have x7 := hf.cell 7
      simp [zeroC] at x0 x1 x2 x3 x4 x5 x6 x7
      exact bodyPost_ret (v := badV 61) (by simp [results, Try.results41, go_sem, badV, zeroC, x0, x1, x2, x3, x4, x5, x6, x7]) rfl ⟨rfl, hbf⟩
    have q2 : (((t[13]'j13).toNat : Int) / 64 != 0) = false := by rw [bne_eq_false_iff_eq]; omega
    have h0E := hE.trans (if_neg (by rintro (h | h); exact hr1 h; exact hr2 (by omega)))
    obtain ⟨n, hn⟩ : ∃ n : Nat, n = (t[12]'j12).toNat / 16 * 4 := ⟨_, rfl⟩
    have hnI : ((t[12]'j12).toNat : Int) / 16 * 4 = (n : Int) := by omega
    have i7 : (20 : Int) ≤ (n : Int) := by omega
    have i8 : (n : Int) ≤ (m : Int) := by omega
    have m1 := fun W => number16 (t.extract 0 2) W (by simp [maxLen]; omega)
    have m2 := fun W => number16 (t.extract 2 4) W (by simp [maxLen]; omega)
    have m3 := fun W => number_any (t.extract 4 8) W (by simp [maxLen]; omega)
    have m4 := fun W => number_any (t.extract 8 12) W (by simp [maxLen]; omega)
    have m5 := fun W => number16 (t.extract 14 16) W (by simp [maxLen]; omega)
    have m6 := fun W => number16 (t.extract 18 20) W (by simp [maxLen]; omega)
    obtain ⟨u1, hu1⟩ : ∃ u, u = numL (t.extract 0 2).data.toList % 65536 := ⟨_, rfl⟩
    obtain ⟨u2, hu2⟩ : ∃ u, u = numL (t.extract 2 4).data.toList % 65536 := ⟨_, rfl⟩
    obtain ⟨u3, hu3⟩ : ∃ u, u = numL (t.extract 4 8).data.toList := ⟨_, rfl⟩
    obtain ⟨u4, hu4⟩ : ∃ u, u = numL (t.extract 8 12).data.toList := ⟨_, rfl⟩
    obtain ⟨u5, hu5⟩ : ∃ u, u = numL (t.extract 14 16).data.toList % 65536 := ⟨_, rfl⟩
    obtain ⟨u6, hu6⟩ : ∃ u, u = numL (t.extract 18 20).data.toList % 65536 := ⟨_, rfl⟩
    rw [← hu1] at m1
    rw [← hu2] at m2
    rw [← hu3] at m3
    rw [← hu4] at m4
    rw [← hu5] at m5
    rw [← hu6] at m6
    have cf : ∀ (vals : Array Value) (w : World), (callFunc 73 vals).run Try.prog w = .ok (.enter 73 vals) w := fun _ _ => by kernel_rfl
    have cg : ∀ (vals : Array Value) (w : World), (callFunc 74 vals).run Try.prog w = .ok (.enter 74 vals) w := fun _ _ => by kernel_rfl
    have t2 : (2 : Int) ≤ (m : Int) := by omega
    have t4 : (4 : Int) ≤ (m : Int) := by omega
    have t8 : (8 : Int) ≤ (m : Int) := by omega
    have t12 : (12 : Int) ≤ (m : Int) := by omega
    have t16 : (16 : Int) ≤ (m : Int) := by omega
    have t20 : (20 : Int) ≤ (m : Int) := by omega
    have hdone := decV_done s d t h20 h0E hu1 hu2 hu3 hu4 hu5 hu6 hn
    have Ho := Lib.hid ho
    clear ho
    have Hc := Lib.hid hc
    clear hc
    have Hc3 := Lib.hid hc3
    clear hc3
    have Hr1 := Lib.hid hr1
    clear hr1
    have Hr2 := Lib.hid hr2
    clear hr2
    have Hu1 := Lib.hid hu1
    clear hu1
    have Hu2 := Lib.hid hu2
    clear hu2
    have Hu3 := Lib.hid hu3
    clear hu3
    have Hu4 := Lib.hid hu4
    clear hu4
    have Hu5 := Lib.hid hu5
    clear hu5
    have Hu6 := Lib.hid hu6
    clear hu6
    have M1 := Lib.hid m1
    clear m1
    have M2 := Lib.hid m2
    clear m2
    have M3 := Lib.hid m3
    clear m3
    have M4 := Lib.hid m4
    clear m4
    have M5 := Lib.hid m5
    clear m5
    have M6 := Lib.hid m6
    clear m6
    have Cf := Lib.hid cf
    clear cf
    have Cg := Lib.hid cg
    clear cg
    have Hdone := Lib.hid hdone
    clear hdone
    have Hn := Lib.hid hn
    clear hn
    clear hE h0E
    go_upto_region 12 with fail
    clear x0 x1 x2 x3 x4 x5 x6 x7 xf
    have hS0 : KeepS w2 x 60 zeroC w2 := ⟨Below.refl _ _, Hx2.out⟩
    have ne : Nonempty (Cls (KeepS w2 x 60 zeroC)) := ⟨⟨w2, hS0⟩⟩
    refine wp_region_flat1 24 (KeepS w2 x 60 zeroC) (fun w w' => Below w.heap.size w w') (by kernel_rfl) (by kernel_rfl) (by kernel_rfl) (fun w => Below.refl _ _) hS0.drew ?_
    simp only [List.take_succ_cons, List.take_zero, List.drop_succ_cons, List.drop_zero]
    repeat (first
      | (refine flat_quiet (fun w => Below.refl _ _) rfl rfl rfl rfl ?_; intro K hK; go_big_quiet_op; go_big_quiet_on)
      | (refine flat_call Cf.out _ ?_ rfl rfl rfl _ (fun y => below_call KeepS.below y (M1.out _)) w2 ?_; (focus (simp only [List.map_toArray, List.map_cons, List.map_nil]; rfl)); intro K hK; go_big_quiet_op; go_big_quiet_on)
      | (refine flat_call Cf.out _ ?_ rfl rfl rfl _ (fun y => below_call KeepS.below y (M2.out _)) w2 ?_; (focus (simp only [List.map_toArray, List.map_cons, List.map_nil]; rfl)); intro K hK; go_big_quiet_op; go_big_quiet_on)
      | (refine flat_call Cg.out _ ?_ rfl rfl rfl _ (fun y => below_call KeepS.below y (M3.out _)) w2 ?_; (focus (simp only [List.map_toArray, List.map_cons, List.map_nil]; rfl)); intro K hK; go_big_quiet_op; go_big_quiet_on)
      | (refine flat_call Cg.out _ ?_ rfl rfl rfl _ (fun y => below_call KeepS.below y (M4.out _)) w2 ?_; (focus (simp only [List.map_toArray, List.map_cons, List.map_nil]; rfl)); intro K hK; go_big_quiet_op; go_big_quiet_on)
      | (refine flat_call Cf.out _ ?_ rfl rfl rfl _ (fun y => below_call KeepS.below y (M5.out _)) w2 ?_; (focus (simp only [List.map_toArray, List.map_cons, List.map_nil]; rfl)); intro K hK; go_big_quiet_op; go_big_quiet_on)
      | (refine flat_call Cf.out _ ?_ rfl rfl rfl _ (fun y => below_call KeepS.below y (M6.out _)) w2 ?_; (focus (simp only [List.map_toArray, List.map_cons, List.map_nil]; rfl)); intro K hK; go_big_quiet_op; go_big_quiet_on))
    refine flat_nil ?_
    intro W9 hW9
    simp only [endF]
    clear ne hS0
    have x0 := hW9.2.cell 0
    have x1 := hW9.2.cell 1
    have x2 := hW9.2.cell 2
    have x3 := hW9.2.cell 3
    have x4 := hW9.2.cell 4
    have x5 := hW9.2.cell 5
    have x6 := hW9.2.cell 6
    have x7 := hW9.2.cell 7
    simp [zeroC] at x0 x1 x2 x3 x4 x5 x6 x7
    have xf := hW9.2.frozen
    go_upto_region 13 with fail
    generalize hWt : World.setCell _ _ _ = Wt
    have ht : Blk Wt x 60 #[.int .u16 (u1 : Int), .int .u16 (u2 : Int), .int .u32 (u3 : Int), .int .u32 (u4 : Int), .int .u8 ((t[13]'j13).toNat : Int), .int .u16 (u5 : Int), .int .u16 (u6 : Int), .string (t.extract 20 n)] := by
      rw [← hWt]
      exact blk_set8 hW9.2 _ _ _ _ _ _ _ _
    have hbt : Below w.heap.size w Wt := by
      rw [← hWt]
      exact below_set8 (Hbw.out.trans (hW9.1.mono Hbw.out.size)) Hxw.out _ _ _ _ _ _ _ _
    clear hWt hW9 x0 x1 x2 x3 x4 x5 x6 x7 xf
    have x0 := ht.cell 0
    have x1 := ht.cell 1
    have x2 := ht.cell 2
    have x3 := ht.cell 3
    have x4 := ht.cell 4
    have x5 := ht.cell 5
    have x6 := ht.cell 6
    have x7 := ht.cell 7
    simp at x0 x1 x2 x3 x4 x5 x6 x7
    have xf := ht.frozen
    have Ht := Lib.hid ht
    clear ht
    have Hbt := Lib.hid hbt
    clear hbt
    go_region
    go_wp2
    clear x0 x1 x2 x3 x4 x5 x6 x7 xf
    generalize hWf : World.drew _ = Wf
    have hf : Blk Wf x 60 #[.int .u16 (u1 : Int), .int .u16 (u2 : Int), .int .u32 (u3 : Int), .int .u32 (u4 : Int), .int .u8 ((t[13]'j13).toNat : Int), .int .u16 (u5 : Int), .int .u16 (u6 : Int), .string (t.extract 20 n)] := by
      rw [← hWf]
      exact Blk.drew (blk_set8 Ht.out _ _ _ _ _ _ _ _)
    have hbf : Below w.heap.size w Wf := by
      rw [← hWf]
      exact Below.drew (below_set8 Hbt.out Hxw.out _ _ _ _ _ _ _ _)
    clear hWf
    have x0 := hf.cell 0
    have x1 := hf.cell 1
    have x2 := hf.cell 2
    have x3 := hf.cell 3
    have x4 := hf.cell 4
    have x5 := hf.cell 5
    have x6 := hf.cell 6
    have x7 := hf.cell 7
    simp at x0 x1 x2 x3 x4 x5 x6 x7
    rw [Hdone.out]
    exact bodyPost_ret (v := .tuple #[.agg #[.int .u16 (u1 : Int), .int .u16 (u2 : Int), .int .u32 (u3 : Int), .int .u32 (u4 : Int), .int .u8 ((t[13]'j13).toNat : Int), .int .u16 (u5 : Int), .int .u16 (u6 : Int), .string (t.extract 20 n)], .string (t.extract n t.size), .int .i64 0]) (by simp [results, Try.results41, go_sem, x0, x1, x2, x3, x4, x5, x6, x7]) rfl ⟨rfl, hbf⟩
end Go.Proofs.Ytengegcnocdkoaa.T
end
section
namespace Go.Proofs.Ytengegcnocdkoaa.T
open Go.RowKit
theorem nrm_full (s : Nat) : nrm (s + (65535 - nrm s)) = 65535 := by
  unfold nrm
  split
  · subst_vars; rfl
  · rw [if_neg (by omega)]
    omega
theorem wordsL_be2 (s : Nat) (hs : s < 65536) : wordsL (be2 s) = [s] := by
  simp only [be2, wordsL, UInt8.toNat_ofNat']
  congr 1
  omega
theorem numL_be2 (n : Nat) (hn : n < 65536) : numL (be2 n) = n := by
  simp only [numL, be2, List.foldl_cons, List.foldl_nil, UInt8.toNat_ofNat']
  omega
theorem numL_be4 (n : Nat) (hn : n < 4294967296) : numL (be4 n) = n := by
  simp only [numL, be4, List.foldl_cons, List.foldl_nil, UInt8.toNat_ofNat']
  omega
/-- the words of what stands beside the checksum -/
def restW (s d : Nat) (h : TCPh) (data : List UInt8) : Nat := (wordsL (aheadL s d (20 + h.opts.size + data.length))).sum + ((wordsL (frontL h)).sum + (wordsL (backL h data)).sum)
theorem sumL_rest (s d : Nat) (h : TCPh) (data : List UInt8) : sumL s d h data = 65535 - nrm (restW s d h data) := by
  unfold sumL restW ofL
  rw [List.append_assoc, wordsL_app _ _ (by rw [aheadL_length]), wordsL_app _ _ (by rw [frontL_length]), List.sum_append, List.sum_append]
theorem raw_sum (s d : Nat) (h : TCPh) (data : List UInt8) (q : Nat) (hq : q < 65536) : (wordsL (aheadL s d (20 + h.opts.size + data.length) ++ rawL h data q)).sum = restW s d h data + q := by
  unfold rawL restW
  rw [wordsL_app _ _ (by rw [aheadL_length]), List.append_assoc, wordsL_app _ _ (by rw [frontL_length]), wordsL_app (be2 _) _ (by simp [be2]), wordsL_be2 _ hq, List.sum_append, List.sum_append, List.sum_append]
  simp
  omega
theorem enc_len (s d : Nat) (h : TCPh) (data : List UInt8) : (encL s d h data).length = 20 + h.opts.size + data.length := rawL_length _ _ _
theorem enc_sum (s d : Nat) (h : TCPh) (data : List UInt8) : ofL (aheadL s d (encL s d h data).length ++ encL s d h data) = 0 := by
  rw [enc_len]
  unfold encL ofL
  rw [raw_sum _ _ _ _ _ (sumL_lt s d h data), sumL_rest, nrm_full]
section
variable (s d : Nat) (h : TCPh) (data : List UInt8)
theorem enc_12 : at0 (encL s d h data) 12 = (offB (20 + h.opts.size)).toNat := rfl
theorem enc_13 : at0 (encL s d h data) 13 = h.flags.toNat := rfl
theorem enc_d20 : (encL s d h data).drop 20 = h.opts.data.toList ++ data := rfl
end
/-- may a head be written? -/
def TCPh.may (h : TCPh) : Prop := h.opts.size % 4 = 0 ∧ h.opts.size ≤ 40 ∧ h.flags.toNat < 64
theorem off_eq {m : Nat} (h4 : m % 4 = 0) (h40 : m ≤ 40) : (offB (20 + m)).toNat / 16 * 4 = 20 + m ∧ (offB (20 + m)).toNat % 16 = 0 := by
  unfold offB
  rw [UInt8.toNat_ofNat']
  omega
theorem endN_enc {s d : Nat} {h : TCPh} {data : List UInt8} (hm : h.may) : endN (encL s d h data) = 20 + h.opts.size := by
  unfold endN
  rw [enc_12, (off_eq hm.1 hm.2.1).1]
theorem decE_enc {s d : Nat} {h : TCPh} {data : List UInt8} (hm : h.may) (hl : 20 + h.opts.size + data.length ≤ 65515) : decE s d (encL s d h data) = 0 := by
  have ho := off_eq hm.1 hm.2.1
  have hs := enc_sum s d h data
  have hm3 := hm.2.2
  unfold decE
  rw [if_neg (by rw [enc_len]; omega), if_neg (by rw [enc_len]; omega), if_neg (by rw [hs]; simp), enc_12, enc_13, enc_len, if_neg (by omega), if_neg (by omega)]
theorem opts_len (h : TCPh) : h.opts.data.toList.length = h.opts.size := rfl
theorem decH_enc {s d : Nat} {h : TCPh} {data : List UInt8} (ho : h.ok) (hm : h.may) : decH (encL s d h data) = h := by
  have e9 : sub (encL s d h data) 20 (endN (encL s d h data)) = h.opts.data.toList := by
    unfold sub
    rw [endN_enc hm, enc_d20, show 20 + h.opts.size - 20 = h.opts.data.toList.length by rw [opts_len]; omega, List.take_left]
  unfold decH
  rw [e9]
  obtain ⟨src, dst, seq, ack, flags, window, urgent, opts⟩ := h
  obtain ⟨o1, o2, o3, o4, o5, o6⟩ := ho
  simp only at o1 o2 o3 o4 o5 o6
  generalize hE : encL s d ⟨src, dst, seq, ack, flags, window, urgent, opts⟩ data = E
  have e1 : sub E 0 2 = be2 src := by rw [← hE]; rfl
  have e2 : sub E 2 4 = be2 dst := by rw [← hE]; rfl
  have e3 : sub E 4 8 = be4 seq := by rw [← hE]; rfl
  have e4 : sub E 8 12 = be4 ack := by rw [← hE]; rfl
  have e5 : E.getD 13 0 = flags := by rw [← hE]; rfl
  have e6 : sub E 14 16 = be2 window := by rw [← hE]; rfl
  have e7 : sub E 18 20 = be2 urgent := by rw [← hE]; rfl
  rw [e1, e2, e3, e4, e5, e6, e7, numL_be2 _ o1, numL_be2 _ o2, numL_be4 _ o3, numL_be4 _ o4, numL_be2 _ o5, numL_be2 _ o6, Nat.mod_eq_of_lt o1, Nat.mod_eq_of_lt o2, Nat.mod_eq_of_lt o5, Nat.mod_eq_of_lt o6]
theorem drop_enc {s d : Nat} {h : TCPh} {data : List UInt8} (hm : h.may) : (encL s d h data).drop (endN (encL s d h data)) = data := by
  rw [endN_enc hm, ← List.drop_drop, enc_d20, ← opts_len, List.drop_left]
theorem flip_nat : ∀ (c : UInt8) (j : Nat), j < 8 → (c ^^^ UInt8.ofNat (2 ^ j)).toNat + 2 ^ j = c.toNat ∨ (c ^^^ UInt8.ofNat (2 ^ j)).toNat = c.toNat + 2 ^ j := by
  have h : ∀ (n : Fin 256) (j : Fin 8), (UInt8.ofNat n.val ^^^ UInt8.ofNat (2 ^ j.val)).toNat + 2 ^ j.val = n.val ∨ (UInt8.ofNat n.val ^^^ UInt8.ofNat (2 ^ j.val)).toNat = n.val + 2 ^ j.val := by decide +kernel
  intro c j hj
  have := h ⟨c.toNat, c.toNat_lt⟩ ⟨j, hj⟩
  simpa using this
/-- the sum of a text in which the byte at i is another one -/
theorem sum_set : ∀ (l : List UInt8) (i : Nat) (x : UInt8) (hi : i < l.length),
    (wordsL (l.set i x)).sum + (if i % 2 = 0 then 256 else 1) * (l[i]).toNat = (wordsL l).sum + (if i % 2 = 0 then 256 else 1) * x.toNat
  | [], i, x, hi => absurd hi (by simp)
  | [a], 0, x, hi => by simp [wordsL]; omega
  | [a], i + 1, x, hi => absurd hi (by simp)
  | a :: b :: t, 0, x, hi => by simp [wordsL]; omega
  | a :: b :: t, 1, x, hi => by simp [wordsL]; omega
  | a :: b :: t, i + 2, x, hi => by
    have ih := sum_set t i x (by simp at hi; omega)
    have e : (i + 2) % 2 = i % 2 := by omega
    simp only [List.set_cons_succ, wordsL, List.sum_cons, List.getElem_cons_succ, e]
    omega
theorem nrm_apart {s1 s2 p : Nat} (h0 : 65535 - nrm s1 = 0) (hp : 0 < p) (hp2 : p ≤ 32768) (h : s2 + p = s1 ∨ s2 = s1 + p) : 65535 - nrm s2 ≠ 0 := by
  unfold nrm at *
  split at h0
  · omega
  · split
    · omega
    · omega
theorem ofL_flip {l : List UInt8} (h0 : ofL l = 0) (i j : Nat) (hi : i < l.length) (hj : j < 8) : ofL (l.set i (l[i] ^^^ UInt8.ofNat (2 ^ j))) ≠ 0 := by
  have hs := sum_set l i (l[i] ^^^ UInt8.ofNat (2 ^ j)) hi
  have hf := flip_nat l[i] j hj
  have hp : 2 ^ j = 1 ∨ 2 ^ j = 2 ∨ 2 ^ j = 4 ∨ 2 ^ j = 8 ∨ 2 ^ j = 16 ∨ 2 ^ j = 32 ∨ 2 ^ j = 64 ∨ 2 ^ j = 128 := by
    have : j = 0 ∨ j = 1 ∨ j = 2 ∨ j = 3 ∨ j = 4 ∨ j = 5 ∨ j = 6 ∨ j = 7 := by omega
    rcases this with rfl | rfl | rfl | rfl | rfl | rfl | rfl | rfl <;> simp
  generalize 2 ^ j = p at *
  generalize (l[i] ^^^ UInt8.ofNat p).toNat = y at *
  generalize (l[i]).toNat = c at *
  unfold ofL at *
  generalize (wordsL (l.set i (l[i] ^^^ UInt8.ofNat p))).sum = s2 at *
  generalize (wordsL l).sum = s1 at *
  by_cases hev : i % 2 = 0
  · simp only [hev, if_true] at hs
    exact nrm_apart h0 (p := 256 * p) (by omega) (by omega) (by omega)
  · simp only [hev, if_false] at hs
    exact nrm_apart h0 (p := p) (by omega) (by omega) (by omega)
/-- a bit of a segment turned -/
theorem decE_flip {s d : Nat} {h : TCPh} {data : List UInt8} (hl : 20 + h.opts.size + data.length ≤ 65515) (i j : Nat) (hj : j < 8) (hil : i < (encL s d h data).length) :
    decE s d ((encL s d h data).set i ((encL s d h data)[i] ^^^ UInt8.ofNat (2 ^ j))) = 55 := by
  have hz := enc_sum s d h data
  have hlen := enc_len s d h data
  generalize encL s d h data = E at *
  have hfl := ofL_flip hz (12 + i) j (by rw [List.length_append, aheadL_length]; omega) hj
  have e1 : (aheadL s d E.length ++ E)[12 + i]'(by rw [List.length_append, aheadL_length]; omega) = E[i] := by
    rw [List.getElem_append_right (by rw [aheadL_length]; omega)]
    congr 1
    rw [aheadL_length]; omega
  have e2 : ∀ v, (aheadL s d E.length ++ E).set (12 + i) v = aheadL s d E.length ++ E.set i v := by
    intro v
    rw [List.set_append_right _ _ (by rw [aheadL_length]; omega), aheadL_length]
    congr 2
    omega
  rw [e1, e2] at hfl
  unfold decE
  rw [List.length_set, if_neg (by omega), if_neg (by omega), if_pos hfl]
end Go.Proofs.Ytengegcnocdkoaa.T
end
section
namespace Go.Proofs.Ytengegcnocdkoaa.T
open Go.RowKit
theorem dec_all (s d : Nat) (t : ByteArray) (w : World) (hs : s < 4294967296) (hd : d < 4294967296) (ht : t.size ≤ 131072) : Calls Try.prog 41 #[.int .u32 (s : Int), .int .u32 (d : Int), .string t] w fun e w' => e = .returned (decV s d t.data.toList) ∧ Below w.heap.size w w' := by
  rcases Nat.lt_or_ge t.size 20 with h | h
  · exact dec_short s d t w h
  · rcases Nat.lt_or_ge 65515 t.size with h2 | h2
    · exact dec_long s d t w h2 ht
    · exact dec_any s d t w hs hd h h2
instance (h : TCPh) : Decidable h.may := by unfold TCPh.may; infer_instance
/-- what Encode answers -/
def encS (s d : Nat) (h : TCPh) (data : ByteArray) : ByteArray := if h.may ∧ 20 + h.opts.size + data.size ≤ 65515 then ⟨(encL s d h data.data.toList).toArray⟩ else ⟨#[]⟩
def encE (h : TCPh) (data : ByteArray) : Int := if h.may then if 20 + h.opts.size + data.size ≤ 65515 then 0 else 4 else 2
def encV (s d : Nat) (h : TCPh) (data : ByteArray) : Value := .tuple #[.string (encS s d h data), .int .i64 (encE h data)]
theorem enc_all (s d : Nat) (h : TCPh) (data : ByteArray) (w : World) (hs : s < 4294967296) (hd : d < 4294967296) (ho : h.ok) (hz : h.opts.size ≤ 131072) (hm : data.size ≤ 131072) :
    Calls Try.prog 28 #[.int .u32 (s : Int), .int .u32 (d : Int), .agg h.cells, .string data] w fun e w' => e = .returned (encV s d h data) ∧ Below w.heap.size w w' := by
  unfold encV encS encE
  by_cases h1 : h.may
  · by_cases h2 : 20 + h.opts.size + data.size ≤ 65515
    · rw [if_pos ⟨h1, h2⟩, if_pos h1, if_pos h2]; exact enc_ok s d h data w hs hd ho h1.1 h1.2.1 h1.2.2 h2
    · rw [if_neg (fun q => h2 q.2), if_pos h1, if_neg h2]; exact enc_long s d h data w h1.1 h1.2.1 h1.2.2 (by omega) hm
  · rw [if_neg (fun q => h1 q.1), if_neg h1]; exact enc_arg s d h data w h1 hz
end Go.Proofs.Ytengegcnocdkoaa.T
end
section
namespace Go.Proofs.Ytengegcnocdkoaa
open Go.RowKit
theorem infoU8o : (Try.prog.info? 5).map (fun i => (i.zero, i.size, i.bytes)) = some (some (.int .u8 0), 1, 1) := by kernel_rfl
theorem info_parts_o {P : Program} {t : TypeId} {x : Option Value × Nat × Nat} (h : (P.info? t).map (fun i => (i.zero, i.size, i.bytes)) = some x) : ∃ i, P.info? t = some i ∧ i.zero = x.1 ∧ i.size = x.2.1 ∧ i.bytes = x.2.2 := by
  cases hi : P.info? t with
  | none => rw [hi] at h; cases h
  | some i =>
    rw [hi] at h
    injection h with h
    subst h
    exact ⟨i, rfl, rfl, rfl, rfl⟩
/-- v is a row of bytes of the call's own -/
def OwnU (w : World) (v : Value) (L : List UInt8) (wr : World) : Prop := wr.ownsRow w.heap.size 5 1 v L.length (L.map u8v) ∧ Below w.heap.size w wr
theorem OwnU.start (w : World) : OwnU w (.slice none 0 0) [] w := ⟨World.ownsRow_nil _ _ _ _, Below.refl _ _⟩
theorem OwnU.read (e : Int) (W : World) : Reads (W.alloc (.cells #[.int .u8 e] 5)) (W.heap.size + 1) 1 (some ⟨W.heap.size, 0, none⟩) 1 [.int .u8 e] := Reads.of_blk (Blk.new W 5 #[.int .u8 e]) (by omega) _ rfl _ rfl
theorem OwnU.put {w wr : World} {v : Value} {L : List UInt8} (h : OwnU w v L wr) (b : UInt8) (v' : Value) (w' : World) (e : Int) (ho : w'.ownsRow w.heap.size 5 1 v' (L.length + 1) (L.map u8v ++ [.int .u8 e])) (hg : (wr.alloc (.cells #[.int .u8 e] 5)).grownBy w' v.ownBlock) (he : e = (b.toNat : Int)) : OwnU w v' (L ++ [b]) w' := by
  subst he
  refine ⟨by rw [List.length_append, List.map_append]; exact ho, (h.2.alloc h.2.size _).grown hg (Nat.le_trans h.2.size (by simp)) (fun q hq => (h.1.lt q hq).1)⟩
theorem OwnU.text {w wr : World} {v : Value} {L : List UInt8} (h : OwnU w v L wr) (hne : L ≠ []) : ∃ ad c, v = .slice (some ad) L.length c ∧ (convert 51 9 (.slice (some ad) L.length c)).run Try.prog wr = .ok (.string ⟨L.toArray⟩) wr := by
  obtain ⟨A, c, rfl, _⟩ := own_slice h.1
  have hr := Reads.of_own h.1
  have hpos : 0 < L.length := List.length_pos_iff.2 hne
  obtain ⟨ad, rfl, _, hc⟩ := hr.2 hpos
  refine ⟨ad, c, rfl, run_bytes_back wr ad _ c L rfl ?_⟩
  intro j hj
  exact hc j _ (by rw [List.getElem?_map, List.getElem?_eq_getElem hj]; rfl)
def H32Rel (w : World) (xs : List Nat) (k : Nat) (v : Value) (wr : World) : Prop := k ≤ xs.length ∧ OwnU w v ((xs.take k).flatMap be4) wr
theorem flat_len4 : ∀ xs : List Nat, (xs.flatMap be4).length = 4 * xs.length
  | [] => rfl
  | x :: r => by rw [List.flatMap_cons, List.length_append, flat_len4 r, List.length_cons]; simp [be4]; omega
set_option maxRecDepth 100000 in
set_option maxHeartbeats 2000000 in
theorem ohigh32 (w : World) (r : Nat) (xs : List Nat) (cs : Array Value) (hx : ∀ x ∈ xs, x < 4294967296) (hcs : cs = (xs.map fun (x : Nat) => Value.int .u32 (x : Int)).toArray) (hr : Blk w r 22 cs) (hlen : xs.length ≤ 1000) (hpos : xs ≠ []) :
    Calls Try.prog 86 #[.int .i64 4, .slice (some ⟨r, 0, none⟩) xs.length xs.length] w fun e w' => e = .returned (.string ⟨(xs.flatMap be4).toArray⟩) ∧ Below w.heap.size w w' := by
  obtain ⟨i0, hi, h0, h1, h2⟩ := info_parts_o infoU8o
  have hrel0 : H32Rel w xs 0 (.slice none 0 0) w := ⟨Nat.zero_le _, by simpa using OwnU.start w⟩
  obtain ⟨n, hn⟩ : ∃ n, n = xs.length := ⟨_, rfl⟩
  have i1 : (n : Int) ≤ 1000 := by omega
  rw [← hn]
  have Hi := Lib.hid hi
  clear hi
  have H0 := Lib.hid h0
  clear h0
  have H1 := Lib.hid h1
  clear h1
  have H2 := Lib.hid h2
  clear h2
  have Hrel0 := Lib.hid hrel0
  clear hrel0
  have Hn := Lib.hid hn
  clear hn
  have Hx := Lib.hid hx
  clear hx
  have Hcs := Lib.hid hcs
  clear hcs
  have Hr := Lib.hid hr
  clear hr
  have Hpos := Lib.hid hpos
  clear hpos
  clear hlen
  go_enter Try.func86, Try.ntmps86
  go_wp2
  go_loopw [5, 11] (fun v i wr => ∃ k : Nat, i = .int .i64 (k : Int) ∧ H32Rel w xs k v wr) (fun _ i _ => n - (intOf i).toNat)
  case atStart => exact ⟨0, rfl, Hrel0.out⟩
  case round =>
    clear Hrel0
    obtain ⟨k, rfl, hk, hO⟩ := hrel
    rw [← Hn.out] at hk
    by_cases hlt : k < n
    · have i2 : (k : Int) < (n : Int) := by omega
      have hkk : k < xs.length := by rw [← Hn.out]; exact hlt
      obtain ⟨x, hxe⟩ : ∃ x, x = xs[k] := ⟨_, rfl⟩
      have hxb : x < 4294967296 := by rw [hxe]; exact Hx.out _ (List.getElem_mem hkk)
      have hck : wr.cell? ⟨r, k, none⟩ = some (.int .u32 (x : Int)) := by
        rw [(Hr.out.below hO.2 Hr.out.lt).cell k, Hcs.out, hxe]
        simp [hkk]
      have hrl : r < wr.heap.size := Nat.lt_of_lt_of_le Hr.out.lt hO.2.size
      have htk : (xs.take (k + 1)).flatMap be4 = (xs.take k).flatMap be4 ++ be4 x := by
        rw [hxe, List.take_succ_eq_append_getElem hkk, List.flatMap_append]
        simp
      obtain ⟨L, hL⟩ : ∃ L, L = (xs.take k).flatMap be4 := ⟨_, rfl⟩
      have hLL : L.length ≤ 4000 := by
        rw [hL, flat_len4]
        have := List.length_take_le k xs
        omega
      rw [← hL] at htk hO
      have hnext : ∀ v W, OwnU w v (L ++ be4 x) W → H32Rel w xs (k + 1) v W := fun v W h => ⟨hkk, by rw [htk]; exact h⟩
      have i3 : 0 ≤ (x : Int) := by omega
      have i4 : (x : Int) ≤ 4294967295 := by omega
      have Hnext := Lib.hid hnext
      have HLL := Lib.hid hLL
      have HO := Lib.hid hO
      clear hnext hLL hO htk hL hxe hkk hlt hk hxb
      go_wp2
      go_loopw [5, 16] (fun v j wr => (j = .int .i64 0 ∧ OwnU w v L wr) ∨ (j = .int .i64 1 ∧ OwnU w v (L ++ [UInt8.ofNat (x / 16777216)]) wr) ∨ (j = .int .i64 2 ∧ OwnU w v ((L ++ [UInt8.ofNat (x / 16777216)]) ++ [UInt8.ofNat (x / 65536)]) wr) ∨ (j = .int .i64 3 ∧ OwnU w v (((L ++ [UInt8.ofNat (x / 16777216)]) ++ [UInt8.ofNat (x / 65536)]) ++ [UInt8.ofNat (x / 256)]) wr) ∨ (j = .int .i64 4 ∧ OwnU w v ((((L ++ [UInt8.ofNat (x / 16777216)]) ++ [UInt8.ofNat (x / 65536)]) ++ [UInt8.ofNat (x / 256)]) ++ [UInt8.ofNat x]) wr)) (fun _ j _ => 4 - (intOf j).toNat)
      case atStart => exact .inl ⟨rfl, HO.out⟩
      case round =>
        clear HO hck hrl
        rcases hrel with ⟨rfl, hO⟩ | ⟨rfl, hO⟩ | ⟨rfl, hO⟩ | ⟨rfl, hO⟩ | ⟨rfl, hO⟩
        · have hw := hO.1.lt
          have hread := fun (e : Int) => OwnU.read e wr
          have hown2 := fun (e : Int) => hO.1.alloc (.cells #[.int .u8 e] 5)
          have hpost := hO.put (UInt8.ofNat (x / 16777216))
          have hsz := hO.2.size
          have Hread := Lib.hid hread
          have Hown2 := Lib.hid hown2
          have Hpost := Lib.hid hpost
          have Hsz := Lib.hid hsz
          clear hread hown2 hpost hsz hO hw
          go_wp2_with (at_builtin; refine wpList_append_any _ rfl _ _ _ rfl w.heap.size 5 i0 _ 1 1 Try.underlying51 Hi.out H0.out H1.out H2.out rfl (by decide) _ _ _ rfl (Hown2.out _) _ _ 1 1 _ rfl (Hread.out _) (by intro u hu; simp at hu; subst hu; rfl) (by simp only [maxLen, List.length_append, List.length_cons, List.length_nil]; have := HLL.out; omega) (by first | (simp only [List.length_append, List.length_cons, List.length_nil]; have := HLL.out; omega) | (have := HLL.out; omega)) (by simp; have := Hsz.out; omega) ?_; intro v1 w1 hown1 hg1 hat1; have hp1 := Hpost.out v1 w1 _ hown1 hg1 (by first | (rw [u8b]; omega) | rw [u8b]); have Hp1 := Lib.hid hp1; clear hown1 hg1 hat1 hp1)
          go_roundw
          case rel => exact (.inr (.inl ⟨rfl, Hp1.out⟩))
          case measure => simp [intOf]
        · have hw := hO.1.lt
          have hread := fun (e : Int) => OwnU.read e wr
          have hown2 := fun (e : Int) => hO.1.alloc (.cells #[.int .u8 e] 5)
          have hpost := hO.put (UInt8.ofNat (x / 65536))
          have hsz := hO.2.size
          have Hread := Lib.hid hread
          have Hown2 := Lib.hid hown2
          have Hpost := Lib.hid hpost
          have Hsz := Lib.hid hsz
          clear hread hown2 hpost hsz hO hw
          go_wp2_with (at_builtin; refine wpList_append_any _ rfl _ _ _ rfl w.heap.size 5 i0 _ 1 1 Try.underlying51 Hi.out H0.out H1.out H2.out rfl (by decide) _ _ _ rfl (Hown2.out _) _ _ 1 1 _ rfl (Hread.out _) (by intro u hu; simp at hu; subst hu; rfl) (by simp only [maxLen, List.length_append, List.length_cons, List.length_nil]; have := HLL.out; omega) (by first | (simp only [List.length_append, List.length_cons, List.length_nil]; have := HLL.out; omega) | (have := HLL.out; omega)) (by simp; have := Hsz.out; omega) ?_; intro v1 w1 hown1 hg1 hat1; have hp1 := Hpost.out v1 w1 _ hown1 hg1 (by first | (rw [u8b]; omega) | rw [u8b]); have Hp1 := Lib.hid hp1; clear hown1 hg1 hat1 hp1)
          go_roundw
          case rel => exact (.inr (.inr (.inl ⟨rfl, Hp1.out⟩)))
          case measure => simp [intOf]
        · have hw := hO.1.lt
          have hread := fun (e : Int) => OwnU.read e wr
          have hown2 := fun (e : Int) => hO.1.alloc (.cells #[.int .u8 e] 5)
          have hpost := hO.put (UInt8.ofNat (x / 256))
          have hsz := hO.2.size
          have Hread := Lib.hid hread
          have Hown2 := Lib.hid hown2
          have Hpost := Lib.hid hpost
          have Hsz := Lib.hid hsz
          clear hread hown2 hpost hsz hO hw
          go_wp2_with (at_builtin; refine wpList_append_any _ rfl _ _ _ rfl w.heap.size 5 i0 _ 1 1 Try.underlying51 Hi.out H0.out H1.out H2.out rfl (by decide) _ _ _ rfl (Hown2.out _) _ _ 1 1 _ rfl (Hread.out _) (by intro u hu; simp at hu; subst hu; rfl) (by simp only [maxLen, List.length_append, List.length_cons, List.length_nil]; have := HLL.out; omega) (by first | (simp only [List.length_append, List.length_cons, List.length_nil]; have := HLL.out; omega) | (have := HLL.out; omega)) (by simp; have := Hsz.out; omega) ?_; intro v1 w1 hown1 hg1 hat1; have hp1 := Hpost.out v1 w1 _ hown1 hg1 (by first | (rw [u8b]; omega) | rw [u8b]); have Hp1 := Lib.hid hp1; clear hown1 hg1 hat1 hp1)
          go_roundw
          case rel => exact (.inr (.inr (.inr (.inl ⟨rfl, Hp1.out⟩))))
          case measure => simp [intOf]
        · have hw := hO.1.lt
          have hread := fun (e : Int) => OwnU.read e wr
          have hown2 := fun (e : Int) => hO.1.alloc (.cells #[.int .u8 e] 5)
          have hpost := hO.put (UInt8.ofNat x)
          have hsz := hO.2.size
          have Hread := Lib.hid hread
          have Hown2 := Lib.hid hown2
          have Hpost := Lib.hid hpost
          have Hsz := Lib.hid hsz
          clear hread hown2 hpost hsz hO hw
          go_wp2_with (at_builtin; refine wpList_append_any _ rfl _ _ _ rfl w.heap.size 5 i0 _ 1 1 Try.underlying51 Hi.out H0.out H1.out H2.out rfl (by decide) _ _ _ rfl (Hown2.out _) _ _ 1 1 _ rfl (Hread.out _) (by intro u hu; simp at hu; subst hu; rfl) (by simp only [maxLen, List.length_append, List.length_cons, List.length_nil]; have := HLL.out; omega) (by first | (simp only [List.length_append, List.length_cons, List.length_nil]; have := HLL.out; omega) | (have := HLL.out; omega)) (by simp; have := Hsz.out; omega) ?_; intro v1 w1 hown1 hg1 hat1; have hp1 := Hpost.out v1 w1 _ hown1 hg1 (by first | (rw [u8b]; omega) | rw [u8b]); have Hp1 := Lib.hid hp1; clear hown1 hg1 hat1 hp1)
          go_roundw
          case rel => exact (.inr (.inr (.inr (.inr ⟨rfl, Hp1.out⟩))))
          case measure => simp [intOf]
        · have hn2 := Hnext.out _ wr (by simpa [be4] using hO)
          have Hn2 := Lib.hid hn2
          clear hn2 hO
          go_wp2
          go_roundw
          case rel => exact ⟨k + 1, by go_num, Hn2.out⟩
          case measure => simp [intOf]; omega
    · have hke : k = n := by omega
      have i2 : (n : Int) ≤ (k : Int) := by omega
      have hall : (xs.take k).flatMap be4 = xs.flatMap be4 := by rw [List.take_of_length_le (by rw [← Hn.out]; omega)]
      rw [hall] at hO
      obtain ⟨ad, c, rfl, hcv⟩ := hO.text (fun e => by
        have := flat_len4 xs
        rw [e] at this
        have := List.length_pos_iff.2 Hpos.out
        simp at *
        omega)
      have HB := Lib.hid hO.2
      clear hO hall hke hlt hk
      generalize (xs.flatMap be4).length = m at *
      go_wp2
      go_ret
      exact ⟨rfl, HB.out⟩
def H16Rel (w : World) (xs : List Nat) (k : Nat) (v : Value) (wr : World) : Prop := k ≤ xs.length ∧ OwnU w v ((xs.take k).flatMap be2) wr
theorem flat_len2 : ∀ xs : List Nat, (xs.flatMap be2).length = 2 * xs.length
  | [] => rfl
  | x :: r => by rw [List.flatMap_cons, List.length_append, flat_len2 r, List.length_cons]; simp [be2]; omega
set_option maxRecDepth 100000 in
set_option maxHeartbeats 2000000 in
theorem ohigh16 (w : World) (r : Nat) (xs : List Nat) (cs : Array Value) (hx : ∀ x ∈ xs, x < 65536) (hcs : cs = (xs.map fun (x : Nat) => Value.int .u16 (x : Int)).toArray) (hr : Blk w r 23 cs) (hlen : xs.length ≤ 1000) (hpos : xs ≠ []) :
    Calls Try.prog 91 #[.int .i64 2, .slice (some ⟨r, 0, none⟩) xs.length xs.length] w fun e w' => e = .returned (.string ⟨(xs.flatMap be2).toArray⟩) ∧ Below w.heap.size w w' := by
  obtain ⟨i0, hi, h0, h1, h2⟩ := info_parts_o infoU8o
  have hrel0 : H16Rel w xs 0 (.slice none 0 0) w := ⟨Nat.zero_le _, by simpa using OwnU.start w⟩
  obtain ⟨n, hn⟩ : ∃ n, n = xs.length := ⟨_, rfl⟩
  have i1 : (n : Int) ≤ 1000 := by omega
  rw [← hn]
  have Hi := Lib.hid hi
  clear hi
  have H0 := Lib.hid h0
  clear h0
  have H1 := Lib.hid h1
  clear h1
  have H2 := Lib.hid h2
  clear h2
  have Hrel0 := Lib.hid hrel0
  clear hrel0
  have Hn := Lib.hid hn
  clear hn
  have Hx := Lib.hid hx
  clear hx
  have Hcs := Lib.hid hcs
  clear hcs
  have Hr := Lib.hid hr
  clear hr
  have Hpos := Lib.hid hpos
  clear hpos
  clear hlen
  go_enter Try.func91, Try.ntmps91
  go_wp2
  go_loopw [5, 11] (fun v i wr => ∃ k : Nat, i = .int .i64 (k : Int) ∧ H16Rel w xs k v wr) (fun _ i _ => n - (intOf i).toNat)
  case atStart => exact ⟨0, rfl, Hrel0.out⟩
  case round =>
    clear Hrel0
    obtain ⟨k, rfl, hk, hO⟩ := hrel
    rw [← Hn.out] at hk
    by_cases hlt : k < n
    · have i2 : (k : Int) < (n : Int) := by omega
      have hkk : k < xs.length := by rw [← Hn.out]; exact hlt
      obtain ⟨x, hxe⟩ : ∃ x, x = xs[k] := ⟨_, rfl⟩
      have hxb : x < 65536 := by rw [hxe]; exact Hx.out _ (List.getElem_mem hkk)
      have hck : wr.cell? ⟨r, k, none⟩ = some (.int .u16 (x : Int)) := by
        rw [(Hr.out.below hO.2 Hr.out.lt).cell k, Hcs.out, hxe]
        simp [hkk]
      have hrl : r < wr.heap.size := Nat.lt_of_lt_of_le Hr.out.lt hO.2.size
      have htk : (xs.take (k + 1)).flatMap be2 = (xs.take k).flatMap be2 ++ be2 x := by
        rw [hxe, List.take_succ_eq_append_getElem hkk, List.flatMap_append]
        simp
      obtain ⟨L, hL⟩ : ∃ L, L = (xs.take k).flatMap be2 := ⟨_, rfl⟩
      have hLL : L.length ≤ 2000 := by
        rw [hL, flat_len2]
        have := List.length_take_le k xs
        omega
      rw [← hL] at htk hO
      have hnext : ∀ v W, OwnU w v (L ++ be2 x) W → H16Rel w xs (k + 1) v W := fun v W h => ⟨hkk, by rw [htk]; exact h⟩
      have i3 : 0 ≤ (x : Int) := by omega
      have i4 : (x : Int) ≤ 65535 := by omega
      have Hnext := Lib.hid hnext
      have HLL := Lib.hid hLL
      have HO := Lib.hid hO
      clear hnext hLL hO htk hL hxe hkk hlt hk hxb
      go_wp2
      go_loopw [5, 16] (fun v j wr => (j = .int .i64 0 ∧ OwnU w v L wr) ∨ (j = .int .i64 1 ∧ OwnU w v (L ++ [UInt8.ofNat (x / 256)]) wr) ∨ (j = .int .i64 2 ∧ OwnU w v ((L ++ [UInt8.ofNat (x / 256)]) ++ [UInt8.ofNat x]) wr)) (fun _ j _ => 2 - (intOf j).toNat)
      case atStart => exact .inl ⟨rfl, HO.out⟩
      case round =>
        clear HO hck hrl
        rcases hrel with ⟨rfl, hO⟩ | ⟨rfl, hO⟩ | ⟨rfl, hO⟩
        · have hw := hO.1.lt
          have hread := fun (e : Int) => OwnU.read e wr
          have hown2 := fun (e : Int) => hO.1.alloc (.cells #[.int .u8 e] 5)
          have hpost := hO.put (UInt8.ofNat (x / 256))
          have hsz := hO.2.size
          have Hread := Lib.hid hread
          have Hown2 := Lib.hid hown2
          have Hpost := Lib.hid hpost
          have Hsz := Lib.hid hsz
          clear hread hown2 hpost hsz hO hw
          go_wp2_with (at_builtin; refine wpList_append_any _ rfl _ _ _ rfl w.heap.size 5 i0 _ 1 1 Try.underlying51 Hi.out H0.out H1.out H2.out rfl (by decide) _ _ _ rfl (Hown2.out _) _ _ 1 1 _ rfl (Hread.out _) (by intro u hu; simp at hu; subst hu; rfl) (by simp only [maxLen, List.length_append, List.length_cons, List.length_nil]; have := HLL.out; omega) (by first | (simp only [List.length_append, List.length_cons, List.length_nil]; have := HLL.out; omega) | (have := HLL.out; omega)) (by simp; have := Hsz.out; omega) ?_; intro v1 w1 hown1 hg1 hat1; have hp1 := Hpost.out v1 w1 _ hown1 hg1 (by first | (rw [u8b]; omega) | rw [u8b]); have Hp1 := Lib.hid hp1; clear hown1 hg1 hat1 hp1)
          go_roundw
          case rel => exact (.inr (.inl ⟨rfl, Hp1.out⟩))
          case measure => simp [intOf]
        · have hw := hO.1.lt
          have hread := fun (e : Int) => OwnU.read e wr
          have hown2 := fun (e : Int) => hO.1.alloc (.cells #[.int .u8 e] 5)
          have hpost := hO.put (UInt8.ofNat x)
          have hsz := hO.2.size
          have Hread := Lib.hid hread
          have Hown2 := Lib.hid hown2
          have Hpost := Lib.hid hpost
          have Hsz := Lib.hid hsz
          clear hread hown2 hpost hsz hO hw
          go_wp2_with (at_builtin; refine wpList_append_any _ rfl _ _ _ rfl w.heap.size 5 i0 _ 1 1 Try.underlying51 Hi.out H0.out H1.out H2.out rfl (by decide) _ _ _ rfl (Hown2.out _) _ _ 1 1 _ rfl (Hread.out _) (by intro u hu; simp at hu; subst hu; rfl) (by simp only [maxLen, List.length_append, List.length_cons, List.length_nil]; have := HLL.out; omega) (by first | (simp only [List.length_append, List.length_cons, List.length_nil]; have := HLL.out; omega) | (have := HLL.out; omega)) (by simp; have := Hsz.out; omega) ?_; intro v1 w1 hown1 hg1 hat1; have hp1 := Hpost.out v1 w1 _ hown1 hg1 (by first | (rw [u8b]; omega) | rw [u8b]); have Hp1 := Lib.hid hp1; clear hown1 hg1 hat1 hp1)
          go_roundw
          case rel => exact (.inr (.inr ⟨rfl, Hp1.out⟩))
          case measure => simp [intOf]
        · have hn2 := Hnext.out _ wr (by simpa [be2] using hO)
          have Hn2 := Lib.hid hn2
          clear hn2 hO
          go_wp2
          go_roundw
          case rel => exact ⟨k + 1, by go_num, Hn2.out⟩
          case measure => simp [intOf]; omega
    · have hke : k = n := by omega
      have i2 : (n : Int) ≤ (k : Int) := by omega
      have hall : (xs.take k).flatMap be2 = xs.flatMap be2 := by rw [List.take_of_length_le (by rw [← Hn.out]; omega)]
      rw [hall] at hO
      obtain ⟨ad, c, rfl, hcv⟩ := hO.text (fun e => by
        have := flat_len2 xs
        rw [e] at this
        have := List.length_pos_iff.2 Hpos.out
        simp at *
        omega)
      have HB := Lib.hid hO.2
      clear hO hall hke hlt hk
      generalize (xs.flatMap be2).length = m at *
      go_wp2
      go_ret
      exact ⟨rfl, HB.out⟩
end Go.Proofs.Ytengegcnocdkoaa
end
section
namespace Go.Proofs.Ytengegcnocdkoaa
open Go.RowKit
theorem drop_step {l : List Oper} {m : Nat} {o : Oper} (h : l.toArray[m]? = some o) : l.drop m = o :: l.drop (m + 1) := by
  have h1 : l[m]? = some o := by simpa using h
  have hm : m < l.length := (List.getElem?_eq_some_iff.1 h1).1
  rw [List.drop_eq_getElem_cons hm]
  congr 1
  rw [List.getElem?_eq_getElem hm] at h1
  injection h1
theorem wpOp_of_list {P : Program} {Q : Exit → Act → World → Prop} {l : List Oper} {m : Nat} {o : Oper} {rest : List Oper} {a : Act} {w : World} {K : Act → World → Prop} (ho : l.toArray[m]? = some o) (hq : wpList P l.toArray Q (o :: rest) a w) (hk : ∀ a2 w2, wpList P l.toArray Q rest a2 w2 → K a2 w2) : wpOp P l.toArray Q m K a w := by
  unfold wpOp
  simp only [ho]
  simp only [wpList] at hq
  by_cases hwl : Region.wanted o (yielded l.toArray a.tmps) = true
  · rw [if_pos hwl] at hq ⊢
    exact hq.imp (fun h => Oper.wp_mono hk h) (fun h => h)
  · rw [if_neg hwl] at hq ⊢
    exact hk _ _ hq
/-- the invariant: what stands ahead of n is under way; or all below m is done -/
def tailJ (P : Program) (l : List Oper) (Q : Exit → Act → World → Prop) (n : Nat) (J : Array Bool → Act → World → Prop) (listed : Array Bool) (a : Act) (w : World) : Prop :=
  ((∀ j, n ≤ j → listed.getD j false = false) ∧ J listed a w) ∨ ∃ m, n < m ∧ m ≤ l.length ∧ listed.size = l.length ∧ (∀ i, i < l.length → listed.getD i false = decide (i < m)) ∧ wpList P l.toArray Q (l.drop m) a w
end Go.Proofs.Ytengegcnocdkoaa
end
section
namespace Go.Proofs.Ytengegcnocdkoaa
open Go.RowKit
/-- what is told of some slots and the world, once operation 'at_' is done -/
structure Fc where
  at_ : Nat
  dep : List Tmp
  says : List Value → World → Prop
def fillW : List Tmp → (Tmp → Value) → Act → Act
  | [], _, a => a
  | t :: T, f, a => fillW T f (a.put (some t) (f t))
theorem fillW_defs (f : Tmp → Value) : ∀ (T : List Tmp) (a : Act), (fillW T f a).defers = a.defers
  | [], a => rfl
  | t :: T, a => by rw [fillW, fillW_defs f T, put_defs]
theorem fillW_out (f : Tmp → Value) : ∀ (T : List Tmp) (a : Act) (t : Tmp), t ∉ T → (fillW T f a).tmps[t]? = a.tmps[t]?
  | [], a, t, h => rfl
  | s :: T, a, t, h => by
    rw [fillW, fillW_out f T _ t (fun h' => h (List.mem_cons_of_mem _ h')), put_slot_ne a (some s) _ t (by intro e; injection e with e; exact h (e ▸ List.mem_cons_self))]
theorem fillW_in (f : Tmp → Value) : ∀ (T : List Tmp) (a : Act) (t : Tmp), t ∈ T → t < a.tmps.size → (fillW T f a).tmps[t]? = some (f t)
  | [], a, t, h, _ => by cases h
  | s :: T, a, t, h, hs => by
    by_cases ht : t ∈ T
    · rw [fillW]; exact fillW_in f T _ t ht (by rw [put_size]; exact hs)
    · rcases List.mem_cons.1 h with rfl | h'
      · rw [fillW, fillW_out f T _ t ht, put_slot a t _ hs]
      · exact absurd h' ht
def slotv (a : Act) (t : Tmp) : Value := a.tmps.getD t undef
theorem slotv_some {a : Act} {t : Tmp} (h : t < a.tmps.size) : a.tmps[t]? = some (slotv a t) := by
  unfold slotv
  rw [Array.getD_eq_getD_getElem?, Array.getElem?_eq_getElem h, Option.getD_some]
def updW (f : Tmp → Value) (d : Option Tmp) (u : Value) (t : Tmp) : Value := if d = some t then u else f t
section
variable (P : Program) (ops : Array Oper) (C : World → Prop) (R : World → World → Prop)
def flowB (n : Nat) : Bool :=
  Region.noSelect ops && (List.range ops.size).all fun i => match ops[i]? with
    | none => true
    | some o => (o.after.all fun e => !Region.binds .any e || decide (e.on < i)) && (match o.dst with
        | some t => decide (t < n) && !(o.looksAt ops).contains t
        | none => true) && (List.range ops.size).all fun j => j == i || match ops[j]? with
      | none => true
      | some p => (match o.dst with
          | some t => p.dst != some t
          | none => true) && ((match p.dst with
            | some t => !(o.looksAt ops).contains t
            | none => true) || (o.after.any fun e => Region.binds .any e && e.on == j) || (p.after.any fun e => Region.binds .any e && e.on == i))
variable {ops} in
theorem flowB_spec {n : Nat} (h : flowB ops n = true) {i : Nat} {o : Oper} (hi : ops[i]? = some o) :
    (∀ e ∈ o.after, Region.binds .any e = true → e.on < i) ∧ (∀ t, o.dst = some t → t < n ∧ t ∉ o.looksAt ops) ∧
    (∀ j p, ops[j]? = some p → j ≠ i → (∀ t, o.dst = some t → p.dst ≠ some t) ∧ ((∀ t, p.dst = some t → t ∉ o.looksAt ops) ∨ (∃ e ∈ o.after, Region.binds .any e = true ∧ e.on = j) ∨ (∃ e ∈ p.after, Region.binds .any e = true ∧ e.on = i))) := by
  unfold flowB at h
  rw [Bool.and_eq_true, List.all_eq_true] at h
  have h1 := h.2 i (List.mem_range.2 (Array.getElem?_eq_some_iff.1 hi).1)
  simp only [hi, Bool.and_eq_true, List.all_eq_true] at h1
  obtain ⟨⟨ha, hd⟩, hp⟩ := h1
  refine ⟨fun e he hb => ?_, fun t ht => ?_, fun j p hj hne => ?_⟩
  · have := (Array.all_eq_true_iff_forall_mem.1 ha) e he
    rw [hb] at this
    simpa using this
  · rw [ht] at hd
    simpa using hd
  · have h2 := hp j (List.mem_range.2 (Array.getElem?_eq_some_iff.1 hj).1)
    simp only [hj, Bool.or_eq_true, beq_iff_eq, hne, false_or, Bool.and_eq_true] at h2
    refine ⟨fun t ht => ?_, ?_⟩
    · have := h2.1
      rw [ht] at this
      simpa using this
    · rcases h2.2 with (h3 | h3) | h3
      · left
        intro t ht
        rw [ht] at h3
        simpa using h3
      · right; left
        obtain ⟨e, he, hb⟩ := Array.any_eq_true'.1 h3
        simp only [Bool.and_eq_true, beq_iff_eq] at hb
        exact ⟨e, he, hb.1, hb.2⟩
      · right; right
        obtain ⟨e, he, hb⟩ := Array.any_eq_true'.1 h3
        simp only [Bool.and_eq_true, beq_iff_eq] at hb
        exact ⟨e, he, hb.1, hb.2⟩
def guardW (T : List Tmp) (o : Oper) : Bool := match o.guard with
  | some (g, _) => match (ops[g]?).bind (·.dst) with
    | some t => T.all fun s => s != t
    | none => true
  | none => true
def waitsB (o : Oper) (i : Nat) : Bool := o.after.toList.any fun e => Region.binds .any e && e.on == i
def knownW (o : Oper) (N : List Fc) (f : Tmp → Value) (w : World) : Prop := ∀ F ∈ N, waitsB o F.at_ = true → F.says (F.dep.map f) w
abbrev Dc := List Tmp × (List Value → World → Prop)
/-- one operation of the walk -/
def stepW (k : Nat) (T : List Tmp) (N : List Fc) (o : Oper) (a : Act) (next : List Tmp → List Fc → Act → Prop) : Prop :=
  guardW ops T o = true ∧
  if Region.wanted o (yielded ops a.tmps) = true then
    (∃ v, (∀ w f, C w → knownW o N f w → gives P o (fillW T f a) w fun u w' => u = v ∧ C w' ∧ R w w') ∧ next T N (a.put o.dst v)) ∨
    (∃ D : List Dc, (∀ d ∈ D, (∀ t ∈ d.1, o.dst = some t ∨ (t ∈ T ∧ t ∈ o.looksAt ops)) ∧ ∀ l w w', R w w' → d.2 l w → d.2 l w') ∧
      (∀ w f, C w → knownW o N f w → gives P o (fillW T f a) w fun u w' => (∀ d ∈ D, d.2 (d.1.map (updW f o.dst u)) w') ∧ C w' ∧ R w w') ∧ next (o.dst.toList ++ T) (D.map (fun d => ⟨k, d.1, d.2⟩) ++ N) (a.put o.dst undef))
  else next T N (a.put o.dst undef)
def wpW (End : List Tmp → List Fc → Act → Prop) : Nat → List Oper → List Tmp → List Fc → Act → Prop
  | k, [], T, N, a => End T N a
  | k, o :: rest, T, N, a => stepW P ops C R k T N o a (wpW End (k + 1) rest)
def okF (G : Nat → Option Oper) (F : Fc) : Prop := ∃ p, G F.at_ = some p ∧ (∀ t ∈ F.dep, p.dst = some t ∨ (t ∈ p.looksAt ops ∧ ∃ m q, m < F.at_ ∧ G m = some q ∧ q.dst = some t)) ∧ ∀ l w w', R w w' → F.says l w → F.says l w'
/-- what the walk has shown of one operation; 'fin': the frame at the walk's end -/
def caseW (fin : Act) (Tf : List Tmp) (Nf : List Fc) (k : Nat) (T : List Tmp) (N : List Fc) (o : Oper) (b : Act) : Prop :=
  guardW ops T o = true ∧
  if Region.wanted o (yielded ops b.tmps) = true then
    (∃ v, (∀ w f, C w → knownW o N f w → gives P o (fillW T f b) w fun u w' => u = v ∧ C w' ∧ R w w') ∧ (∀ t, o.dst = some t → fin.tmps[t]? = some v ∧ t ∉ Tf) ∧ ∀ F ∈ Nf, F.at_ ≠ k) ∨
    (∃ D : List Dc, (∀ w f, C w → knownW o N f w → gives P o (fillW T f b) w fun u w' => (∀ d ∈ D, d.2 (d.1.map (updW f o.dst u)) w') ∧ C w' ∧ R w w') ∧ (∀ t, o.dst = some t → t ∈ Tf) ∧ ∀ F ∈ Nf, F.at_ = k → ∃ d ∈ D, F = ⟨k, d.1, d.2⟩)
  else (∀ t, o.dst = some t → fin.tmps[t]? = some undef ∧ t ∉ Tf) ∧ ∀ F ∈ Nf, F.at_ ≠ k
theorem wpW_out {End : List Tmp → List Fc → Act → Prop} (G : Nat → Option Oper) (n : Nat) (hd : ∀ (i j : Nat) (o p : Oper) (t : Tmp), G i = some o → G j = some p → o.dst = some t → p.dst = some t → i = j) (hn : ∀ (i : Nat) (o : Oper) (t : Tmp), G i = some o → o.dst = some t → t < n) :
    ∀ (l : List Oper) (k : Nat) (T : List Tmp) (N : List Fc) (a : Act), (∀ j, l[j]? = G (k + j)) → a.tmps.size = n → (∀ t ∈ T, ∃ i o, i < k ∧ G i = some o ∧ o.dst = some t) → (∀ F ∈ N, F.at_ < k) → wpW P ops C R End k l T N a →
    ∃ (fin : Act) (Tf : List Tmp) (Nf : List Fc), End Tf Nf fin ∧ fin.defers = a.defers ∧ fin.tmps.size = n ∧ (∀ t, (∀ m p, k ≤ m → G m = some p → p.dst ≠ some t) → fin.tmps[t]? = a.tmps[t]?) ∧ (∀ t ∈ T, t ∈ Tf) ∧
      (∀ t ∈ Tf, t ∈ T ∨ ∃ m o, k ≤ m ∧ G m = some o ∧ o.dst = some t) ∧ (∀ F ∈ N, F ∈ Nf) ∧ (∀ F ∈ Nf, F ∈ N ∨ (k ≤ F.at_ ∧ okF ops R G F)) ∧
      ∀ i o, k ≤ i → G i = some o → ∃ (b : Act) (Tb : List Tmp) (Nb : List Fc), (∀ t, (∀ m p, k ≤ m → m < i → G m = some p → p.dst ≠ some t) → b.tmps[t]? = a.tmps[t]?) ∧ (∀ t, (∀ m p, i ≤ m → G m = some p → p.dst ≠ some t) → b.tmps[t]? = fin.tmps[t]?) ∧
        b.tmps.size = n ∧ (∀ t ∈ Tb, t ∈ Tf ∧ ∃ m o', m < i ∧ G m = some o' ∧ o'.dst = some t) ∧ (∀ t ∈ Tf, t ∈ Tb ∨ ∃ m o', i ≤ m ∧ G m = some o' ∧ o'.dst = some t) ∧ (∀ F ∈ Nb, F ∈ Nf) ∧ caseW P ops C R fin Tf Nf i Tb Nb o b
  | [], k, T, N, a, hl, hsz, hT, hN, h => by
    have hnone : ∀ m p, k ≤ m → G m = some p → False := fun m p hm hp => by
      have := hl (m - k)
      rw [show k + (m - k) = m by omega, hp] at this
      simp at this
    exact ⟨a, T, N, h, rfl, hsz, fun _ _ => rfl, fun _ h => h, fun _ h => .inl h, fun _ h => h, fun _ h => .inl h, fun i o hi ho => (hnone i o hi ho).elim⟩
  | o :: rest, k, T, N, a, hl, hsz, hT, hN, h => by
    have hk : G k = some o := by simpa using (hl 0).symm
    have hl' : ∀ j, rest[j]? = G (k + 1 + j) := fun j => by have := hl (j + 1); simpa [Nat.add_assoc, Nat.add_comm 1 j] using this
    have go : ∀ (T' : List Tmp) (N' : List Fc) (v : Value), (∀ t ∈ T', t ∈ T ∨ o.dst = some t) → (∀ t ∈ T, t ∈ T') → (∀ F ∈ N', F ∈ N ∨ (F.at_ = k ∧ okF ops R G F)) → (∀ F ∈ N, F ∈ N') → wpW P ops C R End (k + 1) rest T' N' (a.put o.dst v) →
        (∀ fin Tf Nf, (∀ t, o.dst = some t → fin.tmps[t]? = some v) → (∀ t ∈ T', t ∈ Tf) → (∀ t ∈ Tf, t ∈ T' ∨ ∃ m o', k + 1 ≤ m ∧ G m = some o' ∧ o'.dst = some t) → (∀ F ∈ Nf, F.at_ = k → F ∈ N') → caseW P ops C R fin Tf Nf k T N o a) →
        ∃ (fin : Act) (Tf : List Tmp) (Nf : List Fc), End Tf Nf fin ∧ fin.defers = a.defers ∧ fin.tmps.size = n ∧ (∀ t, (∀ m p, k ≤ m → G m = some p → p.dst ≠ some t) → fin.tmps[t]? = a.tmps[t]?) ∧ (∀ t ∈ T, t ∈ Tf) ∧
          (∀ t ∈ Tf, t ∈ T ∨ ∃ m o, k ≤ m ∧ G m = some o ∧ o.dst = some t) ∧ (∀ F ∈ N, F ∈ Nf) ∧ (∀ F ∈ Nf, F ∈ N ∨ (k ≤ F.at_ ∧ okF ops R G F)) ∧
          ∀ i o, k ≤ i → G i = some o → ∃ (b : Act) (Tb : List Tmp) (Nb : List Fc), (∀ t, (∀ m p, k ≤ m → m < i → G m = some p → p.dst ≠ some t) → b.tmps[t]? = a.tmps[t]?) ∧ (∀ t, (∀ m p, i ≤ m → G m = some p → p.dst ≠ some t) → b.tmps[t]? = fin.tmps[t]?) ∧
            b.tmps.size = n ∧ (∀ t ∈ Tb, t ∈ Tf ∧ ∃ m o', m < i ∧ G m = some o' ∧ o'.dst = some t) ∧ (∀ t ∈ Tf, t ∈ Tb ∨ ∃ m o', i ≤ m ∧ G m = some o' ∧ o'.dst = some t) ∧ (∀ F ∈ Nb, F ∈ Nf) ∧ caseW P ops C R fin Tf Nf i Tb Nb o b := by
      intro T' N' v hT1 hT2 hN1 hN2 hw hcase
      obtain ⟨fin, Tf, Nf, he, hdef, hfs, hs, hsub, hTf, hNsub, hNf, hrest⟩ := wpW_out (End := End) G n hd hn rest (k + 1) T' N' (a.put o.dst v) hl' (by rw [put_size]; exact hsz)
        (fun t ht => by
          rcases hT1 t ht with h1 | h1
          · obtain ⟨i, o', hi, ho', hdst⟩ := hT t h1
            exact ⟨i, o', by omega, ho', hdst⟩
          · exact ⟨k, o, by omega, hk, h1⟩) (fun F hF => by
          rcases hN1 F hF with h1 | h1
          · have := hN F h1; omega
          · have := h1.1; omega) hw
      have hfin : ∀ t, o.dst = some t → fin.tmps[t]? = some v := fun t ht => by
        rw [hs t (fun m p hm hp hpt => by have := hd k m o p t hk hp ht hpt; omega), ht]
        exact put_slot a t v (by rw [hsz]; exact hn k o t hk ht)
      refine ⟨fin, Tf, Nf, he, by rw [hdef, put_defs], hfs, fun t ht => ?_, fun t ht => hsub t (hT2 t ht), fun t ht => ?_, fun F hF => hNsub F (hN2 F hF), fun F hF => ?_, fun i o' hi ho' => ?_⟩
      · rw [hs t (fun m p hm hp => ht m p (by omega) hp), put_slot_ne a o.dst v t (ht k o (Nat.le_refl _) hk)]
      · rcases hTf t ht with h1 | ⟨m, o', hm, ho', hdst⟩
        · rcases hT1 t h1 with h2 | h2
          · exact .inl h2
          · exact .inr ⟨k, o, Nat.le_refl _, hk, h2⟩
        · exact .inr ⟨m, o', by omega, ho', hdst⟩
      · rcases hNf F hF with h1 | ⟨h1, h2⟩
        · rcases hN1 F h1 with h2 | ⟨h2, h3⟩
          · exact .inl h2
          · exact .inr ⟨by omega, h3⟩
        · exact .inr ⟨by omega, h2⟩
      · rcases Nat.lt_or_ge k i with hlt | hge
        · obtain ⟨b, Tb, Nb, f1, f2, f3, f4, f5, f6, f7⟩ := hrest i o' (by omega) ho'
          refine ⟨b, Tb, Nb, fun t ht => ?_, f2, f3, f4, f5, f6, f7⟩
          rw [f1 t (fun m p hm hmi hp => ht m p (by omega) hmi hp), put_slot_ne a o.dst v t (ht k o (Nat.le_refl _) hlt hk)]
        · obtain rfl : i = k := by omega
          rw [hk] at ho'
          injection ho' with ho'
          subst ho'
          refine ⟨a, T, N, fun _ _ => rfl, fun t ht => ?_, hsz, fun t ht => ⟨hsub t (hT2 t ht), hT t ht⟩, fun t ht => ?_, fun F hF => hNsub F (hN2 F hF), hcase fin Tf Nf hfin hsub hTf fun F hF hFk => ?_⟩
          · rw [hs t (fun m p hm hp => ht m p (by omega) hp), put_slot_ne a o.dst v t (ht i o (Nat.le_refl _) hk)]
          · rcases hTf t ht with h1 | ⟨m, o', hm, ho', hdst⟩
            · rcases hT1 t h1 with h2 | h2
              · exact .inl h2
              · exact .inr ⟨i, o, Nat.le_refl _, hk, h2⟩
            · exact .inr ⟨m, o', by omega, ho', hdst⟩
          · rcases hNf F hF with h1 | ⟨h1, _⟩
            · exact h1
            · omega
    have noT : ∀ (Tf : List Tmp) (t : Tmp), o.dst = some t → (∀ t ∈ Tf, t ∈ T ∨ ∃ m o', k + 1 ≤ m ∧ G m = some o' ∧ o'.dst = some t) → t ∉ Tf := by
      intro Tf t ht hTf hin
      rcases hTf _ hin with h1 | ⟨m, o', hm, ho', hdst⟩
      · obtain ⟨i, o', hi, ho', hdst⟩ := hT _ h1
        have := hd i k o' o t ho' hk hdst ht
        omega
      · have := hd m k o' o t ho' hk hdst ht
        omega
    obtain ⟨hg, h⟩ := h
    by_cases hwant : Region.wanted o (yielded ops a.tmps) = true
    · rw [if_pos hwant] at h
      rcases h with ⟨v, hv, hnext⟩ | ⟨D, hD, hF, hnext⟩
      · exact go T N v (fun _ h => .inl h) (fun _ h => h) (fun _ h => .inl h) (fun _ h => h) hnext fun fin Tf Nf hfin _ hTf hNk => ⟨hg, by
          rw [if_pos hwant]
          exact .inl ⟨v, hv, fun t ht => ⟨hfin t ht, noT Tf t ht hTf⟩, fun F hF hFk => by have := hN F (hNk F hF hFk); omega⟩⟩
      · refine go _ _ undef (fun t ht => ?_) (fun t ht => List.mem_append_right _ ht) (fun F hF => ?_) (fun F hF => List.mem_append_right _ hF) hnext fun fin Tf Nf hfin hsub hTf hNk => ⟨hg, ?_⟩
        · rcases List.mem_append.1 ht with h1 | h1
          · exact .inr (by simpa using h1)
          · exact .inl h1
        · rcases List.mem_append.1 hF with h1 | h1
          · obtain ⟨d, hd1, rfl⟩ := List.mem_map.1 h1
            refine .inr ⟨rfl, o, hk, fun t ht => ?_, (hD d hd1).2⟩
            rcases (hD d hd1).1 t ht with h2 | ⟨h2, h3⟩
            · exact .inl h2
            · obtain ⟨m, q, hm, hq, hqt⟩ := hT t h2
              exact .inr ⟨h3, m, q, hm, hq, hqt⟩
          · exact .inl h1
        · rw [if_pos hwant]
          refine .inr ⟨D, hF, fun t ht => hsub t (List.mem_append_left _ (by simp [ht])), fun F hF hFk => ?_⟩
          rcases List.mem_append.1 (hNk F hF hFk) with h1 | h1
          · obtain ⟨d, hd1, rfl⟩ := List.mem_map.1 h1
            exact ⟨d, hd1, rfl⟩
          · have := hN F h1; omega
    · rw [if_neg hwant] at h
      exact go T N undef (fun _ h => .inl h) (fun _ h => h) (fun _ h => .inl h) (fun _ h => h) h fun fin Tf Nf hfin _ hTf hNk => ⟨hg, by
        rw [if_neg hwant]
        exact ⟨fun t ht => ⟨hfin t ht, noT Tf t ht hTf⟩, fun F hF hFk => by have := hN F (hNk F hF hFk); omega⟩⟩
def flowJ (G : Nat → Option Oper) (a0 fin : Act) (Tf : List Tmp) (Nf : List Fc) (listed : Array Bool) (a : Act) (w : World) : Prop :=
  C w ∧ a.defers = a0.defers ∧ a.tmps.size = a0.tmps.size ∧ listed.size = ops.size ∧
  (∀ (t : Tmp), (∀ (j : Nat) (p : Oper), G j = some p → p.dst = some t → listed.getD j false = false) → a.tmps[t]? = a0.tmps[t]?) ∧
  (∀ (j : Nat) (p : Oper) (t : Tmp), G j = some p → p.dst = some t → listed.getD j false = true → t ∉ Tf → a.tmps[t]? = fin.tmps[t]?) ∧
  (∀ F ∈ Nf, listed.getD F.at_ false = true → F.says (F.dep.map (slotv a)) w) ∧
  (∀ (j : Nat) (p : Oper), G j = some p → listed.getD j false = true → ∀ e ∈ p.after, Region.binds .any e = true → listed.getD e.on false = true)
theorem flowJ_step {G : Nat → Option Oper} (hG : ∀ i o, G i = some o → ops[i]? = some o) {a0 fin : Act} (spec : flowB ops a0.tmps.size = true) {Tf : List Tmp} {Nf : List Fc} {listed : Array Bool} {a : Act} {w w' : World} (hd : ∀ (i j : Nat) (o p : Oper) (t : Tmp), G i = some o → G j = some p → o.dst = some t → p.dst = some t → i = j)
    (hn : ∀ (i : Nat) (o : Oper) (t : Tmp), G i = some o → o.dst = some t → t < a0.tmps.size) (hNf : ∀ F ∈ Nf, okF ops R G F)
    (h : flowJ ops C G a0 fin Tf Nf listed a w) {i : Nat} {o : Oper} (ho : G i = some o) (hil : listed.getD i false = false) (hall : ∀ e ∈ o.after, Region.binds .any e = true → listed.getD e.on false = true) (hC : C w') (hR : R w w') (u : Value)
    (hu : ∀ t, o.dst = some t → t ∉ Tf → fin.tmps[t]? = some u) (hF : ∀ F ∈ Nf, F.at_ = i → F.says (F.dep.map (updW (slotv a) o.dst u)) w') : flowJ ops C G a0 fin Tf Nf (listed.setIfInBounds i true) (a.put o.dst u) w' := by
  obtain ⟨_, h1, h2, h3, hU, hL, hFF, hD⟩ := h
  have hi : i < listed.size := by rw [h3]; exact (Array.getElem?_eq_some_iff.1 (hG i o ho)).1
  have hself : (listed.setIfInBounds i true).getD i false = true := by simp [hi]
  refine ⟨hC, by rw [put_defs]; exact h1, by rw [put_size]; exact h2, by simpa using h3, fun t ht => ?_, fun j p t hj hp hl hTf => ?_, fun F hFm hl => ?_, fun j p hj hl e he hb => ?_⟩
  · have hne : o.dst ≠ some t := fun e => by
      have := ht i o ho e
      rw [hself] at this
      cases this
    rw [put_slot_ne a o.dst u t hne]
    refine hU t fun j p hj hp => ?_
    have := ht j p hj hp
    by_cases e : i = j
    · subst e; rw [hself] at this; cases this
    · rwa [getD_set_ne false e] at this
  · by_cases e : i = j
    · subst e
      rw [ho] at hj
      injection hj with hj
      subst hj
      rw [hp, put_slot a t u (by rw [h2]; exact hn i o t ho hp), hu t hp hTf]
    · rw [getD_set_ne false e] at hl
      rw [put_slot_ne a o.dst u t (fun h => e (hd i j o p t ho hj h hp))]
      exact hL j p t hj hp hl hTf
  · by_cases e : i = F.at_
    · have := hF F hFm e.symm
      have hm : F.dep.map (slotv (a.put o.dst u)) = F.dep.map (updW (slotv a) o.dst u) := List.map_congr_left fun t ht => by
        unfold updW
        by_cases hdt : o.dst = some t
        · rw [if_pos hdt]
          unfold slotv
          rw [Array.getD_eq_getD_getElem?, hdt, put_slot a t u (by rw [h2]; exact hn i o t ho hdt), Option.getD_some]
        · rw [if_neg hdt]
          unfold slotv
          rw [Array.getD_eq_getD_getElem?, Array.getD_eq_getD_getElem?, put_slot_ne a o.dst u t hdt]
      rw [hm]
      exact this
    · rw [getD_set_ne false e] at hl
      obtain ⟨p, hp, hdep, hst⟩ := hNf F hFm
      have hold := hst _ _ _ hR (hFF F hFm hl)
      have hm : F.dep.map (slotv (a.put o.dst u)) = F.dep.map (slotv a) := List.map_congr_left fun t ht => by
        have hne : o.dst ≠ some t := fun hdt => by
          rcases hdep t ht with h4 | ⟨h4, m, q, hm, hq, hqt⟩
          · exact e (hd i F.at_ o p t ho hp hdt h4)
          · obtain rfl : i = m := hd i m o q t ho hq hdt hqt
            rcases ((flowB_spec spec (hG _ _ hp)).2.2 i q (hG _ _ hq) (by omega)).2 with h5 | ⟨e', he', hb', hon⟩ | ⟨e', he', hb', hon⟩
            · exact h5 t hqt h4
            · have := hD F.at_ p hp hl e' he' hb'
              rw [hon, hil] at this
              cases this
            · have := (flowB_spec spec (hG _ _ hq)).1 e' he' hb'
              omega
        unfold slotv
        rw [Array.getD_eq_getD_getElem?, Array.getD_eq_getD_getElem?, put_slot_ne a o.dst u t hne]
      rw [hm]
      exact hold
  · by_cases e' : i = j
    · subst e'
      rw [ho] at hj
      injection hj with hj
      subst hj
      exact getD_set_true (hall e he hb)
    · rw [getD_set_ne false e'] at hl
      exact getD_set_true (hD j p hj hl e he hb)
end
def reachB (ops : Array Oper) : Nat → Oper → Nat → Bool
  | 0, o, i => o.after.any fun e => Region.binds .any e && e.on == i
  | f + 1, o, i => (o.after.any fun e => Region.binds .any e && e.on == i) || o.after.any fun e => Region.binds .any e && decide (i < e.on) && (match ops[e.on]? with
    | some p => reachB ops f p i
    | none => false)
/-- an operation waits for another one, at once or through others -/
inductive ReachO (ops : Array Oper) : Oper → Nat → Prop
  | one {o : Oper} {e : Edge} : e ∈ o.after → Region.binds .any e = true → ReachO ops o e.on
  | more {o p : Oper} {e : Edge} {i : Nat} : e ∈ o.after → Region.binds .any e = true → ops[e.on]? = some p → ReachO ops p i → ReachO ops o i
theorem reachB_spec {ops : Array Oper} : ∀ (f : Nat) (o : Oper) (i : Nat), reachB ops f o i = true → ReachO ops o i := by
  intro f
  induction f with
  | zero =>
    intro o i h
    unfold reachB at h
    obtain ⟨e, he, hb⟩ := Array.any_eq_true'.1 h
    simp only [Bool.and_eq_true, beq_iff_eq] at hb
    obtain ⟨hb, rfl⟩ := hb
    exact .one he hb
  | succ f ih =>
    intro o i h
    unfold reachB at h
    rw [Bool.or_eq_true] at h
    rcases h with h | h
    · obtain ⟨e, he, hb⟩ := Array.any_eq_true'.1 h
      simp only [Bool.and_eq_true, beq_iff_eq] at hb
      obtain ⟨hb, rfl⟩ := hb
      exact .one he hb
    · obtain ⟨e, he, hb⟩ := Array.any_eq_true'.1 h
      simp only [Bool.and_eq_true, decide_eq_true_eq] at hb
      obtain ⟨⟨hb1, _⟩, hb3⟩ := hb
      cases hq : ops[e.on]? with
      | none => rw [hq] at hb3; cases hb3
      | some q => rw [hq] at hb3; exact .more he hb1 hq (ih q i hb3)
theorem ReachO.keeps {ops : Array Oper} {L : Nat → Prop} (hstep : ∀ (j : Nat) (p : Oper), ops[j]? = some p → L j → ∀ f ∈ p.after, Region.binds .any f = true → L f.on) {o : Oper} {i : Nat} (h : ReachO ops o i) : (∀ e ∈ o.after, Region.binds .any e = true → L e.on) → L i := by
  induction h with
  | one he hb => exact fun hall => hall _ he hb
  | more he hb hp _ ih => exact fun hall => ih (hstep _ _ hp (hall _ he hb))
def restB (ops : Array Oper) (n : Nat) : Bool := decide (n ≤ ops.size) && (List.range ops.size).all fun j => decide (j < n) || (match ops[j]? with
  | some o => (List.range j).all fun i => reachB ops 4 o i || reachB ops 12 o i
  | none => false)
theorem restB_spec {ops : Array Oper} {n : Nat} (h : restB ops n = true) : n ≤ ops.size ∧ ∀ j o, n ≤ j → ops[j]? = some o → ∀ i, i < j → ReachO ops o i := by
  unfold restB at h
  rw [Bool.and_eq_true, decide_eq_true_eq, List.all_eq_true] at h
  refine ⟨h.1, fun j o hnj ho i hij => ?_⟩
  have h1 := h.2 j (List.mem_range.2 (Array.getElem?_eq_some_iff.1 ho).1)
  rw [Bool.or_eq_true, decide_eq_true_eq, ho] at h1
  rcases h1 with h1 | h1
  · omega
  simp only [List.all_eq_true, List.mem_range] at h1
  have h2 := h1 i hij
  rw [Bool.or_eq_true] at h2
  rcases h2 with h2 | h2 <;> exact reachB_spec _ _ _ h2
/-- ONE WALK IN THE ORDER OF THE TEXT serves every order; from the n-th operation on they may do whatever they like. -/
theorem any_flow (n : Nat) (S : World → Prop) (R : World → World → Prop) {P : Program} {Q : Exit → Act → World → Prop} {a : Act} {w : World} {l : List Oper} (hm : P.follows .mixedOrders = true) (hB : flowB l.toArray a.tmps.size = true) (hLast : restB l.toArray n = true) (hRr : ∀ w, R w w) (hS : S w.drew)
    (h : wpW P l.toArray S R (fun T N b => ∀ w' f, S w' → (∀ F ∈ N, F.says (F.dep.map f) w') → wpList P l.toArray Q (l.drop n) (fillW T f b) w') 0 (l.take n) [] [] a) : wpAny P .any l.toArray Q l.toArray.size (Array.replicate l.toArray.size false) a { w with drawn := w.drawn + 1 } := by
  have spec := fun i o => flowB_spec (i := i) (o := o) hB
  obtain ⟨hsize, hT⟩ := restB_spec hLast
  have hll : n ≤ l.length := by simpa using hsize
  obtain ⟨G, hGd⟩ : ∃ G : Nat → Option Oper, G = fun m => if m < n then l.toArray[m]? else none := ⟨_, rfl⟩
  have hG : ∀ i o, G i = some o → l.toArray[i]? = some o := fun i o h => by
    rw [hGd] at h
    by_cases hi : i < n
    · simpa [hi] using h
    · simp [hi] at h
  have hGlt : ∀ i o, G i = some o → i < n := fun i o h => by
    rw [hGd] at h
    by_cases hi : i < n
    · exact hi
    · simp [hi] at h
  have hGof : ∀ i o, i < n → l.toArray[i]? = some o → G i = some o := fun i o hi h => by rw [hGd]; simpa [hi] using h
  have hd : ∀ (i j : Nat) (o p : Oper) (t : Tmp), G i = some o → G j = some p → o.dst = some t → p.dst = some t → i = j := by
    intro i j o p t ho hp hot hpt
    have ho := hG _ _ ho
    have hp := hG _ _ hp
    apply Classical.byContradiction
    intro hne
    exact ((spec i o ho).2.2 j p hp (Ne.symm hne)).1 t hot hpt
  have hn : ∀ (i : Nat) (o : Oper) (t : Tmp), G i = some o → o.dst = some t → t < a.tmps.size := fun i o t ho ht => ((spec i o (hG _ _ ho)).2.1 t ht).1
  have hsel : ∀ (j : Nat) (o : Oper) cs b, l.toArray[j]? = some o → o.op ≠ .select cs b := Region.noSelect_spec (by unfold flowB at hB; rw [Bool.and_eq_true] at hB; exact hB.1)
  obtain ⟨fin, Tf, Nf, hEnd, hdef, hfs, hun, _, hTf, _, hNf0, hops⟩ := wpW_out P l.toArray S R G a.tmps.size hd hn (l.take n) 0 [] [] a (fun j => by rw [hGd, Nat.zero_add]; by_cases hj : j < n <;> simp [hj]; omega) rfl (fun p h => by cases h) (fun p h => by cases h) h
  have hNf : ∀ F ∈ Nf, okF l.toArray R G F := fun F hF => by
    rcases hNf0 F hF with h1 | h1
    · cases h1
    · exact h1.2
  have hTw : ∀ t ∈ Tf, ∃ m o, G m = some o ∧ o.dst = some t := fun t ht => by
    rcases hTf t ht with h1 | ⟨m, o, _, h2, h3⟩
    · cases h1
    · exact ⟨m, o, h2, h3⟩
  -- all that stands ahead of n is done: what is told at the walk's end holds
  have atEnd : ∀ (listed : Array Bool) (a' : Act) (w1 : World), flowJ l.toArray S G a fin Tf Nf listed a' w1 → (∀ (j : Nat) (p : Oper), G j = some p → listed.getD j false = true) → wpList P l.toArray Q (l.drop n) a' w1 := by
    intro listed a' w1 ⟨hC1, hdf, hsz, hls, hU, hL, hFF, hD⟩ hallj
    have h1 := hEnd w1 (slotv a') hC1 fun F hF => hFF F hF (by obtain ⟨p, hp, _⟩ := hNf F hF; exact hallj _ p hp)
    have e : a' = fillW Tf (slotv a') fin := by
      obtain ⟨at_, ad⟩ := a'
      have e1 : ad = (fillW Tf (slotv ⟨at_, ad⟩) fin).defers := by rw [fillW_defs, hdef]; exact hdf
      have e2 : at_ = (fillW Tf (slotv ⟨at_, ad⟩) fin).tmps := Array.ext_getElem? fun t => by
        by_cases ht : t ∈ Tf
        · obtain ⟨m, o, hm, hmt⟩ := hTw t ht
          have hlt := hn m o t hm hmt
          rw [fillW_in _ Tf fin t ht (by rw [hfs]; exact hlt)]
          exact slotv_some (a := ⟨at_, ad⟩) (by rw [hsz]; exact hlt)
        · rw [fillW_out _ Tf fin t ht]
          by_cases hw : ∃ (j : Nat) (p : Oper), G j = some p ∧ p.dst = some t
          · obtain ⟨j, p, hj, hp⟩ := hw
            exact hL j p t hj hp (hallj j p hj) ht
          · rw [show at_[t]? = a.tmps[t]? from hU t (fun m q hq hqt => (hw ⟨m, q, hq, hqt⟩).elim), hun t (fun m q _ hq hqt => hw ⟨m, q, hq, hqt⟩)]
      generalize fillW Tf (slotv ⟨at_, ad⟩) fin = z at *
      obtain ⟨zt, zd⟩ := z
      simp only at e1 e2
      rw [e1, e2]
    rw [e]
    exact h1
  refine wpAny_inv P l.toArray (tailJ P l Q n (flowJ l.toArray S G a fin Tf Nf)) (fun listed a' w1 hJ i hi => ?_) (fun listed a' w1 hJ hr => ?_) _ _ _ _ (.inl ⟨fun j _ => replicate_false _ _, hS, rfl, rfl, by simp, fun _ _ => rfl, fun j p t hj _ hl => ?_, fun F hF hl => ?_, fun j p hj hl => ?_⟩) (by simp)
  · -- a step
    obtain ⟨hun_i, o, ho', hall⟩ := mem_ready.1 hi
    have hil0 : listed.getD i false = false := by
      obtain ⟨hl, hf⟩ := ready_false l.toArray hi
      simp [hl, hf]
    have hin : i < l.length := by have := (Array.getElem?_eq_some_iff.1 ho').1; simpa using this
    rcases hJ with ⟨hnl, hJ⟩ | ⟨m, hnm, hml, hsz2, hli, hq⟩
    case inr =>
      have him : i = m := by
        rw [hli i hin, decide_eq_false_iff_not] at hil0
        rcases Nat.lt_or_ge m i with h | h
        · exfalso
          have := (hT i o (by omega) ho' m h).keeps (L := fun k => k < m) (fun j p hp hj f hf hfb => by have := (spec j p hp).1 f hf hfb; omega) (fun e he hb => by
            have := hall e he hb
            have hel : e.on < l.length := by have := (spec i o ho').1 e he hb; omega
            rw [hli _ hel, decide_eq_true_eq] at this
            exact this)
          omega
        · omega
      subst him
      rw [drop_step ho'] at hq
      refine wpOp_of_list ho' hq fun a2 w2 h2 => .inr ⟨i + 1, by omega, by omega, by simp [hsz2], fun j hj => ?_, h2⟩
      by_cases e : i = j
      · subst e
        have : i < listed.size := by omega
        simp [this]
      · rw [getD_set_ne false e, hli j hj]
        congr 1
        apply propext
        omega
    by_cases hlt_n : i < n
    case neg =>
      have hJ0 := hJ
      obtain ⟨hC1, hdf, hsz, hls, hU, hL, hFF, hD⟩ := hJ
      have hbefore : ∀ k, k < i → listed.getD k false = true := fun k hk => by
        refine (hT i o (by omega) ho' k hk).keeps (L := fun k => listed.getD k false = true) (fun j p hp hj f hf hfb => ?_) (fun e he hb => hall e he hb)
        rcases Nat.lt_or_ge j n with h | h
        · exact hD j p (hGof _ _ h hp) hj f hf hfb
        · rw [hnl _ h] at hj; cases hj
      obtain rfl : i = n := by
        rcases Nat.lt_or_ge n i with h | h
        · have := hbefore n h
          rw [hnl n (Nat.le_refl _)] at this
          cases this
        · omega
      have hallj : ∀ (j : Nat) (p : Oper), G j = some p → listed.getD j false = true := fun j p hj => hbefore j (hGlt j p hj)
      have hq := atEnd listed a' w1 hJ0 hallj
      rw [drop_step ho'] at hq
      refine wpOp_of_list ho' hq fun a2 w2 h2 => .inr ⟨i + 1, by omega, by omega, by simp [hls], fun j hj => ?_, h2⟩
      by_cases e : i = j
      · subst e
        have : i < listed.size := by rw [hls]; simpa using hin
        simp [this]
      · rw [getD_set_ne false e]
        rcases Nat.lt_or_ge j i with h | h
        · rw [hbefore j h]; simp; omega
        · rw [hnl j h]; simp; omega
    have ho : G i = some o := hGof i o hlt_n ho'
    have hkeep : ∀ a2 w2, flowJ l.toArray S G a fin Tf Nf (listed.setIfInBounds i true) a2 w2 → tailJ P l Q n (flowJ l.toArray S G a fin Tf Nf) (listed.setIfInBounds i true) a2 w2 := fun a2 w2 h => .inl ⟨fun j hj => by rw [getD_set_ne false (by omega)]; exact hnl j hj, h⟩
    obtain ⟨b, Tb, Nb, f1, f2, f3, f4, f5, f6, hguard, hcase⟩ := hops i o (Nat.zero_le _) ho
    obtain ⟨hC1, hdf, hsz, hls, hU, hL, hFF, hD⟩ := hJ
    have hJ : flowJ l.toArray S G a fin Tf Nf listed a' w1 := ⟨hC1, hdf, hsz, hls, hU, hL, hFF, hD⟩
    -- what is looked at
    have writer : ∀ t ∈ o.looksAt l.toArray, ∀ (j : Nat) (p : Oper), G j = some p → p.dst = some t → (j < i ∧ listed.getD j false = true) ∨ (i < j ∧ listed.getD j false = false) := by
      intro t ht j p hj hp
      have hne : j ≠ i := by
        rintro rfl
        rw [ho] at hj
        injection hj with hj
        subst hj
        exact ((spec j o (hG _ _ ho)).2.1 t hp).2 ht
      rcases ((spec i o ho').2.2 j p (hG _ _ hj) hne).2 with h1 | ⟨e, he, hb, rfl⟩ | ⟨e, he, hb, hei⟩
      · exact absurd ht (h1 t hp)
      · exact .inl ⟨(spec i o ho').1 e he hb, hall e he hb⟩
      · refine .inr ⟨by have := (spec j p (hG _ _ hj)).1 e he hb; omega, ?_⟩
        cases hlj : listed.getD j false with
        | false => rfl
        | true =>
          have := hD j p hj hlj e he hb
          rw [hei, hil0] at this
          cases this
    have agree : ∀ t ∈ o.looksAt l.toArray, t ∉ Tb → a'.tmps[t]? = b.tmps[t]? := by
      intro t ht hNb
      by_cases hw : ∃ (j : Nat) (p : Oper), G j = some p ∧ p.dst = some t
      · obtain ⟨j, p, hj, hp⟩ := hw
        rcases writer t ht j p hj hp with ⟨hlt, hlj⟩ | ⟨hlt, hlj⟩
        · rw [f2 t (fun m q hm hq hqt => by have := hd m j q p t hq hj hqt hp; omega)]
          refine hL j p t hj hp hlj fun hF => ?_
          rcases f5 _ hF with h1 | ⟨m, q, hm, hq, hqt⟩
          · exact hNb h1
          · have := hd m j q p t hq hj hqt hp
            omega
        · rw [hU t (fun m q hq hqt => by have := hd m j q p t hq hj hqt hp; rw [this]; exact hlj), f1 t (fun m q _ hm hq hqt => by have := hd m j q p t hq hj hqt hp; omega)]
      · rw [hU t (fun m q hq hqt => (hw ⟨m, q, hq, hqt⟩).elim), f1 t (fun m q _ hm hq hqt => hw ⟨m, q, hq, hqt⟩)]
    have hwant : Region.wanted o (yielded l.toArray a'.tmps) = Region.wanted o (yielded l.toArray b.tmps) := by
      refine wanted_congr fun g x t hg ht => agree t ?_ fun hF => ?_
      · unfold Oper.looksAt
        refine List.mem_append_right _ ?_
        rw [hg]
        show t ∈ ((l.toArray[g]?).bind (·.dst)).toList
        rw [ht]
        simp
      · unfold guardW at hguard
        rw [hg] at hguard
        simp only [ht] at hguard
        have := List.all_eq_true.1 hguard _ hF
        simp at this
    have he : execOp a'.eval o = execOp (fillW Tb (slotv a') b).eval o := exec_congr (fun cs x => hsel i o cs x ho') fun t ht => by
      by_cases hb : t ∈ Tb
      · obtain ⟨_, m, q, _, hq, hqt⟩ := f4 t hb
        have hlt := hn m q t hq hqt
        rw [fillW_in _ Tb b t hb (by rw [f3]; exact hlt)]
        exact slotv_some (by rw [hsz]; exact hlt)
      · rw [fillW_out _ Tb b t hb]
        exact agree t ht hb
    have hkn : knownW o Nb (slotv a') w1 := fun F hF hw => by
      obtain ⟨e, he, hb⟩ := List.any_eq_true.1 hw
      simp only [Bool.and_eq_true, beq_iff_eq] at hb
      exact hFF F (f6 F hF) (by rw [← hb.2]; exact hall e (by simpa using he) hb.1)
    unfold wpOp
    simp only [ho']
    rw [hwant]
    by_cases hw : Region.wanted o (yielded l.toArray b.tmps) = true
    · rw [if_pos hw]
      rw [if_pos hw] at hcase
      refine .inl ?_
      rcases hcase with ⟨v, hv, hres, hno⟩ | ⟨D, hDv, hin2, hDk⟩
      · refine wp_of_gives (gives_congr he (hv w1 (slotv a') hC1 hkn)) fun u w2 ⟨hu, hC2, hR⟩ => hkeep _ _ <| flowJ_step l.toArray S R hG hB hd hn hNf hJ ho hil0 hall hC2 hR u (fun t ht _ => ?_) fun F hF hFk => absurd hFk (hno F hF)
        subst hu
        exact (hres t ht).1
      · refine wp_of_gives (gives_congr he (hDv w1 (slotv a') hC1 hkn)) fun u w2 ⟨hu, hC2, hR⟩ => hkeep _ _ <| flowJ_step l.toArray S R hG hB hd hn hNf hJ ho hil0 hall hC2 hR u (fun t ht hno => absurd (hin2 t ht) hno) fun F hF hFk => ?_
        obtain ⟨d, hd1, rfl⟩ := hDk F hF hFk
        exact hu d hd1
    · rw [if_neg hw]
      rw [if_neg hw] at hcase
      exact hkeep _ _ <| flowJ_step l.toArray S R hG hB hd hn hNf hJ ho hil0 hall hC1 (hRr w1) undef (fun t ht _ => (hcase.1 t ht).1) fun F hF hFk => absurd hFk (hcase.2 F hF)
  · -- the end
    rcases hJ with ⟨hnl, hJ0⟩ | ⟨m, hnm, hml, hsz2, hli, hq⟩
    case inr =>
      rcases Nat.lt_or_ge m l.length with h | h
      · exfalso
        have hms : m < l.toArray.size := by simpa using h
        have : m ∈ Region.ready .any l.toArray listed := mem_ready.2 ⟨by
          have h1 := hli m h
          have h2 : m < listed.size := by omega
          simpa [h2] using h1, _, Array.getElem?_eq_getElem hms, fun e he hb => by
            have hlt := (spec m _ (Array.getElem?_eq_getElem hms)).1 e he hb
            rw [hli e.on (by omega), decide_eq_true_eq]
            exact hlt⟩
        rw [hr] at this
        cases this
      · rw [List.drop_of_length_le h] at hq
        simpa [wpList] using hq
    have hJ1 := hJ0
    obtain ⟨hC1, hdf, hsz, hls, hU, hL, hFF, hD⟩ := hJ0
    have hallj : ∀ (j : Nat) (p : Oper), G j = some p → listed.getD j false = true := by
      intro j
      induction j using Nat.strongRecOn with
      | _ j ih =>
        intro p hp
        cases hlj : listed.getD j false with
        | true => rfl
        | false =>
          exfalso
          have hjl : j < listed.size := by rw [hls]; exact (Array.getElem?_eq_some_iff.1 (hG _ _ hp)).1
          have : j ∈ Region.ready .any l.toArray listed := mem_ready.2 ⟨by simpa [hjl] using hlj, p, hG _ _ hp, fun e he hb => by
            have hlt := (spec j p (hG _ _ hp)).1 e he hb
            have hjn := hGlt j p hp
            have hel : e.on < l.toArray.size := by omega
            exact ih e.on hlt _ (hGof e.on _ (by omega) (Array.getElem?_eq_getElem hel))⟩
          rw [hr] at this
          cases this
    rcases Nat.lt_or_ge n l.length with hlt | hge
    · exfalso
      have hns : n < l.toArray.size := by simpa using hlt
      have hnl2 : n < listed.size := by rw [hls]; exact hns
      have : n ∈ Region.ready .any l.toArray listed := mem_ready.2 ⟨by have h1 := hnl n (Nat.le_refl _); simpa [hnl2] using h1, _, Array.getElem?_eq_getElem hns, fun e he hb => by
        have hlt := (spec n _ (Array.getElem?_eq_getElem hns)).1 e he hb
        have hel : e.on < l.toArray.size := by omega
        exact hallj e.on _ (hGof e.on _ hlt (Array.getElem?_eq_getElem hel))⟩
      rw [hr] at this
      cases this
    · have hq := atEnd listed a' w1 hJ1 hallj
      rw [List.drop_of_length_le hge] at hq
      simpa [wpList] using hq
  · rw [replicate_false] at hl; cases hl
  · rw [replicate_false] at hl; cases hl
  · rw [replicate_false] at hl; cases hl
theorem wp_region_flow (n : Nat) (S : World → Prop) (R : World → World → Prop) {P : Program} {id : Nat} {Q : Exit → Act → World → Prop} {a : Act} {w : World} {l : List Oper} (hm : P.follows .mixedOrders = true) (hB : flowB l.toArray a.tmps.size = true) (hLast : restB l.toArray n = true) (hRr : ∀ w, R w w) (hS : S w.drew)
    (h : wpW P l.toArray S R (fun T N b => ∀ w' f, S w' → (∀ F ∈ N, F.says (F.dep.map f) w') → wpList P l.toArray Q (l.drop n) (fillW T f b) w') 0 (l.take n) [] [] a) : (Code.region id l.toArray true).wp P Q a w :=
  wp_region_any hm (any_flow n S R hm hB hLast hRr hS h)
end Go.Proofs.Ytengegcnocdkoaa
end
section
namespace Go.Proofs.Ytengegcnocdkoaa
open Go.RowKit
section
variable {P : Program} {ops : Array Oper} {S : World → Prop} {R : World → World → Prop} {End : List Tmp → List Fc → Act → Prop} {rest : List Oper} {k : Nat} {T : List Tmp} {N : List Fc} {a : Act} {o : Oper}
def plainW (ops : Array Oper) (T : List Tmp) (o : Oper) : Bool := (o.looksAt ops).all fun t => T.all fun s => s != t
theorem exec_plain (hns : ∀ cs x, o.op ≠ .select cs x) (hp : plainW ops T o = true) (f : Tmp → Value) : execOp (fillW T f a).eval o = execOp a.eval o :=
  exec_congr (ops := ops) hns fun t ht => fillW_out f T a t fun hT => by
    have := List.all_eq_true.1 (List.all_eq_true.1 hp t ht) t hT
    simp at this
theorem noEnter_select (h : noEnterB o = true) : ∀ cs x, o.op ≠ .select cs x := fun cs x e => by unfold noEnterB at h; rw [e] at h; cases h
theorem flow_nil (h : End T N a) : wpW P ops S R End k [] T N a := h
theorem flow_skip {d : Option Tmp} {op : Op} {t : TypeId} {ps : String} {af : Array Edge} {g : Option (Nat × Bool)} (hg : guardW ops T { dst := d, op := op, type := t, pos := ps, after := af, guard := g } = true) (hw : Region.wanted { dst := d, op := op, type := t, pos := ps, after := af, guard := g } (yielded ops a.tmps) = false) (w0 : World)
    (h : ∀ K : Act → Prop, (∀ a, wpW P ops S R End (k + 1) rest T N a → K a) → Oper.quiet P { dst := d, op := .assign (.const undef), type := t, pos := "", after := #[], guard := none } a (fun _ => True) K) : wpW P ops S R End k ({ dst := d, op := op, type := t, pos := ps, after := af, guard := g } :: rest) T N a :=
  ⟨hg, by rw [if_neg (by rw [hw]; exact Bool.false_ne_true)]; exact on_value t h w0⟩
theorem flow_quiet (hRr : ∀ w, R w w) (hg : guardW ops T o = true) (hw : Region.wanted o (yielded ops a.tmps) = true) (hp : plainW ops T o = true) (hne : noEnterB o = true)
    (h : ∀ K : Act → Prop, (∀ a, wpW P ops S R End (k + 1) rest T N a → K a) → o.quiet P a (fun w' => ∃ x : Cls S, w' = x.w) K) : wpW P ops S R End k (o :: rest) T N a := by
  obtain ⟨v, hv, hn⟩ := h _ (fun _ h => h)
  refine ⟨hg, ?_⟩
  rw [if_pos hw]
  refine .inl ⟨v, fun w f hS _ => gives_congr (exec_plain (noEnter_select hne) hp f) ?_, hn⟩
  have h1 := hv w ⟨⟨w, hS⟩, rfl⟩
  unfold Oper.quietAt at h1
  unfold gives
  have hno := fun f args w' => noEnter (P := P) (a := a) (w := w) (w' := w') (f := f) (args := args) hne
  generalize (execOp a.eval o).run P w = r at *
  cases r with
  | ok n w' =>
    cases n <;> simp only [Oper.quietUpon] at h1 <;> simp only
    case value u => obtain ⟨rfl, rfl⟩ := h1; exact ⟨rfl, hS, hRr _⟩
    case skip => obtain ⟨rfl, rfl⟩ := h1; exact ⟨rfl, hS, hRr _⟩
    case enter f args => exact absurd rfl (hno f args w')
  | halt x w' => simp only [Oper.quietUpon] at h1
/-- a call whose value is told ahead -/
theorem flow_call {d : Option Tmp} {f : FuncId} {xs : Array Operand} {ts : Array TypeId} {t : TypeId} {ps : String} {af : Array Edge} {g : Option (Nat × Bool)}
    (hcf : ∀ (vals : Array Value) (w : World), (callFunc f vals).run P w = .ok (.enter f vals) w) (vals : Array Value) (hv : xs.map a.eval = vals)
    (hg : guardW ops T { dst := d, op := .call { callee := .value (.func f), args := xs, argTypes := ts }, type := t, pos := ps, after := af, guard := g } = true)
    (hw : Region.wanted { dst := d, op := .call { callee := .value (.func f), args := xs, argTypes := ts }, type := t, pos := ps, after := af, guard := g } (yielded ops a.tmps) = true)
    (hp : plainW ops T { dst := d, op := .call { callee := .value (.func f), args := xs, argTypes := ts }, type := t, pos := ps, after := af, guard := g } = true) (v : Value)
    (hc : ∀ x : Cls S, Calls P f vals x.w fun e w'' => e = .returned v ∧ S w'' ∧ R x.w w'') (w0 : World)
    (h : ∀ K : Act → Prop, (∀ a, wpW P ops S R End (k + 1) rest T N a → K a) → Oper.quiet P { dst := d, op := .assign (.const v), type := t, pos := "", after := #[], guard := none } a (fun _ => True) K) :
    wpW P ops S R End k ({ dst := d, op := .call { callee := .value (.func f), args := xs, argTypes := ts }, type := t, pos := ps, after := af, guard := g } :: rest) T N a := by
  refine ⟨hg, ?_⟩
  rw [if_pos hw]
  refine .inl ⟨v, fun w f' hS _ => gives_congr (exec_plain (fun _ _ e => by cases e) hp f') ?_, on_value t h w0⟩
  have he : (execOp a.eval { dst := d, op := .call { callee := .value (.func f), args := xs, argTypes := ts }, type := t, pos := ps, after := af, guard := g }).run P w = .ok (.enter f vals) w := by
    simp [execOp, resolve, Act.eval, Deferred.ofValue, invoke, hcf, ← hv]
  unfold gives
  rw [he]
  exact (hc ⟨w, hS⟩).mono fun e w'' ⟨he, hs, hr⟩ => ⟨v, he, rfl, hs, hr⟩
/-- an operation whose slot is told by a fact from then on -/
theorem flow_fact {d : Tmp} {op : Op} {t : TypeId} {ps : String} {af : Array Edge} {g : Option (Nat × Bool)} (φ : List Value → World → Prop) (hst : ∀ l w w', R w w' → φ l w → φ l w')
    (hrun : ∀ w f, S w → knownW { dst := some d, op := op, type := t, pos := ps, after := af, guard := g } N f w → gives P { dst := some d, op := op, type := t, pos := ps, after := af, guard := g } (fillW T f a) w fun u w' => φ [u] w' ∧ S w' ∧ R w w')
    (hg : guardW ops T { dst := some d, op := op, type := t, pos := ps, after := af, guard := g } = true) (hw : Region.wanted { dst := some d, op := op, type := t, pos := ps, after := af, guard := g } (yielded ops a.tmps) = true) (w0 : World)
    (h : ∀ K : Act → Prop, (∀ a, wpW P ops S R End (k + 1) rest (d :: T) (⟨k, [d], φ⟩ :: N) a → K a) → Oper.quiet P { dst := some d, op := .assign (.const undef), type := t, pos := "", after := #[], guard := none } a (fun _ => True) K) :
    wpW P ops S R End k ({ dst := some d, op := op, type := t, pos := ps, after := af, guard := g } :: rest) T N a := by
  refine ⟨hg, ?_⟩
  rw [if_pos hw]
  refine .inr ⟨[([d], φ)], fun x hx => ?_, fun w f hS hN => ?_, on_value t h w0⟩
  · obtain rfl : x = ([d], φ) := by simpa using hx
    exact ⟨fun t ht => .inl (by rw [List.mem_singleton.1 ht]), hst⟩
  · have := hrun w f hS hN
    have e : updW f (some d) = fun u t => if some d = some t then u else f t := rfl
    unfold gives at *
    generalize (execOp (fillW T f a).eval { dst := some d, op := op, type := t, pos := ps, after := af, guard := g }).run P w = r at *
    have key : ∀ u w', φ [u] w' ∧ S w' ∧ R w w' → (∀ x ∈ [([d], φ)], x.2 (x.1.map (updW f (some d) u)) w') ∧ S w' ∧ R w w' := fun u w' ⟨h1, h2, h3⟩ => ⟨fun x hx => by
      obtain rfl : x = ([d], φ) := by simpa using hx
      simpa [updW] using h1, h2, h3⟩
    cases r with
    | ok n w' =>
      cases n <;> simp only at this ⊢
      case value u => exact key _ _ this
      case skip => exact key _ _ this
      case enter f args => exact this.mono fun e w'' ⟨v, he, hp⟩ => ⟨v, he, key _ _ hp⟩
    | halt x w' => exact this
/-- an operation whose value is the same in all that the facts tell -/
theorem flow_val {d : Option Tmp} {op : Op} {t : TypeId} {ps : String} {af : Array Edge} {g : Option (Nat × Bool)} (v : Value)
    (hrun : ∀ w f, S w → knownW { dst := d, op := op, type := t, pos := ps, after := af, guard := g } N f w → gives P { dst := d, op := op, type := t, pos := ps, after := af, guard := g } (fillW T f a) w fun u w' => u = v ∧ S w' ∧ R w w')
    (hg : guardW ops T { dst := d, op := op, type := t, pos := ps, after := af, guard := g } = true) (hw : Region.wanted { dst := d, op := op, type := t, pos := ps, after := af, guard := g } (yielded ops a.tmps) = true) (w0 : World)
    (h : ∀ K : Act → Prop, (∀ a, wpW P ops S R End (k + 1) rest T N a → K a) → Oper.quiet P { dst := d, op := .assign (.const v), type := t, pos := "", after := #[], guard := none } a (fun _ => True) K) :
    wpW P ops S R End k ({ dst := d, op := op, type := t, pos := ps, after := af, guard := g } :: rest) T N a := by
  refine ⟨hg, ?_⟩
  rw [if_pos hw]
  exact .inl ⟨v, hrun, on_value t h w0⟩
/-- what is told of a slot, at an operation that waits for it -/
theorem known_at {o : Oper} {f : Tmp → Value} {w : World} (h : knownW o N f w) (j : Nat) {i : Nat} {y : Tmp} {ψ : List Value → World → Prop} (hj : N[j]? = some ⟨i, [y], ψ⟩) (hw : waitsB o i = true) : ψ [f y] w := h _ (List.mem_of_getElem? hj) hw
theorem fill_eval {f : Tmp → Value} {y : Tmp} (hy : y ∈ T) (hs : y < a.tmps.size) : (fillW T f a).eval (.tmp y) = f y := by
  have := fillW_in f T a y hy hs
  simp only [Act.eval, Array.getD_eq_getD_getElem?, this, Option.getD_some]
/-- a call of a Go function, whose value is told by a fact -/
theorem flow_callF {d : Tmp} {f : FuncId} {xs : Array Operand} {ts : Array TypeId} {t : TypeId} {ps : String} {af : Array Edge} {g : Option (Nat × Bool)} (φ : List Value → World → Prop) (hst : ∀ l w w', R w w' → φ l w → φ l w')
    (hcf : ∀ (vals : Array Value) (w : World), (callFunc f vals).run P w = .ok (.enter f vals) w) (vals : Array Value) (hv : xs.map a.eval = vals)
    (hp : plainW ops T { dst := some d, op := .call { callee := .value (.func f), args := xs, argTypes := ts }, type := t, pos := ps, after := af, guard := g } = true)
    (hc : ∀ x : Cls S, Calls P f vals x.w fun e w'' => ∃ v, e = .returned v ∧ φ [v] w'' ∧ S w'' ∧ R x.w w'')
    (hg : guardW ops T { dst := some d, op := .call { callee := .value (.func f), args := xs, argTypes := ts }, type := t, pos := ps, after := af, guard := g } = true)
    (hw : Region.wanted { dst := some d, op := .call { callee := .value (.func f), args := xs, argTypes := ts }, type := t, pos := ps, after := af, guard := g } (yielded ops a.tmps) = true) (w0 : World)
    (h : ∀ K : Act → Prop, (∀ a, wpW P ops S R End (k + 1) rest (d :: T) (⟨k, [d], φ⟩ :: N) a → K a) → Oper.quiet P { dst := some d, op := .assign (.const undef), type := t, pos := "", after := #[], guard := none } a (fun _ => True) K) :
    wpW P ops S R End k ({ dst := some d, op := .call { callee := .value (.func f), args := xs, argTypes := ts }, type := t, pos := ps, after := af, guard := g } :: rest) T N a :=
  flow_fact φ hst (fun w f' hS hN => gives_congr (exec_plain (fun _ _ e => by cases e) hp f') (by
    have he : (execOp a.eval { dst := some d, op := .call { callee := .value (.func f), args := xs, argTypes := ts }, type := t, pos := ps, after := af, guard := g }).run P w = .ok (.enter f vals) w := by
      simp [execOp, resolve, Act.eval, Deferred.ofValue, invoke, hcf, ← hv]
    unfold gives
    rw [he]
    exact hc ⟨w, hS⟩)) hg hw w0 h
/-- what is known of a slice that was just built, as a fact of the flow -/
def newRow (E : TypeId) (cs : Array Value) (n : Nat) (l : List Value) (W : World) : Prop := ∃ g, l = [.slice (some ⟨g, 0, none⟩) n n] ∧ Blk W g E cs
theorem newRow.of {E : TypeId} {cs : Array Value} {n : Nat} (l : List Value) (w w' : World) (hb : Below w.heap.size w w') (h : newRow E cs n l w) : newRow E cs n l w' := by
  obtain ⟨g, hu, hk⟩ := h
  exact ⟨g, hu, hk.below hb hk.lt⟩
theorem flow_build {E : TypeId} {d A : Nat} {n : Nat} {parts : Array (Nat × Operand)} {t : TypeId} {ps : String} {af : Array Edge} {g : Option (Nat × Bool)} (vals : Array (Nat × Value)) (hv : (parts.map fun (i, x) => (i, a.eval x)) = vals) (cs : Array Value)
    (hrun : ∀ w : World, (Instr.buildSlice A n vals).run P w = .ok (.slice (some ⟨w.heap.size, 0, none⟩) n n) (w.alloc (.cells cs E)))
    (hS : ∀ w w', S w → Below w.heap.size w w' → S w')
    (hp : plainW ops T { dst := some d, op := .buildSlice A n parts, type := t, pos := ps, after := af, guard := g } = true)
    (hg : guardW ops T { dst := some d, op := .buildSlice A n parts, type := t, pos := ps, after := af, guard := g } = true)
    (hw : Region.wanted { dst := some d, op := .buildSlice A n parts, type := t, pos := ps, after := af, guard := g } (yielded ops a.tmps) = true) (w0 : World)
    (h : ∀ K : Act → Prop, (∀ a, wpW P ops S (fun w w' => Below w.heap.size w w') End (k + 1) rest (d :: T) (⟨k, [d], newRow E cs n⟩ :: N) a → K a) → Oper.quiet P { dst := some d, op := .assign (.const undef), type := t, pos := "", after := #[], guard := none } a (fun _ => True) K) :
    wpW P ops S (fun w w' => Below w.heap.size w w') End k ({ dst := some d, op := .buildSlice A n parts, type := t, pos := ps, after := af, guard := g } :: rest) T N a :=
  flow_fact (newRow E cs n) newRow.of (fun w f hs hN => gives_congr (exec_plain (fun _ _ e => by cases e) hp f) (by
    have hb : Below w.heap.size w (w.alloc (.cells cs E)) := (Below.refl _ _).alloc (Nat.le_refl _) _
    unfold gives
    simp only [execOp, Sem.run_bind]
    rw [hv, hrun]
    exact ⟨⟨_, rfl, Blk.new _ _ _⟩, hS _ _ hs hb, hb⟩)) hg hw w0 h
end
end Go.Proofs.Ytengegcnocdkoaa
end
section
namespace Go.Proofs.Ytengegcnocdkoaa
open Go.RowKit Go.BigFrame
section
variable {P : Program} {ops : Array Oper} {S : World → Prop} {R : World → World → Prop} {End : List Tmp → List Fc → Act → Prop} {rest : List Oper} {k : Nat} {T : List Tmp} {N : List Fc} {a : Act} {o : Oper}
theorem flow_conv {d : Option Tmp} {y : Tmp} {A B : TypeId} {t : TypeId} {ps : String} {af : Array Edge} {g : Option (Nat × Bool)} (v : Value) (j : Nat) {i : Nat} {ψ : List Value → World → Prop} (hj : N[j]? = some ⟨i, [y], ψ⟩) (hwt : waitsB { dst := d, op := .convert A B (.tmp y), type := t, pos := ps, after := af, guard := g } i = true)
    (hyT : T.contains y = true) (hy : y < a.tmps.size) (hRr : ∀ w, R w w) (hx : ∀ u w, ψ [u] w → (convert A B u).run P w = .ok v w)
    (hg : guardW ops T { dst := d, op := .convert A B (.tmp y), type := t, pos := ps, after := af, guard := g } = true) (hw : Region.wanted { dst := d, op := .convert A B (.tmp y), type := t, pos := ps, after := af, guard := g } (yielded ops a.tmps) = true) (w0 : World)
    (h : ∀ K : Act → Prop, (∀ a, wpW P ops S R End (k + 1) rest T N a → K a) → Oper.quiet P { dst := d, op := .assign (.const v), type := t, pos := "", after := #[], guard := none } a (fun _ => True) K) :
    wpW P ops S R End k ({ dst := d, op := .convert A B (.tmp y), type := t, pos := ps, after := af, guard := g } :: rest) T N a :=
  flow_val v (fun w f hS hN => by
    have hv := hx _ _ (known_at hN j hj hwt)
    unfold gives
    simp only [execOp, Sem.run_bind]
    rw [fill_eval (by simpa using hyT) hy, hv]
    exact ⟨rfl, hS, hRr _⟩) hg hw w0 h
theorem flow_callY {d : Option Tmp} {f : FuncId} {y : Tmp} {xs : Array Operand} {ts : Array TypeId} {t : TypeId} {ps : String} {af : Array Edge} {g : Option (Nat × Bool)}
    (hcf : ∀ (vals : Array Value) (w : World), (callFunc f vals).run P w = .ok (.enter f vals) w) (v : Value) (vals : Value → Array Value) (j : Nat) {i : Nat} {ψ : List Value → World → Prop} (hj : N[j]? = some ⟨i, [y], ψ⟩) (hwt : waitsB { dst := d, op := .call { callee := .value (.func f), args := xs, argTypes := ts }, type := t, pos := ps, after := af, guard := g } i = true)
    (hv : ∀ f', xs.toList.map (fillW T f' a).eval = (vals (f' y)).toList) (hc : ∀ (x : Cls S) (u : Value), ψ [u] x.w → Calls P f (vals u) x.w fun e w'' => e = .returned v ∧ S w'' ∧ R x.w w'')
    (hg : guardW ops T { dst := d, op := .call { callee := .value (.func f), args := xs, argTypes := ts }, type := t, pos := ps, after := af, guard := g } = true)
    (hw : Region.wanted { dst := d, op := .call { callee := .value (.func f), args := xs, argTypes := ts }, type := t, pos := ps, after := af, guard := g } (yielded ops a.tmps) = true) (w0 : World)
    (h : ∀ K : Act → Prop, (∀ a, wpW P ops S R End (k + 1) rest T N a → K a) → Oper.quiet P { dst := d, op := .assign (.const v), type := t, pos := "", after := #[], guard := none } a (fun _ => True) K) :
    wpW P ops S R End k ({ dst := d, op := .call { callee := .value (.func f), args := xs, argTypes := ts }, type := t, pos := ps, after := af, guard := g } :: rest) T N a :=
  flow_val v (fun w f' hS hN => by
    have hv' : xs.map (fillW T f' a).eval = vals (f' y) := Array.ext' (by rw [Array.toList_map]; exact hv f')
    have he : (execOp (fillW T f' a).eval { dst := d, op := .call { callee := .value (.func f), args := xs, argTypes := ts }, type := t, pos := ps, after := af, guard := g }).run P w = .ok (.enter f (vals (f' y))) w := by
      simp only [execOp, resolve, hv']
      simp [Act.eval, Deferred.ofValue, invoke, hcf]
    unfold gives
    rw [he]
    exact (hc ⟨w, hS⟩ (f' y) (known_at hN j hj hwt)).mono fun e w'' ⟨he, hs, hr⟩ => ⟨v, he, rfl, hs, hr⟩) hg hw w0 h
end
end Go.Proofs.Ytengegcnocdkoaa
end
section
namespace Go.Proofs.Ytengegcnocdkoaa
open Go.RowKit
section
variable (P : Program) (ops : Array Oper) (C : World → Prop) (R : Nat → World → World → Prop) (U : List (Nat × (World → Prop)))
/-- what holds until operation k is done -/
def untilU (k : Nat) (w : World) : Prop := ∀ q ∈ U, q.1 = k → q.2 w
/-- one operation of the walk -/
def stepU (k : Nat) (T : List Tmp) (N : List Fc) (o : Oper) (a : Act) (next : List Tmp → List Fc → Act → Prop) : Prop :=
  guardW ops T o = true ∧
  if Region.wanted o (yielded ops a.tmps) = true then
    (∃ (v : Value) (D : List Dc), (∀ d ∈ D, (∀ t ∈ d.1, t ∈ T ∧ t ∈ o.looksAt ops) ∧ ∀ l i w w', i ≠ k → R i w w' → d.2 l w → d.2 l w') ∧
      (∀ w f, C w → knownW o N f w → untilU U k w → gives P o (fillW T f a) w fun u w' => (u = v ∧ ∀ d ∈ D, d.2 (d.1.map f) w') ∧ C w' ∧ R k w w') ∧ next T (D.map (fun d => ⟨k, d.1, d.2⟩) ++ N) (a.put o.dst v)) ∨
    (∃ D : List Dc, (∀ d ∈ D, (∀ t ∈ d.1, o.dst = some t ∨ (t ∈ T ∧ t ∈ o.looksAt ops)) ∧ ∀ l i w w', i ≠ k → R i w w' → d.2 l w → d.2 l w') ∧
      (∀ w f, C w → knownW o N f w → untilU U k w → gives P o (fillW T f a) w fun u w' => (∀ d ∈ D, d.2 (d.1.map (updW f o.dst u)) w') ∧ C w' ∧ R k w w') ∧ next (o.dst.toList ++ T) (D.map (fun d => ⟨k, d.1, d.2⟩) ++ N) (a.put o.dst undef))
  else next T N (a.put o.dst undef)
def wpU (End : List Tmp → List Fc → Act → Prop) : Nat → List Oper → List Tmp → List Fc → Act → Prop
  | k, [], T, N, a => End T N a
  | k, o :: rest, T, N, a => stepU P ops C R U k T N o a (wpU End (k + 1) rest)
def okU (G : Nat → Option Oper) (F : Fc) : Prop := ∃ p, G F.at_ = some p ∧ (∀ t ∈ F.dep, p.dst = some t ∨ (t ∈ p.looksAt ops ∧ ∃ m q, m < F.at_ ∧ G m = some q ∧ q.dst = some t)) ∧ ∀ l i w w', i ≠ F.at_ → R i w w' → F.says l w → F.says l w'
/-- what the walk has shown of one operation; 'fin': the frame at the walk's end -/
def caseU (fin : Act) (Tf : List Tmp) (Nf : List Fc) (k : Nat) (T : List Tmp) (N : List Fc) (o : Oper) (b : Act) : Prop :=
  guardW ops T o = true ∧
  if Region.wanted o (yielded ops b.tmps) = true then
    (∃ (v : Value) (D : List Dc), (∀ d ∈ D, ∀ t ∈ d.1, t ∈ T) ∧ (∀ w f, C w → knownW o N f w → untilU U k w → gives P o (fillW T f b) w fun u w' => (u = v ∧ ∀ d ∈ D, d.2 (d.1.map f) w') ∧ C w' ∧ R k w w') ∧ (∀ t, o.dst = some t → fin.tmps[t]? = some v ∧ t ∉ Tf) ∧ ∀ F ∈ Nf, F.at_ = k → ∃ d ∈ D, F = ⟨k, d.1, d.2⟩) ∨
    (∃ D : List Dc, (∀ w f, C w → knownW o N f w → untilU U k w → gives P o (fillW T f b) w fun u w' => (∀ d ∈ D, d.2 (d.1.map (updW f o.dst u)) w') ∧ C w' ∧ R k w w') ∧ (∀ t, o.dst = some t → t ∈ Tf) ∧ ∀ F ∈ Nf, F.at_ = k → ∃ d ∈ D, F = ⟨k, d.1, d.2⟩)
  else (∀ t, o.dst = some t → fin.tmps[t]? = some undef ∧ t ∉ Tf) ∧ ∀ F ∈ Nf, F.at_ ≠ k
theorem old_val {k : Nat} {T : List Tmp} {N : List Fc} {o : Oper} {a : Act} {next : List Tmp → List Fc → Act → Prop} (h : ∃ v, (∀ w f, C w → knownW o N f w → untilU U k w → gives P o (fillW T f a) w fun u w' => u = v ∧ C w' ∧ R k w w') ∧ next T N (a.put o.dst v)) :
    ∃ (v : Value) (D : List Dc), (∀ d ∈ D, (∀ t ∈ d.1, t ∈ T ∧ t ∈ o.looksAt ops) ∧ ∀ l i w w', i ≠ k → R i w w' → d.2 l w → d.2 l w') ∧
      (∀ w f, C w → knownW o N f w → untilU U k w → gives P o (fillW T f a) w fun u w' => (u = v ∧ ∀ d ∈ D, d.2 (d.1.map f) w') ∧ C w' ∧ R k w w') ∧ next T (D.map (fun d => ⟨k, d.1, d.2⟩) ++ N) (a.put o.dst v) := by
  obtain ⟨v, hv, hn⟩ := h
  refine ⟨v, [], fun d hd => (by cases hd), fun w f h1 h2 h3 => ?_, hn⟩
  have := hv w f h1 h2 h3
  unfold gives at *
  generalize (execOp (fillW T f a).eval o).run P w = r at *
  cases r with
  | ok n w' =>
    cases n <;> simp only at this ⊢
    case value u => exact ⟨⟨this.1, fun d hd => (by cases hd)⟩, this.2⟩
    case skip => exact ⟨⟨this.1, fun d hd => (by cases hd)⟩, this.2⟩
    case enter f args => exact this.mono fun e w'' ⟨v, he, hp⟩ => ⟨v, he, ⟨hp.1, fun d hd => (by cases hd)⟩, hp.2⟩
  | halt x w' => exact this
theorem wpU_out {End : List Tmp → List Fc → Act → Prop} (G : Nat → Option Oper) (n : Nat) (hd : ∀ (i j : Nat) (o p : Oper) (t : Tmp), G i = some o → G j = some p → o.dst = some t → p.dst = some t → i = j) (hn : ∀ (i : Nat) (o : Oper) (t : Tmp), G i = some o → o.dst = some t → t < n) :
    ∀ (l : List Oper) (k : Nat) (T : List Tmp) (N : List Fc) (a : Act), (∀ j, l[j]? = G (k + j)) → a.tmps.size = n → (∀ t ∈ T, ∃ i o, i < k ∧ G i = some o ∧ o.dst = some t) → (∀ F ∈ N, F.at_ < k) → wpU P ops C R U End k l T N a →
    ∃ (fin : Act) (Tf : List Tmp) (Nf : List Fc), End Tf Nf fin ∧ fin.defers = a.defers ∧ fin.tmps.size = n ∧ (∀ t, (∀ m p, k ≤ m → G m = some p → p.dst ≠ some t) → fin.tmps[t]? = a.tmps[t]?) ∧ (∀ t ∈ T, t ∈ Tf) ∧
      (∀ t ∈ Tf, t ∈ T ∨ ∃ m o, k ≤ m ∧ G m = some o ∧ o.dst = some t) ∧ (∀ F ∈ N, F ∈ Nf) ∧ (∀ F ∈ Nf, F ∈ N ∨ (k ≤ F.at_ ∧ okU ops R G F)) ∧
      ∀ i o, k ≤ i → G i = some o → ∃ (b : Act) (Tb : List Tmp) (Nb : List Fc), (∀ t, (∀ m p, k ≤ m → m < i → G m = some p → p.dst ≠ some t) → b.tmps[t]? = a.tmps[t]?) ∧ (∀ t, (∀ m p, i ≤ m → G m = some p → p.dst ≠ some t) → b.tmps[t]? = fin.tmps[t]?) ∧
        b.tmps.size = n ∧ (∀ t ∈ Tb, t ∈ Tf ∧ ∃ m o', m < i ∧ G m = some o' ∧ o'.dst = some t) ∧ (∀ t ∈ Tf, t ∈ Tb ∨ ∃ m o', i ≤ m ∧ G m = some o' ∧ o'.dst = some t) ∧ (∀ F ∈ Nb, F ∈ Nf) ∧ caseU P ops C R U fin Tf Nf i Tb Nb o b
  | [], k, T, N, a, hl, hsz, hT, hN, h => by
    have hnone : ∀ m p, k ≤ m → G m = some p → False := fun m p hm hp => by
      have := hl (m - k)
      rw [show k + (m - k) = m by omega, hp] at this
      simp at this
    exact ⟨a, T, N, h, rfl, hsz, fun _ _ => rfl, fun _ h => h, fun _ h => .inl h, fun _ h => h, fun _ h => .inl h, fun i o hi ho => (hnone i o hi ho).elim⟩
  | o :: rest, k, T, N, a, hl, hsz, hT, hN, h => by
    have hk : G k = some o := by simpa using (hl 0).symm
    have hl' : ∀ j, rest[j]? = G (k + 1 + j) := fun j => by have := hl (j + 1); simpa [Nat.add_assoc, Nat.add_comm 1 j] using this
    have go : ∀ (T' : List Tmp) (N' : List Fc) (v : Value), (∀ t ∈ T', t ∈ T ∨ o.dst = some t) → (∀ t ∈ T, t ∈ T') → (∀ F ∈ N', F ∈ N ∨ (F.at_ = k ∧ okU ops R G F)) → (∀ F ∈ N, F ∈ N') → wpU P ops C R U End (k + 1) rest T' N' (a.put o.dst v) →
        (∀ fin Tf Nf, (∀ t, o.dst = some t → fin.tmps[t]? = some v) → (∀ t ∈ T', t ∈ Tf) → (∀ t ∈ Tf, t ∈ T' ∨ ∃ m o', k + 1 ≤ m ∧ G m = some o' ∧ o'.dst = some t) → (∀ F ∈ Nf, F.at_ = k → F ∈ N') → caseU P ops C R U fin Tf Nf k T N o a) →
        ∃ (fin : Act) (Tf : List Tmp) (Nf : List Fc), End Tf Nf fin ∧ fin.defers = a.defers ∧ fin.tmps.size = n ∧ (∀ t, (∀ m p, k ≤ m → G m = some p → p.dst ≠ some t) → fin.tmps[t]? = a.tmps[t]?) ∧ (∀ t ∈ T, t ∈ Tf) ∧
          (∀ t ∈ Tf, t ∈ T ∨ ∃ m o, k ≤ m ∧ G m = some o ∧ o.dst = some t) ∧ (∀ F ∈ N, F ∈ Nf) ∧ (∀ F ∈ Nf, F ∈ N ∨ (k ≤ F.at_ ∧ okU ops R G F)) ∧
          ∀ i o, k ≤ i → G i = some o → ∃ (b : Act) (Tb : List Tmp) (Nb : List Fc), (∀ t, (∀ m p, k ≤ m → m < i → G m = some p → p.dst ≠ some t) → b.tmps[t]? = a.tmps[t]?) ∧ (∀ t, (∀ m p, i ≤ m → G m = some p → p.dst ≠ some t) → b.tmps[t]? = fin.tmps[t]?) ∧
            b.tmps.size = n ∧ (∀ t ∈ Tb, t ∈ Tf ∧ ∃ m o', m < i ∧ G m = some o' ∧ o'.dst = some t) ∧ (∀ t ∈ Tf, t ∈ Tb ∨ ∃ m o', i ≤ m ∧ G m = some o' ∧ o'.dst = some t) ∧ (∀ F ∈ Nb, F ∈ Nf) ∧ caseU P ops C R U fin Tf Nf i Tb Nb o b := by
      intro T' N' v hT1 hT2 hN1 hN2 hw hcase
      obtain ⟨fin, Tf, Nf, he, hdef, hfs, hs, hsub, hTf, hNsub, hNf, hrest⟩ := wpU_out (End := End) G n hd hn rest (k + 1) T' N' (a.put o.dst v) hl' (by rw [put_size]; exact hsz)
        (fun t ht => by
          rcases hT1 t ht with h1 | h1
          · obtain ⟨i, o', hi, ho', hdst⟩ := hT t h1
            exact ⟨i, o', by omega, ho', hdst⟩
          · exact ⟨k, o, by omega, hk, h1⟩) (fun F hF => by
          rcases hN1 F hF with h1 | h1
          · have := hN F h1; omega
          · have := h1.1; omega) hw
      have hfin : ∀ t, o.dst = some t → fin.tmps[t]? = some v := fun t ht => by
        rw [hs t (fun m p hm hp hpt => by have := hd k m o p t hk hp ht hpt; omega), ht]
        exact put_slot a t v (by rw [hsz]; exact hn k o t hk ht)
      refine ⟨fin, Tf, Nf, he, by rw [hdef, put_defs], hfs, fun t ht => ?_, fun t ht => hsub t (hT2 t ht), fun t ht => ?_, fun F hF => hNsub F (hN2 F hF), fun F hF => ?_, fun i o' hi ho' => ?_⟩
      · rw [hs t (fun m p hm hp => ht m p (by omega) hp), put_slot_ne a o.dst v t (ht k o (Nat.le_refl _) hk)]
      · rcases hTf t ht with h1 | ⟨m, o', hm, ho', hdst⟩
        · rcases hT1 t h1 with h2 | h2
          · exact .inl h2
          · exact .inr ⟨k, o, Nat.le_refl _, hk, h2⟩
        · exact .inr ⟨m, o', by omega, ho', hdst⟩
      · rcases hNf F hF with h1 | ⟨h1, h2⟩
        · rcases hN1 F h1 with h2 | ⟨h2, h3⟩
          · exact .inl h2
          · exact .inr ⟨by omega, h3⟩
        · exact .inr ⟨by omega, h2⟩
      · rcases Nat.lt_or_ge k i with hlt | hge
        · obtain ⟨b, Tb, Nb, f1, f2, f3, f4, f5, f6, f7⟩ := hrest i o' (by omega) ho'
          refine ⟨b, Tb, Nb, fun t ht => ?_, f2, f3, f4, f5, f6, f7⟩
          rw [f1 t (fun m p hm hmi hp => ht m p (by omega) hmi hp), put_slot_ne a o.dst v t (ht k o (Nat.le_refl _) hlt hk)]
        · obtain rfl : i = k := by omega
          rw [hk] at ho'
          injection ho' with ho'
          subst ho'
          refine ⟨a, T, N, fun _ _ => rfl, fun t ht => ?_, hsz, fun t ht => ⟨hsub t (hT2 t ht), hT t ht⟩, fun t ht => ?_, fun F hF => hNsub F (hN2 F hF), hcase fin Tf Nf hfin hsub hTf fun F hF hFk => ?_⟩
          · rw [hs t (fun m p hm hp => ht m p (by omega) hp), put_slot_ne a o.dst v t (ht i o (Nat.le_refl _) hk)]
          · rcases hTf t ht with h1 | ⟨m, o', hm, ho', hdst⟩
            · rcases hT1 t h1 with h2 | h2
              · exact .inl h2
              · exact .inr ⟨i, o, Nat.le_refl _, hk, h2⟩
            · exact .inr ⟨m, o', by omega, ho', hdst⟩
          · rcases hNf F hF with h1 | ⟨h1, _⟩
            · exact h1
            · omega
    have noT : ∀ (Tf : List Tmp) (t : Tmp), o.dst = some t → (∀ t ∈ Tf, t ∈ T ∨ ∃ m o', k + 1 ≤ m ∧ G m = some o' ∧ o'.dst = some t) → t ∉ Tf := by
      intro Tf t ht hTf hin
      rcases hTf _ hin with h1 | ⟨m, o', hm, ho', hdst⟩
      · obtain ⟨i, o', hi, ho', hdst⟩ := hT _ h1
        have := hd i k o' o t ho' hk hdst ht
        omega
      · have := hd m k o' o t ho' hk hdst ht
        omega
    obtain ⟨hg, h⟩ := h
    by_cases hwant : Region.wanted o (yielded ops a.tmps) = true
    · rw [if_pos hwant] at h
      rcases h with ⟨v, D, hD, hv, hnext⟩ | ⟨D, hD, hF, hnext⟩
      · refine go T _ v (fun _ h => .inl h) (fun _ h => h) (fun F hF => ?_) (fun F hF => List.mem_append_right _ hF) hnext fun fin Tf Nf hfin _ hTf hNk => ⟨hg, ?_⟩
        · rcases List.mem_append.1 hF with h1 | h1
          · obtain ⟨d, hd1, rfl⟩ := List.mem_map.1 h1
            refine .inr ⟨rfl, o, hk, fun t ht => ?_, (hD d hd1).2⟩
            obtain ⟨h2, h3⟩ := (hD d hd1).1 t ht
            obtain ⟨m, q, hm, hq, hqt⟩ := hT t h2
            exact .inr ⟨h3, m, q, hm, hq, hqt⟩
          · exact .inl h1
        · rw [if_pos hwant]
          refine .inl ⟨v, D, fun d hd t ht => ((hD d hd).1 t ht).1, hv, fun t ht => ⟨hfin t ht, noT Tf t ht hTf⟩, fun F hF hFk => ?_⟩
          rcases List.mem_append.1 (hNk F hF hFk) with h1 | h1
          · obtain ⟨d, hd1, rfl⟩ := List.mem_map.1 h1
            exact ⟨d, hd1, rfl⟩
          · have := hN F h1; omega
      · refine go _ _ undef (fun t ht => ?_) (fun t ht => List.mem_append_right _ ht) (fun F hF => ?_) (fun F hF => List.mem_append_right _ hF) hnext fun fin Tf Nf hfin hsub hTf hNk => ⟨hg, ?_⟩
        · rcases List.mem_append.1 ht with h1 | h1
          · exact .inr (by simpa using h1)
          · exact .inl h1
        · rcases List.mem_append.1 hF with h1 | h1
          · obtain ⟨d, hd1, rfl⟩ := List.mem_map.1 h1
            refine .inr ⟨rfl, o, hk, fun t ht => ?_, (hD d hd1).2⟩
            rcases (hD d hd1).1 t ht with h2 | ⟨h2, h3⟩
            · exact .inl h2
            · obtain ⟨m, q, hm, hq, hqt⟩ := hT t h2
              exact .inr ⟨h3, m, q, hm, hq, hqt⟩
          · exact .inl h1
        · rw [if_pos hwant]
          refine .inr ⟨D, hF, fun t ht => hsub t (List.mem_append_left _ (by simp [ht])), fun F hF hFk => ?_⟩
          rcases List.mem_append.1 (hNk F hF hFk) with h1 | h1
          · obtain ⟨d, hd1, rfl⟩ := List.mem_map.1 h1
            exact ⟨d, hd1, rfl⟩
          · have := hN F h1; omega
    · rw [if_neg hwant] at h
      exact go T N undef (fun _ h => .inl h) (fun _ h => h) (fun _ h => .inl h) (fun _ h => h) h fun fin Tf Nf hfin _ hTf hNk => ⟨hg, by
        rw [if_neg hwant]
        exact ⟨fun t ht => ⟨hfin t ht, noT Tf t ht hTf⟩, fun F hF hFk => by have := hN F (hNk F hF hFk); omega⟩⟩
def flowK (G : Nat → Option Oper) (a0 fin : Act) (Tf : List Tmp) (Nf : List Fc) (listed : Array Bool) (a : Act) (w : World) : Prop :=
  C w ∧ a.defers = a0.defers ∧ a.tmps.size = a0.tmps.size ∧ listed.size = ops.size ∧
  (∀ (t : Tmp), (∀ (j : Nat) (p : Oper), G j = some p → p.dst = some t → listed.getD j false = false) → a.tmps[t]? = a0.tmps[t]?) ∧
  (∀ (j : Nat) (p : Oper) (t : Tmp), G j = some p → p.dst = some t → listed.getD j false = true → t ∉ Tf → a.tmps[t]? = fin.tmps[t]?) ∧
  (∀ F ∈ Nf, listed.getD F.at_ false = true → F.says (F.dep.map (slotv a)) w) ∧
  (∀ (j : Nat) (p : Oper), G j = some p → listed.getD j false = true → ∀ e ∈ p.after, Region.binds .any e = true → listed.getD e.on false = true) ∧
  (∀ q ∈ U, listed.getD q.1 false = false → q.2 w)
theorem flowK_step {G : Nat → Option Oper} (hG : ∀ i o, G i = some o → ops[i]? = some o) {a0 fin : Act} (spec : flowB ops a0.tmps.size = true) {Tf : List Tmp} {Nf : List Fc} {listed : Array Bool} {a : Act} {w w' : World} (hd : ∀ (i j : Nat) (o p : Oper) (t : Tmp), G i = some o → G j = some p → o.dst = some t → p.dst = some t → i = j)
    (hn : ∀ (i : Nat) (o : Oper) (t : Tmp), G i = some o → o.dst = some t → t < a0.tmps.size) (hNf : ∀ F ∈ Nf, okU ops R G F)
    (h : flowK ops C U G a0 fin Tf Nf listed a w) {i : Nat} {o : Oper} (ho : G i = some o) (hil : listed.getD i false = false) (hall : ∀ e ∈ o.after, Region.binds .any e = true → listed.getD e.on false = true) (hC : C w') (hR : R i w w') (hUs : ∀ q ∈ U, ∀ i w w', i ≠ q.1 → R i w w' → q.2 w → q.2 w') (u : Value)
    (hu : ∀ t, o.dst = some t → t ∉ Tf → fin.tmps[t]? = some u) (hF : ∀ F ∈ Nf, F.at_ = i → F.says (F.dep.map (updW (slotv a) o.dst u)) w') : flowK ops C U G a0 fin Tf Nf (listed.setIfInBounds i true) (a.put o.dst u) w' := by
  obtain ⟨_, h1, h2, h3, hU, hL, hFF, hD, hV⟩ := h
  have hi : i < listed.size := by rw [h3]; exact (Array.getElem?_eq_some_iff.1 (hG i o ho)).1
  have hself : (listed.setIfInBounds i true).getD i false = true := by simp [hi]
  refine ⟨hC, by rw [put_defs]; exact h1, by rw [put_size]; exact h2, by simpa using h3, fun t ht => ?_, fun j p t hj hp hl hTf => ?_, fun F hFm hl => ?_, fun j p hj hl e he hb => ?_, fun q hq hl => ?_⟩
  · have hne : o.dst ≠ some t := fun e => by
      have := ht i o ho e
      rw [hself] at this
      cases this
    rw [put_slot_ne a o.dst u t hne]
    refine hU t fun j p hj hp => ?_
    have := ht j p hj hp
    by_cases e : i = j
    · subst e; rw [hself] at this; cases this
    · rwa [getD_set_ne false e] at this
  · by_cases e : i = j
    · subst e
      rw [ho] at hj
      injection hj with hj
      subst hj
      rw [hp, put_slot a t u (by rw [h2]; exact hn i o t ho hp), hu t hp hTf]
    · rw [getD_set_ne false e] at hl
      rw [put_slot_ne a o.dst u t (fun h => e (hd i j o p t ho hj h hp))]
      exact hL j p t hj hp hl hTf
  · by_cases e : i = F.at_
    · have := hF F hFm e.symm
      have hm : F.dep.map (slotv (a.put o.dst u)) = F.dep.map (updW (slotv a) o.dst u) := List.map_congr_left fun t ht => by
        unfold updW
        by_cases hdt : o.dst = some t
        · rw [if_pos hdt]
          unfold slotv
          rw [Array.getD_eq_getD_getElem?, hdt, put_slot a t u (by rw [h2]; exact hn i o t ho hdt), Option.getD_some]
        · rw [if_neg hdt]
          unfold slotv
          rw [Array.getD_eq_getD_getElem?, Array.getD_eq_getD_getElem?, put_slot_ne a o.dst u t hdt]
      rw [hm]
      exact this
    · rw [getD_set_ne false e] at hl
      obtain ⟨p, hp, hdep, hst⟩ := hNf F hFm
      have hold := hst _ _ _ _ e hR (hFF F hFm hl)
      have hm : F.dep.map (slotv (a.put o.dst u)) = F.dep.map (slotv a) := List.map_congr_left fun t ht => by
        have hne : o.dst ≠ some t := fun hdt => by
          rcases hdep t ht with h4 | ⟨h4, m, q, hm, hq, hqt⟩
          · exact e (hd i F.at_ o p t ho hp hdt h4)
          · obtain rfl : i = m := hd i m o q t ho hq hdt hqt
            rcases ((flowB_spec spec (hG _ _ hp)).2.2 i q (hG _ _ hq) (by omega)).2 with h5 | ⟨e', he', hb', hon⟩ | ⟨e', he', hb', hon⟩
            · exact h5 t hqt h4
            · have := hD F.at_ p hp hl e' he' hb'
              rw [hon, hil] at this
              cases this
            · have := (flowB_spec spec (hG _ _ hq)).1 e' he' hb'
              omega
        unfold slotv
        rw [Array.getD_eq_getD_getElem?, Array.getD_eq_getD_getElem?, put_slot_ne a o.dst u t hne]
      rw [hm]
      exact hold
  · by_cases e' : i = j
    · subst e'
      rw [ho] at hj
      injection hj with hj
      subst hj
      exact getD_set_true (hall e he hb)
    · rw [getD_set_ne false e'] at hl
      exact getD_set_true (hD j p hj hl e he hb)
  · by_cases e : i = q.1
    · rw [← e, hself] at hl; cases hl
    · rw [getD_set_ne false e] at hl
      exact hUs q hq i w w' e hR (hV q hq hl)
end
/-- ONE WALK IN THE ORDER OF THE TEXT serves every order; from the n-th operation on they may do whatever they like. -/
theorem any_flowu (n : Nat) (S : World → Prop) (R : Nat → World → World → Prop) (U : List (Nat × (World → Prop))) {P : Program} {Q : Exit → Act → World → Prop} {a : Act} {w : World} {l : List Oper} (hm : P.follows .mixedOrders = true) (hB : flowB l.toArray a.tmps.size = true) (hLast : restB l.toArray n = true) (hRr : ∀ i w, R i w w) (hUs : ∀ q ∈ U, ∀ i w w', i ≠ q.1 → R i w w' → q.2 w → q.2 w') (hU0 : ∀ q ∈ U, q.2 w.drew) (hS : S w.drew)
    (h : wpU P l.toArray S R U (fun T N b => ∀ w' f, S w' → (∀ F ∈ N, F.says (F.dep.map f) w') → wpList P l.toArray Q (l.drop n) (fillW T f b) w') 0 (l.take n) [] [] a) : wpAny P .any l.toArray Q l.toArray.size (Array.replicate l.toArray.size false) a { w with drawn := w.drawn + 1 } := by
  have spec := fun i o => flowB_spec (i := i) (o := o) hB
  obtain ⟨hsize, hT⟩ := restB_spec hLast
  have hll : n ≤ l.length := by simpa using hsize
  obtain ⟨G, hGd⟩ : ∃ G : Nat → Option Oper, G = fun m => if m < n then l.toArray[m]? else none := ⟨_, rfl⟩
  have hG : ∀ i o, G i = some o → l.toArray[i]? = some o := fun i o h => by
    rw [hGd] at h
    by_cases hi : i < n
    · simpa [hi] using h
    · simp [hi] at h
  have hGlt : ∀ i o, G i = some o → i < n := fun i o h => by
    rw [hGd] at h
    by_cases hi : i < n
    · exact hi
    · simp [hi] at h
  have hGof : ∀ i o, i < n → l.toArray[i]? = some o → G i = some o := fun i o hi h => by rw [hGd]; simpa [hi] using h
  have hd : ∀ (i j : Nat) (o p : Oper) (t : Tmp), G i = some o → G j = some p → o.dst = some t → p.dst = some t → i = j := by
    intro i j o p t ho hp hot hpt
    have ho := hG _ _ ho
    have hp := hG _ _ hp
    apply Classical.byContradiction
    intro hne
    exact ((spec i o ho).2.2 j p hp (Ne.symm hne)).1 t hot hpt
  have hn : ∀ (i : Nat) (o : Oper) (t : Tmp), G i = some o → o.dst = some t → t < a.tmps.size := fun i o t ho ht => ((spec i o (hG _ _ ho)).2.1 t ht).1
  have hsel : ∀ (j : Nat) (o : Oper) cs b, l.toArray[j]? = some o → o.op ≠ .select cs b := Region.noSelect_spec (by unfold flowB at hB; rw [Bool.and_eq_true] at hB; exact hB.1)
  obtain ⟨fin, Tf, Nf, hEnd, hdef, hfs, hun, _, hTf, _, hNf0, hops⟩ := wpU_out P l.toArray S R U G a.tmps.size hd hn (l.take n) 0 [] [] a (fun j => by rw [hGd, Nat.zero_add]; by_cases hj : j < n <;> simp [hj]; omega) rfl (fun p h => by cases h) (fun p h => by cases h) h
  have hNf : ∀ F ∈ Nf, okU l.toArray R G F := fun F hF => by
    rcases hNf0 F hF with h1 | h1
    · cases h1
    · exact h1.2
  have hTw : ∀ t ∈ Tf, ∃ m o, G m = some o ∧ o.dst = some t := fun t ht => by
    rcases hTf t ht with h1 | ⟨m, o, _, h2, h3⟩
    · cases h1
    · exact ⟨m, o, h2, h3⟩
  -- all that stands ahead of n is done: what is told at the walk's end holds
  have atEnd : ∀ (listed : Array Bool) (a' : Act) (w1 : World), flowK l.toArray S U G a fin Tf Nf listed a' w1 → (∀ (j : Nat) (p : Oper), G j = some p → listed.getD j false = true) → wpList P l.toArray Q (l.drop n) a' w1 := by
    intro listed a' w1 ⟨hC1, hdf, hsz, hls, hU, hL, hFF, hD, _⟩ hallj
    have h1 := hEnd w1 (slotv a') hC1 fun F hF => hFF F hF (by obtain ⟨p, hp, _⟩ := hNf F hF; exact hallj _ p hp)
    have e : a' = fillW Tf (slotv a') fin := by
      obtain ⟨at_, ad⟩ := a'
      have e1 : ad = (fillW Tf (slotv ⟨at_, ad⟩) fin).defers := by rw [fillW_defs, hdef]; exact hdf
      have e2 : at_ = (fillW Tf (slotv ⟨at_, ad⟩) fin).tmps := Array.ext_getElem? fun t => by
        by_cases ht : t ∈ Tf
        · obtain ⟨m, o, hm, hmt⟩ := hTw t ht
          have hlt := hn m o t hm hmt
          rw [fillW_in _ Tf fin t ht (by rw [hfs]; exact hlt)]
          exact slotv_some (a := ⟨at_, ad⟩) (by rw [hsz]; exact hlt)
        · rw [fillW_out _ Tf fin t ht]
          by_cases hw : ∃ (j : Nat) (p : Oper), G j = some p ∧ p.dst = some t
          · obtain ⟨j, p, hj, hp⟩ := hw
            exact hL j p t hj hp (hallj j p hj) ht
          · rw [show at_[t]? = a.tmps[t]? from hU t (fun m q hq hqt => (hw ⟨m, q, hq, hqt⟩).elim), hun t (fun m q _ hq hqt => hw ⟨m, q, hq, hqt⟩)]
      generalize fillW Tf (slotv ⟨at_, ad⟩) fin = z at *
      obtain ⟨zt, zd⟩ := z
      simp only at e1 e2
      rw [e1, e2]
    rw [e]
    exact h1
  refine wpAny_inv P l.toArray (tailJ P l Q n (flowK l.toArray S U G a fin Tf Nf)) (fun listed a' w1 hJ i hi => ?_) (fun listed a' w1 hJ hr => ?_) _ _ _ _ (.inl ⟨fun j _ => replicate_false _ _, hS, rfl, rfl, by simp, fun _ _ => rfl, fun j p t hj _ hl => ?_, fun F hF hl => ?_, fun j p hj hl => ?_, fun q hq _ => hU0 q hq⟩) (by simp)
  · -- a step
    obtain ⟨hun_i, o, ho', hall⟩ := mem_ready.1 hi
    have hil0 : listed.getD i false = false := by
      obtain ⟨hl, hf⟩ := ready_false l.toArray hi
      simp [hl, hf]
    have hin : i < l.length := by have := (Array.getElem?_eq_some_iff.1 ho').1; simpa using this
    rcases hJ with ⟨hnl, hJ⟩ | ⟨m, hnm, hml, hsz2, hli, hq⟩
    case inr =>
      have him : i = m := by
        rw [hli i hin, decide_eq_false_iff_not] at hil0
        rcases Nat.lt_or_ge m i with h | h
        · exfalso
          have := (hT i o (by omega) ho' m h).keeps (L := fun k => k < m) (fun j p hp hj f hf hfb => by have := (spec j p hp).1 f hf hfb; omega) (fun e he hb => by
            have := hall e he hb
            have hel : e.on < l.length := by have := (spec i o ho').1 e he hb; omega
            rw [hli _ hel, decide_eq_true_eq] at this
            exact this)
          omega
        · omega
      subst him
      rw [drop_step ho'] at hq
      refine wpOp_of_list ho' hq fun a2 w2 h2 => .inr ⟨i + 1, by omega, by omega, by simp [hsz2], fun j hj => ?_, h2⟩
      by_cases e : i = j
      · subst e
        have : i < listed.size := by omega
        simp [this]
      · rw [getD_set_ne false e, hli j hj]
        congr 1
        apply propext
        omega
    by_cases hlt_n : i < n
    case neg =>
      have hJ0 := hJ
      obtain ⟨hC1, hdf, hsz, hls, hU, hL, hFF, hD, hV⟩ := hJ
      have hbefore : ∀ k, k < i → listed.getD k false = true := fun k hk => by
        refine (hT i o (by omega) ho' k hk).keeps (L := fun k => listed.getD k false = true) (fun j p hp hj f hf hfb => ?_) (fun e he hb => hall e he hb)
        rcases Nat.lt_or_ge j n with h | h
        · exact hD j p (hGof _ _ h hp) hj f hf hfb
        · rw [hnl _ h] at hj; cases hj
      obtain rfl : i = n := by
        rcases Nat.lt_or_ge n i with h | h
        · have := hbefore n h
          rw [hnl n (Nat.le_refl _)] at this
          cases this
        · omega
      have hallj : ∀ (j : Nat) (p : Oper), G j = some p → listed.getD j false = true := fun j p hj => hbefore j (hGlt j p hj)
      have hq := atEnd listed a' w1 hJ0 hallj
      rw [drop_step ho'] at hq
      refine wpOp_of_list ho' hq fun a2 w2 h2 => .inr ⟨i + 1, by omega, by omega, by simp [hls], fun j hj => ?_, h2⟩
      by_cases e : i = j
      · subst e
        have : i < listed.size := by rw [hls]; simpa using hin
        simp [this]
      · rw [getD_set_ne false e]
        rcases Nat.lt_or_ge j i with h | h
        · rw [hbefore j h]; simp; omega
        · rw [hnl j h]; simp; omega
    have ho : G i = some o := hGof i o hlt_n ho'
    have hkeep : ∀ a2 w2, flowK l.toArray S U G a fin Tf Nf (listed.setIfInBounds i true) a2 w2 → tailJ P l Q n (flowK l.toArray S U G a fin Tf Nf) (listed.setIfInBounds i true) a2 w2 := fun a2 w2 h => .inl ⟨fun j hj => by rw [getD_set_ne false (by omega)]; exact hnl j hj, h⟩
    obtain ⟨b, Tb, Nb, f1, f2, f3, f4, f5, f6, hguard, hcase⟩ := hops i o (Nat.zero_le _) ho
    obtain ⟨hC1, hdf, hsz, hls, hU, hL, hFF, hD, hV⟩ := hJ
    have hJ : flowK l.toArray S U G a fin Tf Nf listed a' w1 := ⟨hC1, hdf, hsz, hls, hU, hL, hFF, hD, hV⟩
    -- what is looked at
    have writer : ∀ t ∈ o.looksAt l.toArray, ∀ (j : Nat) (p : Oper), G j = some p → p.dst = some t → (j < i ∧ listed.getD j false = true) ∨ (i < j ∧ listed.getD j false = false) := by
      intro t ht j p hj hp
      have hne : j ≠ i := by
        rintro rfl
        rw [ho] at hj
        injection hj with hj
        subst hj
        exact ((spec j o (hG _ _ ho)).2.1 t hp).2 ht
      rcases ((spec i o ho').2.2 j p (hG _ _ hj) hne).2 with h1 | ⟨e, he, hb, rfl⟩ | ⟨e, he, hb, hei⟩
      · exact absurd ht (h1 t hp)
      · exact .inl ⟨(spec i o ho').1 e he hb, hall e he hb⟩
      · refine .inr ⟨by have := (spec j p (hG _ _ hj)).1 e he hb; omega, ?_⟩
        cases hlj : listed.getD j false with
        | false => rfl
        | true =>
          have := hD j p hj hlj e he hb
          rw [hei, hil0] at this
          cases this
    have agree : ∀ t ∈ o.looksAt l.toArray, t ∉ Tb → a'.tmps[t]? = b.tmps[t]? := by
      intro t ht hNb
      by_cases hw : ∃ (j : Nat) (p : Oper), G j = some p ∧ p.dst = some t
      · obtain ⟨j, p, hj, hp⟩ := hw
        rcases writer t ht j p hj hp with ⟨hlt, hlj⟩ | ⟨hlt, hlj⟩
        · rw [f2 t (fun m q hm hq hqt => by have := hd m j q p t hq hj hqt hp; omega)]
          refine hL j p t hj hp hlj fun hF => ?_
          rcases f5 _ hF with h1 | ⟨m, q, hm, hq, hqt⟩
          · exact hNb h1
          · have := hd m j q p t hq hj hqt hp
            omega
        · rw [hU t (fun m q hq hqt => by have := hd m j q p t hq hj hqt hp; rw [this]; exact hlj), f1 t (fun m q _ hm hq hqt => by have := hd m j q p t hq hj hqt hp; omega)]
      · rw [hU t (fun m q hq hqt => (hw ⟨m, q, hq, hqt⟩).elim), f1 t (fun m q _ hm hq hqt => hw ⟨m, q, hq, hqt⟩)]
    have hwant : Region.wanted o (yielded l.toArray a'.tmps) = Region.wanted o (yielded l.toArray b.tmps) := by
      refine wanted_congr fun g x t hg ht => agree t ?_ fun hF => ?_
      · unfold Oper.looksAt
        refine List.mem_append_right _ ?_
        rw [hg]
        show t ∈ ((l.toArray[g]?).bind (·.dst)).toList
        rw [ht]
        simp
      · unfold guardW at hguard
        rw [hg] at hguard
        simp only [ht] at hguard
        have := List.all_eq_true.1 hguard _ hF
        simp at this
    have he : execOp a'.eval o = execOp (fillW Tb (slotv a') b).eval o := exec_congr (fun cs x => hsel i o cs x ho') fun t ht => by
      by_cases hb : t ∈ Tb
      · obtain ⟨_, m, q, _, hq, hqt⟩ := f4 t hb
        have hlt := hn m q t hq hqt
        rw [fillW_in _ Tb b t hb (by rw [f3]; exact hlt)]
        exact slotv_some (by rw [hsz]; exact hlt)
      · rw [fillW_out _ Tb b t hb]
        exact agree t ht hb
    have hkn : knownW o Nb (slotv a') w1 := fun F hF hw => by
      obtain ⟨e, he, hb⟩ := List.any_eq_true.1 hw
      simp only [Bool.and_eq_true, beq_iff_eq] at hb
      exact hFF F (f6 F hF) (by rw [← hb.2]; exact hall e (by simpa using he) hb.1)
    have hut : untilU U i w1 := fun q hq hqi => hV q hq (by rw [hqi]; exact hil0)
    unfold wpOp
    simp only [ho']
    rw [hwant]
    by_cases hw : Region.wanted o (yielded l.toArray b.tmps) = true
    · rw [if_pos hw]
      rw [if_pos hw] at hcase
      refine .inl ?_
      rcases hcase with ⟨v, D, hDT, hv, hres, hDk⟩ | ⟨D, hDv, hin2, hDk⟩
      · refine wp_of_gives (gives_congr he (hv w1 (slotv a') hC1 hkn hut)) fun u w2 ⟨hu, hC2, hR⟩ => hkeep _ _ <| flowK_step l.toArray S R U hG hB hd hn hNf hJ ho hil0 hall hC2 hR hUs u (fun t ht _ => ?_) fun F hF hFk => ?_
        · obtain ⟨rfl, _⟩ := hu
          exact (hres t ht).1
        · obtain ⟨d, hd1, rfl⟩ := hDk F hF hFk
          have hm : d.1.map (updW (slotv a') o.dst u) = d.1.map (slotv a') := List.map_congr_left fun t ht => by
            unfold updW
            rw [if_neg]
            intro hdt
            obtain ⟨_, m, q, hmi, hq, hqt⟩ := f4 t (hDT d hd1 t ht)
            have := hd m i q o t hq ho hqt hdt
            omega
          show d.2 (d.1.map (updW (slotv a') o.dst u)) w2
          rw [hm]
          exact hu.2 d hd1
      · refine wp_of_gives (gives_congr he (hDv w1 (slotv a') hC1 hkn hut)) fun u w2 ⟨hu, hC2, hR⟩ => hkeep _ _ <| flowK_step l.toArray S R U hG hB hd hn hNf hJ ho hil0 hall hC2 hR hUs u (fun t ht hno => absurd (hin2 t ht) hno) fun F hF hFk => ?_
        obtain ⟨d, hd1, rfl⟩ := hDk F hF hFk
        exact hu d hd1
    · rw [if_neg hw]
      rw [if_neg hw] at hcase
      exact hkeep _ _ <| flowK_step l.toArray S R U hG hB hd hn hNf hJ ho hil0 hall hC1 (hRr i w1) hUs undef (fun t ht _ => (hcase.1 t ht).1) fun F hF hFk => absurd hFk (hcase.2 F hF)
  · -- the end
    rcases hJ with ⟨hnl, hJ0⟩ | ⟨m, hnm, hml, hsz2, hli, hq⟩
    case inr =>
      rcases Nat.lt_or_ge m l.length with h | h
      · exfalso
        have hms : m < l.toArray.size := by simpa using h
        have : m ∈ Region.ready .any l.toArray listed := mem_ready.2 ⟨by
          have h1 := hli m h
          have h2 : m < listed.size := by omega
          simpa [h2] using h1, _, Array.getElem?_eq_getElem hms, fun e he hb => by
            have hlt := (spec m _ (Array.getElem?_eq_getElem hms)).1 e he hb
            rw [hli e.on (by omega), decide_eq_true_eq]
            exact hlt⟩
        rw [hr] at this
        cases this
      · rw [List.drop_of_length_le h] at hq
        simpa [wpList] using hq
    have hJ1 := hJ0
    obtain ⟨hC1, hdf, hsz, hls, hU, hL, hFF, hD, hV⟩ := hJ0
    have hallj : ∀ (j : Nat) (p : Oper), G j = some p → listed.getD j false = true := by
      intro j
      induction j using Nat.strongRecOn with
      | _ j ih =>
        intro p hp
        cases hlj : listed.getD j false with
        | true => rfl
        | false =>
          exfalso
          have hjl : j < listed.size := by rw [hls]; exact (Array.getElem?_eq_some_iff.1 (hG _ _ hp)).1
          have : j ∈ Region.ready .any l.toArray listed := mem_ready.2 ⟨by simpa [hjl] using hlj, p, hG _ _ hp, fun e he hb => by
            have hlt := (spec j p (hG _ _ hp)).1 e he hb
            have hjn := hGlt j p hp
            have hel : e.on < l.toArray.size := by omega
            exact ih e.on hlt _ (hGof e.on _ (by omega) (Array.getElem?_eq_getElem hel))⟩
          rw [hr] at this
          cases this
    rcases Nat.lt_or_ge n l.length with hlt | hge
    · exfalso
      have hns : n < l.toArray.size := by simpa using hlt
      have hnl2 : n < listed.size := by rw [hls]; exact hns
      have : n ∈ Region.ready .any l.toArray listed := mem_ready.2 ⟨by have h1 := hnl n (Nat.le_refl _); simpa [hnl2] using h1, _, Array.getElem?_eq_getElem hns, fun e he hb => by
        have hlt := (spec n _ (Array.getElem?_eq_getElem hns)).1 e he hb
        have hel : e.on < l.toArray.size := by omega
        exact hallj e.on _ (hGof e.on _ hlt (Array.getElem?_eq_getElem hel))⟩
      rw [hr] at this
      cases this
    · have hq := atEnd listed a' w1 hJ1 hallj
      rw [List.drop_of_length_le hge] at hq
      simpa [wpList] using hq
  · rw [replicate_false] at hl; cases hl
  · rw [replicate_false] at hl; cases hl
  · rw [replicate_false] at hl; cases hl
theorem wp_region_flowu (n : Nat) (S : World → Prop) (R : Nat → World → World → Prop) (U : List (Nat × (World → Prop))) {P : Program} {id : Nat} {Q : Exit → Act → World → Prop} {a : Act} {w : World} {l : List Oper} (hm : P.follows .mixedOrders = true) (hB : flowB l.toArray a.tmps.size = true) (hLast : restB l.toArray n = true) (hRr : ∀ i w, R i w w) (hUs : ∀ q ∈ U, ∀ i w w', i ≠ q.1 → R i w w' → q.2 w → q.2 w') (hU0 : ∀ q ∈ U, q.2 w.drew) (hS : S w.drew)
    (h : wpU P l.toArray S R U (fun T N b => ∀ w' f, S w' → (∀ F ∈ N, F.says (F.dep.map f) w') → wpList P l.toArray Q (l.drop n) (fillW T f b) w') 0 (l.take n) [] [] a) : (Code.region id l.toArray true).wp P Q a w :=
  wp_region_any hm (any_flowu n S R U hm hB hLast hRr hUs hU0 hS h)
end Go.Proofs.Ytengegcnocdkoaa
end
section
namespace Go.Proofs.Ytengegcnocdkoaa
open Go.RowKit
section
variable {P : Program} {ops : Array Oper} {S : World → Prop} {R : Nat → World → World → Prop} {U : List (Nat × (World → Prop))} {End : List Tmp → List Fc → Act → Prop} {rest : List Oper} {k : Nat} {T : List Tmp} {N : List Fc} {a : Act} {o : Oper}
theorem flowu_nil (h : End T N a) : wpU P ops S R U End k [] T N a := h
theorem flowu_quiet (hRr : ∀ i w, R i w w) (hg : guardW ops T o = true) (hw : Region.wanted o (yielded ops a.tmps) = true) (hp : plainW ops T o = true) (hne : noEnterB o = true)
    (h : ∀ K : Act → Prop, (∀ a, wpU P ops S R U End (k + 1) rest T N a → K a) → o.quiet P a (fun w' => ∃ x : Cls S, w' = x.w) K) : wpU P ops S R U End k (o :: rest) T N a := by
  obtain ⟨v, hv, hn⟩ := h _ (fun _ h => h)
  refine ⟨hg, ?_⟩
  rw [if_pos hw]
  refine .inl (old_val P ops S R U ⟨v, fun w f hS _ _ => gives_congr (exec_plain (noEnter_select hne) hp f) ?_, hn⟩)
  have h1 := hv w ⟨⟨w, hS⟩, rfl⟩
  unfold Oper.quietAt at h1
  unfold gives
  have hno := fun f args w' => noEnter (P := P) (a := a) (w := w) (w' := w') (f := f) (args := args) hne
  generalize (execOp a.eval o).run P w = r at *
  cases r with
  | ok n w' =>
    cases n <;> simp only [Oper.quietUpon] at h1 <;> simp only
    case value u => obtain ⟨rfl, rfl⟩ := h1; exact ⟨rfl, hS, hRr _ _⟩
    case skip => obtain ⟨rfl, rfl⟩ := h1; exact ⟨rfl, hS, hRr _ _⟩
    case enter f args => exact absurd rfl (hno f args w')
  | halt x w' => simp only [Oper.quietUpon] at h1
/-- a call whose value is told ahead -/
theorem flowu_call {d : Option Tmp} {f : FuncId} {xs : Array Operand} {ts : Array TypeId} {t : TypeId} {ps : String} {af : Array Edge} {g : Option (Nat × Bool)}
    (hcf : ∀ (vals : Array Value) (w : World), (callFunc f vals).run P w = .ok (.enter f vals) w) (vals : Array Value) (hv : xs.map a.eval = vals)
    (hg : guardW ops T { dst := d, op := .call { callee := .value (.func f), args := xs, argTypes := ts }, type := t, pos := ps, after := af, guard := g } = true)
    (hw : Region.wanted { dst := d, op := .call { callee := .value (.func f), args := xs, argTypes := ts }, type := t, pos := ps, after := af, guard := g } (yielded ops a.tmps) = true)
    (hp : plainW ops T { dst := d, op := .call { callee := .value (.func f), args := xs, argTypes := ts }, type := t, pos := ps, after := af, guard := g } = true) (v : Value)
    (hc : ∀ x : Cls S, Calls P f vals x.w fun e w'' => e = .returned v ∧ S w'' ∧ R k x.w w'') (w0 : World)
    (h : ∀ K : Act → Prop, (∀ a, wpU P ops S R U End (k + 1) rest T N a → K a) → Oper.quiet P { dst := d, op := .assign (.const v), type := t, pos := "", after := #[], guard := none } a (fun _ => True) K) :
    wpU P ops S R U End k ({ dst := d, op := .call { callee := .value (.func f), args := xs, argTypes := ts }, type := t, pos := ps, after := af, guard := g } :: rest) T N a := by
  refine ⟨hg, ?_⟩
  rw [if_pos hw]
  refine .inl (old_val P ops S R U ⟨v, fun w f' hS _ _ => gives_congr (exec_plain (fun _ _ e => by cases e) hp f') ?_, on_value t h w0⟩)
  have he : (execOp a.eval { dst := d, op := .call { callee := .value (.func f), args := xs, argTypes := ts }, type := t, pos := ps, after := af, guard := g }).run P w = .ok (.enter f vals) w := by
    simp [execOp, resolve, Act.eval, Deferred.ofValue, invoke, hcf, ← hv]
  unfold gives
  rw [he]
  exact (hc ⟨w, hS⟩).mono fun e w'' ⟨he, hs, hr⟩ => ⟨v, he, rfl, hs, hr⟩
/-- an operation whose slot is told by a fact from then on -/
theorem flowu_fact0 {d : Tmp} {op : Op} {t : TypeId} {ps : String} {af : Array Edge} {g : Option (Nat × Bool)} (φ : List Value → World → Prop) (hst : ∀ l i w w', i ≠ k → R i w w' → φ l w → φ l w')
    (hrun : ∀ w f, S w → knownW { dst := some d, op := op, type := t, pos := ps, after := af, guard := g } N f w → untilU U k w → gives P { dst := some d, op := op, type := t, pos := ps, after := af, guard := g } (fillW T f a) w fun u w' => φ [u] w' ∧ S w' ∧ R k w w')
    (hg : guardW ops T { dst := some d, op := op, type := t, pos := ps, after := af, guard := g } = true) (hw : Region.wanted { dst := some d, op := op, type := t, pos := ps, after := af, guard := g } (yielded ops a.tmps) = true) (w0 : World)
    (h : ∀ K : Act → Prop, (∀ a, wpU P ops S R U End (k + 1) rest (d :: T) (⟨k, [d], φ⟩ :: N) a → K a) → Oper.quiet P { dst := some d, op := .assign (.const undef), type := t, pos := "", after := #[], guard := none } a (fun _ => True) K) :
    wpU P ops S R U End k ({ dst := some d, op := op, type := t, pos := ps, after := af, guard := g } :: rest) T N a := by
  refine ⟨hg, ?_⟩
  rw [if_pos hw]
  refine .inr ⟨[([d], φ)], fun x hx => ?_, fun w f hS hN hut => ?_, on_value t h w0⟩
  · obtain rfl : x = ([d], φ) := by simpa using hx
    exact ⟨fun t ht => .inl (by rw [List.mem_singleton.1 ht]), hst⟩
  · have := hrun w f hS hN hut
    have e : updW f (some d) = fun u t => if some d = some t then u else f t := rfl
    unfold gives at *
    generalize (execOp (fillW T f a).eval { dst := some d, op := op, type := t, pos := ps, after := af, guard := g }).run P w = r at *
    have key : ∀ u w', φ [u] w' ∧ S w' ∧ R k w w' → (∀ x ∈ [([d], φ)], x.2 (x.1.map (updW f (some d) u)) w') ∧ S w' ∧ R k w w' := fun u w' ⟨h1, h2, h3⟩ => ⟨fun x hx => by
      obtain rfl : x = ([d], φ) := by simpa using hx
      simpa [updW] using h1, h2, h3⟩
    cases r with
    | ok n w' =>
      cases n <;> simp only at this ⊢
      case value u => exact key _ _ this
      case skip => exact key _ _ this
      case enter f args => exact this.mono fun e w'' ⟨v, he, hp⟩ => ⟨v, he, key _ _ hp⟩
    | halt x w' => exact this
theorem flowu_fact {d : Tmp} {op : Op} {t : TypeId} {ps : String} {af : Array Edge} {g : Option (Nat × Bool)} (φ : List Value → World → Prop) (hst : ∀ l i w w', R i w w' → φ l w → φ l w')
    (hrun : ∀ w f, S w → knownW { dst := some d, op := op, type := t, pos := ps, after := af, guard := g } N f w → untilU U k w → gives P { dst := some d, op := op, type := t, pos := ps, after := af, guard := g } (fillW T f a) w fun u w' => φ [u] w' ∧ S w' ∧ R k w w')
    (hg : guardW ops T { dst := some d, op := op, type := t, pos := ps, after := af, guard := g } = true) (hw : Region.wanted { dst := some d, op := op, type := t, pos := ps, after := af, guard := g } (yielded ops a.tmps) = true) (w0 : World)
    (h : ∀ K : Act → Prop, (∀ a, wpU P ops S R U End (k + 1) rest (d :: T) (⟨k, [d], φ⟩ :: N) a → K a) → Oper.quiet P { dst := some d, op := .assign (.const undef), type := t, pos := "", after := #[], guard := none } a (fun _ => True) K) :
    wpU P ops S R U End k ({ dst := some d, op := op, type := t, pos := ps, after := af, guard := g } :: rest) T N a :=
  flowu_fact0 φ (fun l i w w' _ => hst l i w w') hrun hg hw w0 h
/-- an operation whose value is the same in all that the facts tell -/
theorem flowu_val {d : Option Tmp} {op : Op} {t : TypeId} {ps : String} {af : Array Edge} {g : Option (Nat × Bool)} (v : Value)
    (hrun : ∀ w f, S w → knownW { dst := d, op := op, type := t, pos := ps, after := af, guard := g } N f w → untilU U k w → gives P { dst := d, op := op, type := t, pos := ps, after := af, guard := g } (fillW T f a) w fun u w' => u = v ∧ S w' ∧ R k w w')
    (hg : guardW ops T { dst := d, op := op, type := t, pos := ps, after := af, guard := g } = true) (hw : Region.wanted { dst := d, op := op, type := t, pos := ps, after := af, guard := g } (yielded ops a.tmps) = true) (w0 : World)
    (h : ∀ K : Act → Prop, (∀ a, wpU P ops S R U End (k + 1) rest T N a → K a) → Oper.quiet P { dst := d, op := .assign (.const v), type := t, pos := "", after := #[], guard := none } a (fun _ => True) K) :
    wpU P ops S R U End k ({ dst := d, op := op, type := t, pos := ps, after := af, guard := g } :: rest) T N a := by
  refine ⟨hg, ?_⟩
  rw [if_pos hw]
  exact .inl (old_val P ops S R U ⟨v, hrun, on_value t h w0⟩)
/-- a value that is told, and a fact on the world besides -/
theorem flowu_stay0 {d : Option Tmp} {op : Op} {t : TypeId} {ps : String} {af : Array Edge} {g : Option (Nat × Bool)} (v : Value) (ψ : List Value → World → Prop) (hst : ∀ l i w w', i ≠ k → R i w w' → ψ l w → ψ l w')
    (hrun : ∀ w f, S w → knownW { dst := d, op := op, type := t, pos := ps, after := af, guard := g } N f w → untilU U k w → gives P { dst := d, op := op, type := t, pos := ps, after := af, guard := g } (fillW T f a) w fun u w' => (u = v ∧ ψ [] w') ∧ S w' ∧ R k w w')
    (hg : guardW ops T { dst := d, op := op, type := t, pos := ps, after := af, guard := g } = true) (hw : Region.wanted { dst := d, op := op, type := t, pos := ps, after := af, guard := g } (yielded ops a.tmps) = true) (w0 : World)
    (h : ∀ K : Act → Prop, (∀ a, wpU P ops S R U End (k + 1) rest T (⟨k, [], ψ⟩ :: N) a → K a) → Oper.quiet P { dst := d, op := .assign (.const v), type := t, pos := "", after := #[], guard := none } a (fun _ => True) K) :
    wpU P ops S R U End k ({ dst := d, op := op, type := t, pos := ps, after := af, guard := g } :: rest) T N a := by
  refine ⟨hg, ?_⟩
  rw [if_pos hw]
  refine .inl ⟨v, [([], ψ)], fun x hx => ?_, fun w f h1 h2 h3 => ?_, on_value (Nx := wpU P ops S R U End (k + 1) rest T (⟨k, [], ψ⟩ :: N)) t h w0⟩
  · obtain rfl : x = ([], ψ) := by simpa using hx
    exact ⟨(fun t ht => by cases ht), hst⟩
  · have := hrun w f h1 h2 h3
    have key : ∀ u w', ((u = v ∧ ψ [] w') ∧ S w' ∧ R k w w') → (u = v ∧ ∀ x ∈ [(([] : List Tmp), ψ)], x.2 (x.1.map f) w') ∧ S w' ∧ R k w w' := fun u w' ⟨⟨q1, q2⟩, q3⟩ => ⟨⟨q1, fun x hx => by
      obtain rfl : x = ([], ψ) := by simpa using hx
      exact q2⟩, q3⟩
    unfold gives at *
    generalize (execOp (fillW T f a).eval { dst := d, op := op, type := t, pos := ps, after := af, guard := g }).run P w = r at *
    cases r with
    | ok n w' =>
      cases n <;> simp only at this ⊢
      case value u => exact key _ _ this
      case skip => exact key _ _ this
      case enter f args => exact this.mono fun e w'' ⟨v, he, hp⟩ => ⟨v, he, key _ _ hp⟩
    | halt x w' => exact this
end
end Go.Proofs.Ytengegcnocdkoaa
end
section
namespace Go.Proofs.Ytengegcnocdkoaa
open Go.RowKit
def noDefer (o : Oper) : Bool := match o.op with
  | .defer _ => false
  | _ => true
theorem noDefer_spec {o : Oper} (h : noDefer o = true) : ∀ c, o.op ≠ .defer c := by
  intro c e
  unfold noDefer at h
  rw [e] at h
  cases h
theorem rowsIn_round {n l : Nat} {P : Program} {row : String} {args : Array Value} {w : World} {R : Value → World → Prop} (h : Rows P row args w R) : RowsIn (Fence.wide.inRound l) n P row args w R := by
  intro c cs _
  obtain ⟨v, w', r, s⟩ := h c cs
  exact ⟨v, w', r, stepsIn_wide.2 s⟩
theorem op_inRound {P : Program} {o : Oper} {a : Act} {w : World} {K : Act → World → Prop} {Q : Exit → Act → World → Prop} {n l : Nat} (hd : noDefer o = true) (h : o.wp P a w K Q) : o.wpIn (Fence.wide.inRound l) n P a w K Q := by
  unfold Oper.wpIn
  refine ⟨fun f _ => trivial, ?_⟩
  rw [Oper.semAt_eq _ _ _ (noDefer_spec hd)]
  unfold Oper.wp at h
  generalize (execOp a.eval o).run P w = r at *
  cases r with
  | ok x w' =>
    cases x <;> simp only [Oper.upon, Oper.uponIn] at h ⊢
    case value => exact h
    case skip => exact h
    case defer => exact h
    case enter f args => exact ⟨(fun hh => Bool.noConfusion hh), CallsIn.inRound l (callsIn_wide.2 h)⟩
    case row => exact ⟨(fun hh => Bool.noConfusion hh), rowsIn_round h⟩
  | halt x w' => cases x <;> simp only [Oper.upon, Oper.uponIn] at h ⊢ <;> exact h
theorem any_inRound {P : Program} {md : Region.Mode} {ops : Array Oper} {Q : Exit → Act → World → Prop} {n l : Nat} (hQ : ¬ LetsOut Q) (hd : ops.toList.all noDefer = true) :
    ∀ (fuel : Nat) (listed : Array Bool) (a : Act) (w : World), wpAny P md ops Q fuel listed a w → wpAnyIn (Fence.wide.inRound l) n P md ops Q fuel listed a w := by
  intro fuel
  induction fuel with
  | zero => intro listed a w h; exact h
  | succ fuel ih =>
    intro listed a w ⟨h1, h2⟩
    refine ⟨h1, fun i hi => ?_⟩
    have h3 := h2 i hi
    unfold wpOp at h3
    unfold wpOpIn
    cases ho : ops[i]? with
    | none => simp only [ho] at h3 ⊢; exact ih _ _ _ h3
    | some o =>
      simp only [ho] at h3 ⊢
      have hdo : noDefer o = true := by
        rw [List.all_eq_true] at hd
        exact hd o (by simpa using Array.mem_of_getElem? ho)
      split
      · rename_i hw
        rw [if_pos hw] at h3
        exact Oper.wpIn_mono (fun a w => ih _ _ _) (op_inRound hdo (h3.resolve_right fun h => hQ h.2))
      · rename_i hw
        rw [if_neg hw] at h3
        exact ⟨fun f _ => trivial, ih _ _ _ h3⟩
theorem wpIn_region_flow (m : Nat) (S : World → Prop) (R : World → World → Prop) {P : Program} {id n l : Nat} {Q : Exit → Act → World → Prop} {a : Act} {w : World} {ops : List Oper} (hm : P.follows .mixedOrders = true) (hQ : ¬ LetsOut Q) (hd : ops.all noDefer = true) (hB : flowB ops.toArray a.tmps.size = true) (hLast : restB ops.toArray m = true) (hRr : ∀ w, R w w) (hS : S w.drew)
    (h : wpW P ops.toArray S R (fun T N b => ∀ w' f, S w' → (∀ F ∈ N, F.says (F.dep.map f) w') → wpList P ops.toArray Q (ops.drop m) (fillW T f b) w') 0 (ops.take m) [] [] a) : (Code.region id ops.toArray true).wpIn (Fence.wide.inRound l) n P Q a w :=
  wpIn_region_any hm (any_inRound hQ (by simpa using hd) _ _ _ _ (any_flow m S R hm hB hLast hRr hS h))
theorem wpIn_region_flowu (m : Nat) (S : World → Prop) (R : Nat → World → World → Prop) (U : List (Nat × (World → Prop))) {P : Program} {id n l : Nat} {Q : Exit → Act → World → Prop} {a : Act} {w : World} {ops : List Oper} (hm : P.follows .mixedOrders = true) (hQ : ¬ LetsOut Q) (hd : ops.all noDefer = true) (hB : flowB ops.toArray a.tmps.size = true) (hLast : restB ops.toArray m = true) (hRr : ∀ i w, R i w w) (hUs : ∀ q ∈ U, ∀ i w w', i ≠ q.1 → R i w w' → q.2 w → q.2 w') (hU0 : ∀ q ∈ U, q.2 w.drew) (hS : S w.drew)
    (h : wpU P ops.toArray S R U (fun T N b => ∀ w' f, S w' → (∀ F ∈ N, F.says (F.dep.map f) w') → wpList P ops.toArray Q (ops.drop m) (fillW T f b) w') 0 (ops.take m) [] [] a) : (Code.region id ops.toArray true).wpIn (Fence.wide.inRound l) n P Q a w :=
  wpIn_region_any hm (any_inRound hQ (by simpa using hd) _ _ _ _ (any_flowu m S R U hm hB hLast hRr hUs hU0 hS h))
end Go.Proofs.Ytengegcnocdkoaa
end
section
namespace Go.Proofs.Ytengegcnocdkoaa
open Go.RowKit Go.BigFrame
section
variable {P : Program} {ops : Array Oper} {S : World → Prop} {R : World → World → Prop} {End : List Tmp → List Fc → Act → Prop} {rest : List Oper} {k : Nat} {T : List Tmp} {N : List Fc} {a : Act} {o : Oper}
/-- what is known of a variable that was just laid -/
def newVar (B : Nat) (E : TypeId) (z : Array Value) (l : List Value) (W : World) : Prop := ∃ g, l = [.pointer (some ⟨g, 0, none⟩)] ∧ B ≤ g ∧ Blk W g E z
theorem newVar.of {B : Nat} {E : TypeId} {z : Array Value} (l : List Value) (w w' : World) (hb : Below w.heap.size w w') (h : newVar B E z l w) : newVar B E z l w' := by
  obtain ⟨g, h1, h2, h3⟩ := h
  exact ⟨g, h1, h2, h3.below hb h3.lt⟩
theorem flow_lay (B : Nat) (z : Array Value) {E : TypeId} {d : Nat} {t : TypeId} {ps : String} {af : Array Edge} {g : Option (Nat × Bool)}
    (hrun : ∀ w : World, (Instr.alloc E true (.tuple #[])).run P w = .ok (.pointer (some ⟨w.heap.size, 0, none⟩)) (w.alloc (.cells z E)))
    (hS : ∀ w w', S w → Below w.heap.size w w' → S w') (hB : ∀ w, S w → B ≤ w.heap.size)
    (hg : guardW ops T { dst := some d, op := .alloc E, type := t, pos := ps, after := af, guard := g } = true)
    (hw : Region.wanted { dst := some d, op := .alloc E, type := t, pos := ps, after := af, guard := g } (yielded ops a.tmps) = true) (w0 : World)
    (h : ∀ K : Act → Prop, (∀ a, wpW P ops S (fun w w' => Below w.heap.size w w') End (k + 1) rest (d :: T) (⟨k, [d], newVar B E z⟩ :: N) a → K a) → Oper.quiet P { dst := some d, op := .assign (.const undef), type := t, pos := "", after := #[], guard := none } a (fun _ => True) K) :
    wpW P ops S (fun w w' => Below w.heap.size w w') End k ({ dst := some d, op := .alloc E, type := t, pos := ps, after := af, guard := g } :: rest) T N a :=
  flow_fact (newVar B E z) newVar.of (fun w f hs hN => by
    have hb : Below w.heap.size w (w.alloc (.cells z E)) := (Below.refl _ _).alloc (Nat.le_refl _) _
    unfold gives
    simp only [execOp, Sem.run_bind]
    rw [hrun]
    exact ⟨⟨_, rfl, hB w hs, Blk.new _ _ _⟩, hS _ _ hs hb, hb⟩) hg hw w0 h
/-- what is told of a value with a new row in it -/
def rowIn (mk : Value → Value) (E : TypeId) (cs : Array Value) (n : Nat) (l : List Value) (W : World) : Prop := ∃ g, l = [mk (.slice (some ⟨g, 0, none⟩) n n)] ∧ Blk W g E cs
theorem rowIn.of {mk : Value → Value} {E : TypeId} {cs : Array Value} {n : Nat} (l : List Value) (w w' : World) (hb : Below w.heap.size w w') (h : rowIn mk E cs n l w) : rowIn mk E cs n l w' := by
  obtain ⟨g, h1, h3⟩ := h
  exact ⟨g, h1, h3.below hb h3.lt⟩
end
/-- the worlds that differ from W0 in new blocks alone -/
def Fresh (W0 W : World) : Prop := Below W0.heap.size W0 W
theorem Fresh.below {W0 W W' : World} (h : Fresh W0 W) (hb : Below W.heap.size W W') : Fresh W0 W' := Below.trans h (hb.mono (Below.size h))
end Go.Proofs.Ytengegcnocdkoaa
end
section
namespace Go.Proofs.Ytengegcnocdkoaa
open Go.ChangeShapes Go.WideShapes Go.ChangeAt Go.RowKit Go.Maps
open Go.MapKept (Stamped)
open Go.ChangeMaps (setBlock)
/-- how any element reads: as itself -/
def asHeld (v : Value) : Option (DataW Value × List MemPlace) := some (.held v, [])
/-- block b is a map with n entries: M tells what stands at a key -/
def MapIs (P : Program) (k : TypeId) (w : World) (b n : Nat) (M : Lit → Option Value) : Prop :=
  ∃ D : DataW Value, w.ownsMap P k asHeld b n D ∧ Maps.size D = n ∧ ∀ kl, WideAt.IsKeyLit kl → ((M kl = none ∧ Maps.has D kl = false) ∨ ∃ v, M kl = some v ∧ Maps.has D kl = true ∧ ∀ z, D.atKey kl z = .held v)
open Classical in
/-- a function, changed at one key -/
noncomputable def updM (M : Lit → Option Value) (kl : Lit) (v : Option Value) : Lit → Option Value := fun x => if x = kl then v else M x
theorem updM_same (M : Lit → Option Value) (kl : Lit) (v : Option Value) : updM M kl v kl = v := by simp [updM]
theorem updM_other (M : Lit → Option Value) {kl x : Lit} (v : Option Value) (h : x ≠ kl) : updM M kl v x = M x := by simp [updM, h]
section
variable {P : Program} {k : TypeId} {w : World} {b n : Nat} {M : Lit → Option Value}
theorem MapIs.lt (h : MapIs P k w b n M) : b < w.heap.size := by obtain ⟨D, h1, _⟩ := h; exact h1.lt
theorem MapIs.kept {w' : World} {row : Option Nat} (h : MapIs P k w b n M) (hg : w.grownBy w' row) (hne : some b ≠ row) : MapIs P k w' b n M := by
  obtain ⟨D, h1, h2⟩ := h; exact ⟨D, h1.kept hg hne, h2⟩
theorem MapIs.alloc (h : MapIs P k w b n M) (o : Obj) : MapIs P k (w.alloc o) b n M := h.kept (World.grownBy_alloc w o none) (by simp)
theorem MapIs.drew (h : MapIs P k w b n M) : MapIs P k w.drew b n M := h
theorem MapIs.drewN (h : MapIs P k w b n M) (q : Nat) : MapIs P k (w.drewN q) b n M := h
theorem MapIs.setCell (h : MapIs P k w b n M) {a : Addr} (ha : b ≠ a.block) (u : Value) : MapIs P k (w.setCell a u) b n M := by
  obtain ⟨D, h1, h2⟩ := h; exact ⟨D, h1.setCell ha u, h2⟩
theorem MapIs.made (P : Program) (k : TypeId) (w : World) : MapIs P k (w.alloc (.map #[] 0)) w.heap.size 0 (fun _ => none) :=
  ⟨_, World.ownsMap_made w P k asHeld, rfl, fun kl _ => .inl ⟨rfl, rfl⟩⟩
theorem MapIs.below {w' : World} {N : Nat} (h : MapIs P k w b n M) (hb : Below N w w') (hN : b < N) : MapIs P k w' b n M := by
  obtain ⟨D, ⟨es, clock, h1, r⟩, h2⟩ := h
  exact ⟨D, ⟨es, clock, (hb.block b hN).trans h1, r⟩, h2⟩
/-- m[k] -/
theorem MapIs.look {t e : TypeId} (h : MapIs P k w b n M) (K : Keyed P k) (ht : P.underlying t = some (.map k e)) {z : Value} (hz : (zeroValue e).run P w = .ok z w)
    {key : Value} {kl : Lit} (hkey : keyOf P k key = some kl) : (Instr.lookup t (.map (some b)) key false).run P w = .ok ((M kl).getD z) w := by
  obtain ⟨D, h1, _, h2⟩ := h
  obtain ⟨v, ps, hr, hv⟩ := h1.lookup K ht hz (zd := .held z) rfl hkey
  rw [hr]
  simp only [asHeld, Option.some.injEq, Prod.mk.injEq] at hv
  rcases h2 kl (K.key hkey) with ⟨e1, e2⟩ | ⟨u, e1, e2, e3⟩
  · rw [atKey_of_not_has e2] at hv
    rw [e1]; injection hv.1 with e; rw [e]; rfl
  · rw [e3] at hv
    rw [e1]; injection hv.1 with e; rw [e]; rfl
/-- len(m) -/
theorem MapIs.len {t e : TypeId} (h : MapIs P k w b n M) (ht : P.underlying t = some (.map k e)) (ty : TypeId) : (Builtin.len_ #[t] ty #[.map (some b)]).run P w = .ok (.int .i64 n) w := by
  obtain ⟨D, h1, h2, _⟩ := h
  rw [h1.len ht ty, h2]
/-- m[k] = v -/
theorem MapIs.store {t e : TypeId} (h : MapIs P k w b n M) (K : Keyed P k) (ht : P.underlying t = some (.map k e)) (hn : n < maxLen) {key val : Value} {kl : Lit}
    (hkey : keyOf P k key = some kl) : ∃ w', (Instr.mapUpdate t (.map (some b)) key val).run P w = .ok () w' ∧ MapIs P k w' b (if (M kl).isSome then n else n + 1) (updM M kl (some val)) ∧ w.mapTurned w' b := by
  obtain ⟨D, h1, h3, h2⟩ := h
  obtain ⟨w', hr, ho, hg⟩ := h1.store K ht hn hkey (val := val) (d := .held val) (ps := []) rfl
  have hik := K.key hkey
  have hti := h1.tidy K
  have hsz : Maps.size (D.put kl (.held val)) = if (M kl).isSome then n else n + 1 := by
    rw [Maps.size_put hti, h3]
    rcases h2 kl hik with ⟨e1, e2⟩ | ⟨u, e1, e2, e3⟩ <;> rw [e1, e2] <;> rfl
  refine ⟨w', hr, ⟨D.put kl (.held val), ?_, hsz, ?_⟩, hg⟩
  · obtain ⟨es, clock, q1, q2, q3, q4⟩ := ho
    refine ⟨es, clock, q1, q2, ?_, q4⟩
    rw [← hsz, q4]
    simp [Maps.size, length_sorted]
  · intro x hx
    by_cases hxe : x = kl
    · subst hxe
      rw [updM_same]
      exact .inr ⟨val, rfl, has_put_same hti.isMap hx _, fun z => atKey_put_same hti.isMap hx _ z⟩
    · rw [updM_other M _ hxe]
      rcases h2 x hx with ⟨e1, e2⟩ | ⟨u, e1, e2, e3⟩
      · exact .inl ⟨e1, by rw [has_put_other hxe]; exact e2⟩
      · exact .inr ⟨u, e1, by rw [has_put_other hxe]; exact e2, fun z => by rw [atKey_put_other hxe]; exact e3 z⟩
/-- delete(m, k) -/
theorem MapIs.drop {t e : TypeId} (h : MapIs P k w b n M) (K : Keyed P k) (ht : P.underlying t = some (.map k e)) {key : Value} {kl : Lit} (hkey : keyOf P k key = some kl) (ty : TypeId) :
    ∃ w', (Builtin.delete_ #[t, k] ty #[.map (some b), key]).run P w = .ok (.tuple #[]) w' ∧ MapIs P k w' b (if (M kl).isSome then n - 1 else n) (updM M kl none) ∧ w.mapTurned w' b := by
  obtain ⟨D, h1, h3, h2⟩ := h
  obtain ⟨w', hr, ho, hg⟩ := h1.drop K ht hkey ty
  have hik := K.key hkey
  have hti := h1.tidy K
  have hsz : Maps.size (D.del kl) = if (M kl).isSome then n - 1 else n := by
    have := Maps.size_del (k := kl) hti
    rw [h3] at this
    rcases h2 kl hik with ⟨e1, e2⟩ | ⟨u, e1, e2, e3⟩ <;> rw [e2] at this <;> rw [e1] <;> simp at this ⊢ <;> omega
  refine ⟨w', hr, ⟨D.del kl, ?_, hsz, ?_⟩, hg⟩
  · obtain ⟨es, clock, q1, q2, q3, q4⟩ := ho
    refine ⟨es, clock, q1, q2, ?_, q4⟩
    rw [← hsz, q4]
    simp [Maps.size, length_sorted]
  · intro x hx
    by_cases hxe : x = kl
    · subst hxe
      rw [updM_same]
      exact .inl ⟨rfl, has_del_same⟩
    · rw [updM_other M _ hxe]
      rcases h2 x hx with ⟨e1, e2⟩ | ⟨u, e1, e2, e3⟩
      · exact .inl ⟨e1, by rw [has_del_other hxe]; exact e2⟩
      · exact .inr ⟨u, e1, by rw [has_del_other hxe]; exact e2, fun z => by rw [atKey_del_other hxe]; exact e3 z⟩
/-- so many entries -/
theorem MapIs.size (h : MapIs P k w b n M) : ∃ es clock, w.heap[b]? = some (.map es clock) ∧ es.size = n := by
  obtain ⟨D, ⟨es, clock, q1, q2, q3, q4⟩, h3, h2⟩ := h
  refine ⟨es, clock, q1, ?_⟩
  rw [q4] at h3
  simpa [Maps.size, length_sorted] using h3
/-- a block that holds a map is not written to by a turn of another one -/
theorem MapIs.turned {w' : World} {b2 : Nat} (h : MapIs P k w b n M) (ht : w.mapTurned w' b2) (hne : b ≠ b2) : MapIs P k w' b n M := h.kept ht.grown (by intro e; injection e with e; exact hne e)
theorem MapIs.congr {M' : Lit → Option Value} {n' : Nat} (h : MapIs P k w b n M) (hM : M = M') (hn : n = n') : MapIs P k w b n' M' := by subst hM hn; exact h
end
section
variable {P : Program} {ops : Array Oper} {rest : List Oper} {o : Oper} {a : Act} {Q : Exit → Act → World → Prop}
end
end Go.Proofs.Ytengegcnocdkoaa
end
section
namespace Go.Proofs.Ytengegcnocdkoaa
open Go.RowKit Go.BigFrame
open Go.ChangeMaps (setBlock)
/-- nothing turns but blocks of O, and those that are new -/
structure Out (O : Nat → Prop) (w w' : World) : Prop where
  os : w'.os = w.os
  tape : w'.tape = w.tape
  output : w'.output = w.output
  size : w.heap.size ≤ w'.heap.size
  block : ∀ i, i < w.heap.size → ¬ O i → w'.heap[i]? = w.heap[i]?
theorem Out.refl (O : Nat → Prop) (w : World) : Out O w w := ⟨rfl, rfl, rfl, Nat.le_refl _, fun _ _ _ => rfl⟩
theorem Out.trans {O O' : Nat → Prop} {a b c : World} (h : Out O a b) (k : Out O' b c) (hO : ∀ i, i < a.heap.size → O' i → O i) : Out O a c :=
  ⟨k.os.trans h.os, k.tape.trans h.tape, k.output.trans h.output, Nat.le_trans h.size k.size, fun i hi hn => (k.block i (Nat.lt_of_lt_of_le hi h.size) (fun hk => hn (hO i hi hk))).trans (h.block i hi hn)⟩
theorem Out.of_below {O : Nat → Prop} {w w' : World} (h : Below w.heap.size w w') : Out O w w' := ⟨h.os, h.tape, h.output, h.size, fun i hi _ => h.block i hi⟩
theorem Out.below {O : Nat → Prop} {N : Nat} {w w' : World} (h : Out O w w') (hN : N ≤ w.heap.size) (hO : ∀ i, i < N → ¬ O i) : Below N w w' := ⟨h.os, h.tape, h.output, h.size, fun i hi => h.block i (Nat.lt_of_lt_of_le hi hN) (hO i hi)⟩
theorem Out.grown {O : Nat → Prop} {w w' : World} {g : Nat} (h : w.grownBy w' (some g)) (hO : O g) : Out O w w' := ⟨h.os, h.tape, h.output, h.size, fun i hi hn => h.block i hi (by intro e; injection e with e; exact hn (e ▸ hO))⟩
theorem Out.mono {O O' : Nat → Prop} {w w' : World} (h : Out O w w') (hO : ∀ i, i < w.heap.size → O i → O' i) : Out O' w w' := ⟨h.os, h.tape, h.output, h.size, fun i hi hn => h.block i hi (fun hk => hn (hO i hi hk))⟩
theorem Out.set_ {O : Nat → Prop} {w W : World} {t : Nat} (h : Out O w W) (ht : O t) (i : Nat) (v : Value) : Out O w (W.setCell ⟨t, i, none⟩ v) :=
  Out.trans h (Out.grown (O := fun i => i = t) (g := t) (only_setCell ⟨rfl, rfl, rfl, Nat.le_refl _, fun _ _ _ => rfl⟩ (.inl rfl) v) rfl) (fun _ _ h => h ▸ ht)
theorem set_at {w : World} {b : Nat} {o : Obj} (o' : Obj) (h : w.heap[b]? = some o) : (setBlock w b o').heap[b]? = some o' := by
  have hlt : b < w.heap.size := (Array.getElem?_eq_some_iff.1 h).1
  simp [setBlock, Array.getElem?_setIfInBounds, hlt]
theorem set_other {w : World} {b c : Nat} (o' : Obj) (h : c ≠ b) : (setBlock w b o').heap[c]? = w.heap[c]? := by
  simp [setBlock, Array.getElem?_setIfInBounds, Ne.symm h]
section
variable {P : Program} {ops : Array Oper} {S : World → Prop} {R : Nat → World → World → Prop} {U : List (Nat × (World → Prop))} {End : List Tmp → List Fc → Act → Prop} {k : Nat} {rest : List Oper} {T : List Tmp} {N : List Fc} {a : Act}
end
/-- two maps, whose blocks are b1, b2: what each is ahead, between, and behind -/
structure Two where
  b1 : Nat
  b2 : Nat
  O0 : Obj
  O1 : Obj
  O2 : Value → Obj
  P0 : Obj
  P1 : Obj
  P2 : Value → Obj
  v : Value
structure TwoOk (q : Two) (B : Nat) : Prop where
  ne : q.b1 ≠ q.b2
  l1 : q.b1 < B
  l2 : q.b2 < B
  o01 : q.O0 ≠ q.O1
  o20 : ∀ x, q.O2 x ≠ q.O0
  o21 : ∀ g, q.O2 (.pointer (some ⟨g, 0, none⟩)) ≠ q.O1
  p01 : q.P0 ≠ q.P1
  p20 : q.P2 q.v ≠ q.P0
  p21 : q.P2 q.v ≠ q.P1
/-- what operation i may do (k1, k2: the first map's entry is made, and written; k3, k4: the second one's) -/
def RTwo (q : Two) (k1 k2 k3 k4 : Nat) (i : Nat) (w w' : World) : Prop :=
  Below w.heap.size w w' ∨ (i = k1 ∧ w.heap[q.b1]? = some q.O0 ∧ w' = setBlock w q.b1 q.O1) ∨ (i = k2 ∧ w.heap[q.b1]? = some q.O1 ∧ ∃ x, w' = setBlock w q.b1 (q.O2 x)) ∨
  (i = k3 ∧ w.heap[q.b2]? = some q.P0 ∧ w' = setBlock w q.b2 q.P1) ∨ (i = k4 ∧ w.heap[q.b2]? = some q.P1 ∧ w' = setBlock w q.b2 (q.P2 q.v))
def UTwo (q : Two) (k1 k2 k3 k4 : Nat) : List (Nat × (World → Prop)) :=
  [(k1, fun w => w.heap[q.b1]? = some q.O0), (k2, fun w => w.heap[q.b1]? = some q.O0 ∨ w.heap[q.b1]? = some q.O1), (k3, fun w => w.heap[q.b2]? = some q.P0), (k4, fun w => w.heap[q.b2]? = some q.P0 ∨ w.heap[q.b2]? = some q.P1)]
def F1 (q : Two) (l : List Value) (w : World) : Prop := ∃ o, w.heap[q.b1]? = some o ∧ o ≠ q.O0
def F2 (q : Two) (l : List Value) (w : World) : Prop := ∃ g, l = [.pointer (some ⟨g, 0, none⟩)] ∧ w.heap[q.b1]? = some (q.O2 (.pointer (some ⟨g, 0, none⟩)))
def F3 (q : Two) (l : List Value) (w : World) : Prop := ∃ o, w.heap[q.b2]? = some o ∧ o ≠ q.P0
def F4 (q : Two) (l : List Value) (w : World) : Prop := w.heap[q.b2]? = some (q.P2 q.v)
theorem at_below {w w' : World} {b : Nat} {o : Obj} (h : w.heap[b]? = some o) (hb : Below w.heap.size w w') : w'.heap[b]? = some o := (hb.block b (Array.getElem?_eq_some_iff.1 h).1).trans h
section
variable {q : Two} {B k1 k2 k3 k4 : Nat} (h : TwoOk q B)
include h
theorem F1.stays : ∀ l i w w', RTwo q k1 k2 k3 k4 i w w' → F1 q l w → F1 q l w' := by
  rintro l i w w' (hb | ⟨_, h0, rfl⟩ | ⟨_, h0, x, rfl⟩ | ⟨_, h0, rfl⟩ | ⟨_, h0, rfl⟩) ⟨o, ho, hne⟩
  · exact ⟨o, at_below ho hb, hne⟩
  · exact ⟨_, set_at _ h0, h.o01.symm⟩
  · exact ⟨_, set_at _ h0, h.o20 _⟩
  · exact ⟨o, (set_other _ h.ne).trans ho, hne⟩
  · exact ⟨o, (set_other _ h.ne).trans ho, hne⟩
theorem F2.stays : ∀ l i w w', RTwo q k1 k2 k3 k4 i w w' → F2 q l w → F2 q l w' := by
  rintro l i w w' (hb | ⟨_, h0, rfl⟩ | ⟨_, h0, x, rfl⟩ | ⟨_, h0, rfl⟩ | ⟨_, h0, rfl⟩) ⟨g, hl, ho⟩
  · exact ⟨g, hl, at_below ho hb⟩
  · rw [ho] at h0; injection h0 with h0; exact absurd h0 (h.o20 _)
  · rw [ho] at h0; injection h0 with h0; exact absurd h0 (h.o21 _)
  · exact ⟨g, hl, (set_other _ h.ne).trans ho⟩
  · exact ⟨g, hl, (set_other _ h.ne).trans ho⟩
theorem F3.stays : ∀ l i w w', RTwo q k1 k2 k3 k4 i w w' → F3 q l w → F3 q l w' := by
  rintro l i w w' (hb | ⟨_, h0, rfl⟩ | ⟨_, h0, x, rfl⟩ | ⟨_, h0, rfl⟩ | ⟨_, h0, rfl⟩) ⟨o, ho, hne⟩
  · exact ⟨o, at_below ho hb, hne⟩
  · exact ⟨o, (set_other _ h.ne.symm).trans ho, hne⟩
  · exact ⟨o, (set_other _ h.ne.symm).trans ho, hne⟩
  · exact ⟨_, set_at _ h0, h.p01.symm⟩
  · exact ⟨_, set_at _ h0, h.p20⟩
theorem F4.stays : ∀ l i w w', RTwo q k1 k2 k3 k4 i w w' → F4 q l w → F4 q l w' := by
  rintro l i w w' (hb | ⟨_, h0, rfl⟩ | ⟨_, h0, x, rfl⟩ | ⟨_, h0, rfl⟩ | ⟨_, h0, rfl⟩) ho
  · exact at_below ho hb
  · exact (set_other _ h.ne.symm).trans ho
  · exact (set_other _ h.ne.symm).trans ho
  · unfold F4 at ho; rw [ho] at h0; injection h0 with h0; exact absurd h0 h.p20
  · unfold F4 at ho; rw [ho] at h0; injection h0 with h0; exact absurd h0 h.p21
theorem UTwo.stays (hk : k1 < k2 ∧ k2 < k3 ∧ k3 < k4) : ∀ u ∈ UTwo q k1 k2 k3 k4, ∀ i w w', i ≠ u.1 → RTwo q k1 k2 k3 k4 i w w' → u.2 w → u.2 w' := by
  intro u hu i w w' hi hR hw
  simp only [UTwo, List.mem_cons, List.mem_nil_iff, or_false] at hu
  rcases hu with rfl | rfl | rfl | rfl
  · rcases hR with hb | ⟨e, h0, rfl⟩ | ⟨_, h0, x, rfl⟩ | ⟨_, h0, rfl⟩ | ⟨_, h0, rfl⟩
    · exact at_below hw hb
    · exact absurd e hi
    · simp only at hw; rw [hw] at h0; injection h0 with h0; exact absurd h0 h.o01
    · exact (set_other _ h.ne).trans hw
    · exact (set_other _ h.ne).trans hw
  · rcases hR with hb | ⟨e, h0, rfl⟩ | ⟨e, h0, x, rfl⟩ | ⟨_, h0, rfl⟩ | ⟨_, h0, rfl⟩
    · exact hw.imp (fun h => at_below h hb) (fun h => at_below h hb)
    · exact .inr (set_at _ h0)
    · exact absurd e hi
    · exact hw.imp (fun h' => (set_other _ h.ne).trans h') (fun h' => (set_other _ h.ne).trans h')
    · exact hw.imp (fun h' => (set_other _ h.ne).trans h') (fun h' => (set_other _ h.ne).trans h')
  · rcases hR with hb | ⟨e, h0, rfl⟩ | ⟨_, h0, x, rfl⟩ | ⟨e, h0, rfl⟩ | ⟨_, h0, rfl⟩
    · exact at_below hw hb
    · exact (set_other _ h.ne.symm).trans hw
    · exact (set_other _ h.ne.symm).trans hw
    · exact absurd e hi
    · simp only at hw; rw [hw] at h0; injection h0 with h0; exact absurd h0 h.p01
  · rcases hR with hb | ⟨e, h0, rfl⟩ | ⟨e, h0, x, rfl⟩ | ⟨_, h0, rfl⟩ | ⟨e, h0, rfl⟩
    · exact hw.imp (fun h => at_below h hb) (fun h => at_below h hb)
    · exact hw.imp (fun h' => (set_other _ h.ne.symm).trans h') (fun h' => (set_other _ h.ne.symm).trans h')
    · exact hw.imp (fun h' => (set_other _ h.ne.symm).trans h') (fun h' => (set_other _ h.ne.symm).trans h')
    · exact .inr (set_at _ h0)
    · exact absurd e hi
omit h in
theorem RTwo.refl : ∀ i w, RTwo q k1 k2 k3 k4 i w w := fun _ _ => .inl (Below.refl _ _)
omit h in
theorem RTwo.below : ∀ i w w', Below w.heap.size w w' → RTwo q k1 k2 k3 k4 i w w' := fun _ _ _ h => .inl h
end
/-- the class of worlds: nothing turned but the two maps -/
def STwo (q : Two) (W w : World) : Prop := Out (fun i => i = q.b1 ∨ i = q.b2) W w
theorem STwo.below {q : Two} {W w w' : World} (h : STwo q W w) (hb : Below w.heap.size w w') : STwo q W w' := Out.trans h (Out.of_below (O := fun _ => False) hb) (fun _ _ h => h.elim)
theorem STwo.size {q : Two} {W w : World} (h : STwo q W w) : W.heap.size ≤ w.heap.size := Out.size h
/-! stores into one more block, beside the second map -/
def BlkTo (g : Nat) (E : TypeId) (f : Bool → Bool → Array Value) (i k5 k6 : Nat) (w w' : World) : Prop :=
  w.grownBy w' (some g) ∧ ((i = k5 ∧ ∃ b1 b2, Blk w g E (f b1 b2) ∧ Blk w' g E (f true b2)) ∨ (i = k6 ∧ ∃ b1 b2, Blk w g E (f b1 b2) ∧ Blk w' g E (f b1 true)))
def RThree (q : Two) (g : Nat) (E : TypeId) (f : Bool → Bool → Array Value) (k3 k4 k5 k6 : Nat) (i : Nat) (w w' : World) : Prop := RTwo q 100000 100001 k3 k4 i w w' ∨ BlkTo g E f i k5 k6 w w'
def G1 (g : Nat) (E : TypeId) (f : Bool → Bool → Array Value) (l : List Value) (w : World) : Prop := ∃ b2, Blk w g E (f true b2)
def G2 (g : Nat) (E : TypeId) (f : Bool → Bool → Array Value) (l : List Value) (w : World) : Prop := ∃ b1, Blk w g E (f b1 true)
section
variable {q : Two} {B k3 k4 k5 k6 g : Nat} {E : TypeId} {f : Bool → Bool → Array Value} (h : TwoOk q B) (hg1 : g ≠ q.b1) (hg2 : g ≠ q.b2) (hf : ∀ b1 b2 c1 c2, f b1 b2 = f c1 c2 → f true b2 = f true c2 ∧ f b1 true = f c1 true)
include h hg1 hg2
theorem at_grown {w w' : World} {b : Nat} {o : Obj} (hb : w.heap[b]? = some o) (hg : w.grownBy w' (some g)) (hne : g ≠ b) : w'.heap[b]? = some o := (hg.block b (Array.getElem?_eq_some_iff.1 hb).1 (fun e => hne (Option.some.inj e).symm)).trans hb
theorem blk_two {cs : Array Value} {i : Nat} {w w' : World} (hr : RTwo q 100000 100001 k3 k4 i w w') (hb : Blk w g E cs) : Blk w' g E cs := by
  rcases hr with hb' | ⟨_, h0, rfl⟩ | ⟨_, h0, x, rfl⟩ | ⟨_, h0, rfl⟩ | ⟨_, h0, rfl⟩
  · exact hb.below hb' hb.lt
  all_goals exact (set_other _ (by first | exact hg1 | exact hg2)).trans hb
include hf
theorem G1.stays : ∀ l i w w', RThree q g E f k3 k4 k5 k6 i w w' → G1 g E f l w → G1 g E f l w' := by
  rintro l i w w' (hr | ⟨hg, ⟨_, b1, b2, q1, q2⟩ | ⟨_, b1, b2, q1, q2⟩⟩) ⟨c2, hb⟩
  · exact ⟨c2, blk_two h hg1 hg2 hr hb⟩
  · exact ⟨b2, q2⟩
  · have e : f b1 b2 = f true c2 := by unfold Blk at q1 hb; rw [q1] at hb; injection hb with hb; injection hb
    rw [(hf _ _ _ _ e).2] at q2
    exact ⟨true, q2⟩
theorem G2.stays : ∀ l i w w', RThree q g E f k3 k4 k5 k6 i w w' → G2 g E f l w → G2 g E f l w' := by
  rintro l i w w' (hr | ⟨hg, ⟨_, b1, b2, q1, q2⟩ | ⟨_, b1, b2, q1, q2⟩⟩) ⟨c1, hb⟩
  · exact ⟨c1, blk_two h hg1 hg2 hr hb⟩
  · have e : f b1 b2 = f c1 true := by unfold Blk at q1 hb; rw [q1] at hb; injection hb with hb; injection hb
    rw [(hf _ _ _ _ e).1] at q2
    exact ⟨true, q2⟩
  · exact ⟨b1, q2⟩
omit hf in
theorem UThree.stays (hk : k3 < k4 ∧ k4 < 100000) : ∀ u ∈ ([(k3, fun w => w.heap[q.b2]? = some q.P0), (k4, fun w => w.heap[q.b2]? = some q.P0 ∨ w.heap[q.b2]? = some q.P1)] : List (Nat × (World → Prop))), ∀ i w w', i ≠ u.1 → RThree q g E f k3 k4 k5 k6 i w w' → u.2 w → u.2 w' := by
  intro u hu i w w' hi hR hw
  rcases hR with hR | ⟨hg, _⟩
  · simp only [List.mem_cons, List.mem_nil_iff, or_false] at hu
    rcases hu with rfl | rfl
    · rcases hR with hb | ⟨e, h0, rfl⟩ | ⟨_, h0, x, rfl⟩ | ⟨e, h0, rfl⟩ | ⟨_, h0, rfl⟩
      · exact at_below hw hb
      · exact (set_other _ h.ne.symm).trans hw
      · exact (set_other _ h.ne.symm).trans hw
      · exact absurd e hi
      · simp only at hw; rw [hw] at h0; injection h0 with h0; exact absurd h0 h.p01
    · rcases hR with hb | ⟨e, h0, rfl⟩ | ⟨e, h0, x, rfl⟩ | ⟨_, h0, rfl⟩ | ⟨e, h0, rfl⟩
      · exact hw.imp (fun h => at_below h hb) (fun h => at_below h hb)
      · exact hw.imp (fun h' => (set_other _ h.ne.symm).trans h') (fun h' => (set_other _ h.ne.symm).trans h')
      · exact hw.imp (fun h' => (set_other _ h.ne.symm).trans h') (fun h' => (set_other _ h.ne.symm).trans h')
      · exact .inr (set_at _ h0)
      · exact absurd e hi
  · simp only [List.mem_cons, List.mem_nil_iff, or_false] at hu
    rcases hu with rfl | rfl
    · exact at_grown h hg1 hg2 hw hg hg2
    · exact hw.imp (fun h' => at_grown h hg1 hg2 h' hg hg2) (fun h' => at_grown h hg1 hg2 h' hg hg2)
end
theorem RThree.refl {q : Two} {k3 k4 k5 k6 g : Nat} {E : TypeId} {f : Bool → Bool → Array Value} : ∀ i w, RThree q g E f k3 k4 k5 k6 i w w := fun i w => .inl (RTwo.refl i w)
/-- nothing turned but the second map, and the block g, which is one of four -/
def SThree (q : Two) (g : Nat) (E : TypeId) (f : Bool → Bool → Array Value) (W w : World) : Prop := Out (fun i => i = g ∨ i = q.b2) W w ∧ ∃ b1 b2, Blk w g E (f b1 b2)
theorem SThree.below {q : Two} {g : Nat} {E : TypeId} {f : Bool → Bool → Array Value} {W w w' : World} (h : SThree q g E f W w) (hb : Below w.heap.size w w') : SThree q g E f W w' :=
  ⟨Out.trans h.1 (Out.of_below (O := fun _ => False) hb) (fun _ _ h => h.elim), by obtain ⟨b1, b2, k⟩ := h.2; exact ⟨b1, b2, k.below hb k.lt⟩⟩
end Go.Proofs.Ytengegcnocdkoaa
end
section
namespace Go.Proofs.Ytengegcnocdkoaa
open Go.RowKit
/-- operation ka writes into the block row (and makes new blocks), the others make new blocks -/
def RApp (ka : Nat) (row : Option Nat) (i : Nat) (w w' : World) : Prop := if i = ka then w.grownBy w' row else Below w.heap.size w w'
theorem RApp.of_below {ka : Nat} {row : Option Nat} {i : Nat} {w w' : World} (h : Below w.heap.size w w') : RApp ka row i w w' := by
  unfold RApp
  split
  · exact only_of_below h row
  · exact h
theorem RApp.refl {ka : Nat} {row : Option Nat} (i : Nat) (w : World) : RApp ka row i w w := RApp.of_below (Below.refl _ _)
theorem RApp.below {ka : Nat} {row : Option Nat} {i : Nat} {w w' : World} (h : RApp ka row i w w') (hi : i ≠ ka) : Below w.heap.size w w' := by
  unfold RApp at h
  rwa [if_neg hi] at h
theorem RApp.grown {ka : Nat} {row : Option Nat} {i : Nat} {w w' : World} (h : RApp ka row i w w') : w.grownBy w' row := by
  unfold RApp at h
  split at h
  · exact h
  · exact only_of_below h row
/-- what is known of a row that was just built -/
def rowAt (B : Nat) (E : TypeId) (cs : Array Value) (n : Nat) (l : List Value) (W : World) : Prop := ∃ g, l = [.slice (some ⟨g, 0, none⟩) n n] ∧ B ≤ g ∧ Blk W g E cs
theorem rowAt.stays {B : Nat} {E : TypeId} {cs : Array Value} {n ka : Nat} {row : Option Nat} (hrow : ∀ k, row = some k → k < B) (l : List Value) (i : Nat) (w w' : World) (hr : RApp ka row i w w') (h : rowAt B E cs n l w) : rowAt B E cs n l w' := by
  obtain ⟨g, h1, h2, h3⟩ := h
  exact ⟨g, h1, h2, h3.grown hr.grown (fun e => by have := hrow g e.symm; omega)⟩
/-- .. and of the row behind the append -/
def rowNow (B base : Nat) (E : TypeId) (size n : Nat) (xs : List Value) (row : Option Nat) (l : List Value) (W : World) : Prop :=
  ∃ v, l = [v] ∧ W.ownsRow base E size v n xs ∧ (v.ownBlock = row ∨ ∃ g, B ≤ g ∧ v.ownBlock = some g)
theorem rowNow.stays {B base : Nat} {E : TypeId} {size n : Nat} {xs : List Value} {row : Option Nat} {ka : Nat} (l : List Value) (i : Nat) (w w' : World) (hi : i ≠ ka) (hr : RApp ka row i w w') (h : rowNow B base E size n xs row l w) : rowNow B base E size n xs row l w' := by
  obtain ⟨v, h1, h2, h3⟩ := h
  refine ⟨v, h1, h2.kept (only_of_below (hr.below hi) none) ?_, h3⟩
  cases v.ownBlock <;> simp
section
variable {P : Program} {ops : Array Oper} {S : World → Prop} {U : List (Nat × (World → Prop))} {End : List Tmp → List Fc → Act → Prop} {rest : List Oper} {k : Nat} {T : List Tmp} {N : List Fc} {a : Act} {o : Oper} {ka : Nat} {row : Option Nat}
theorem flowx_build (B : Nat) {E : TypeId} {d A : Nat} {n : Nat} {parts : Array (Nat × Operand)} {t : TypeId} {ps : String} {af : Array Edge} {g : Option (Nat × Bool)} (vals : Array (Nat × Value)) (hv : (parts.map fun (i, x) => (i, a.eval x)) = vals) (cs : Array Value)
    (hrun : ∀ w : World, (Instr.buildSlice A n vals).run P w = .ok (.slice (some ⟨w.heap.size, 0, none⟩) n n) (w.alloc (.cells cs E)))
    (hS : ∀ w w', S w → Below w.heap.size w w' → S w') (hB : ∀ w, S w → B ≤ w.heap.size) (hrow : ∀ k, row = some k → k < B)
    (hp : plainW ops T { dst := some d, op := .buildSlice A n parts, type := t, pos := ps, after := af, guard := g } = true)
    (hg : guardW ops T { dst := some d, op := .buildSlice A n parts, type := t, pos := ps, after := af, guard := g } = true)
    (hw : Region.wanted { dst := some d, op := .buildSlice A n parts, type := t, pos := ps, after := af, guard := g } (yielded ops a.tmps) = true) (w0 : World)
    (h : ∀ K : Act → Prop, (∀ a, wpU P ops S (RApp ka row) U End (k + 1) rest (d :: T) (⟨k, [d], rowAt B E cs n⟩ :: N) a → K a) → Oper.quiet P { dst := some d, op := .assign (.const undef), type := t, pos := "", after := #[], guard := none } a (fun _ => True) K) :
    wpU P ops S (RApp ka row) U End k ({ dst := some d, op := .buildSlice A n parts, type := t, pos := ps, after := af, guard := g } :: rest) T N a :=
  flowu_fact (rowAt B E cs n) (rowAt.stays hrow) (fun w f hs hN hut => gives_congr (exec_plain (fun _ _ e => by cases e) hp f) (by
    have hb : Below w.heap.size w (w.alloc (.cells cs E)) := (Below.refl _ _).alloc (Nat.le_refl _) _
    unfold gives
    simp only [execOp, Sem.run_bind]
    rw [hv, hrun]
    exact ⟨⟨_, rfl, hB w hs, Blk.new _ _ _⟩, hS _ _ hs hb, RApp.of_below hb⟩)) hg hw w0 h
/-- the append of a row that a fact tells, to one that is owned until then -/
theorem flowx_append {d : Nat} {s : Operand} {y : Tmp} {t ty : TypeId} {ps : String} {af : Array Edge} {g : Option (Nat × Bool)} (B base : Nat) {E : TypeId} (i : TypeInfo) (z : Value) (size bytes : Nat) (ht : P.underlying t = some (.slice E)) (hi : P.info? E = some i) (hz : i.zero = some z)
    (hsize : i.size = size) (hby : i.bytes = bytes) (hzs : z.cells.size = size) (hsz : 0 < size) (v : Value) (n : Nat) (xs : List Value) (m : Nat) (cs : Array Value) (j : Nat) {iy : Nat}
    (hj : N[j]? = some ⟨iy, [y], rowAt B E cs m⟩) (hwt : waitsB { dst := some d, op := .call { callee := .builtin .append, args := #[s, .tmp y], argTypes := #[t, t] }, type := ty, pos := ps, after := af, guard := g } iy = true)
    (hyT : T.contains y = true) (hy : y < a.tmps.size) (hs : ∀ f, (fillW T f a).eval s = v) (hrow : v.ownBlock = row) (hk : k = ka)
    (hU : ∀ w, S w → untilU U k w → w.ownsRow base E size v n xs) (hcs : cs.size = m * size) (h1 : ∀ u ∈ cs.toList, u.oneCell' = true)
    (h63 : n + m ≤ maxLen) (hbytes : (n + m) * bytes ≤ 140737488355328) (hbase : ∀ w, S w → base ≤ w.heap.size) (hB : ∀ w, S w → B ≤ w.heap.size) (hS : ∀ w w', S w → w.grownBy w' row → S w')
    (hg : guardW ops T { dst := some d, op := .call { callee := .builtin .append, args := #[s, .tmp y], argTypes := #[t, t] }, type := ty, pos := ps, after := af, guard := g } = true)
    (hw : Region.wanted { dst := some d, op := .call { callee := .builtin .append, args := #[s, .tmp y], argTypes := #[t, t] }, type := ty, pos := ps, after := af, guard := g } (yielded ops a.tmps) = true) (w0 : World)
    (h : ∀ K : Act → Prop, (∀ a, wpU P ops S (RApp ka row) U End (k + 1) rest (d :: T) (⟨k, [d], rowNow B base E size (n + m) (xs ++ cs.toList) row⟩ :: N) a → K a) → Oper.quiet P { dst := some d, op := .assign (.const undef), type := ty, pos := "", after := #[], guard := none } a (fun _ => True) K) :
    wpU P ops S (RApp ka row) U End k ({ dst := some d, op := .call { callee := .builtin .append, args := #[s, .tmp y], argTypes := #[t, t] }, type := ty, pos := ps, after := af, guard := g } :: rest) T N a :=
  flowu_fact0 (rowNow B base E size (n + m) (xs ++ cs.toList) row) (fun l i w w' hi => rowNow.stays l i w w' (hk ▸ hi)) (fun w f hs1 hN hut => by
    obtain ⟨q, hq, hBq, hcq⟩ := known_at hN j hj hwt
    injection hq with hq
    have hrd : Reads w w.heap.size size (some ⟨q, 0, none⟩) m cs.toList := by
      refine ⟨by simpa using hcs, fun _ => ⟨_, rfl, hcq.lt, fun j u hu => ?_⟩⟩
      have : (⟨q, 0, none⟩ : Addr).add j = ⟨q, j, none⟩ := by unfold Addr.add; split <;> simp_all
      rw [this, hcq.cell j, ← hu]
      simp
    obtain ⟨v', w', hrun, r1, r2, r3⟩ := run_append_any (P := P) w base t ty E i z size bytes ht hi hz hsize hby hzs hsz v n xs (hU w hs1 hut) w.heap.size (some ⟨q, 0, none⟩) m m cs.toList hrd h1 h63 hbytes (hbase w hs1)
    unfold gives
    simp only [execOp, resolve, invoke, builtin, Sem.run_bind, Sem.run_pure, Result.andThen_ok, List.map_toArray, List.map_cons, List.map_nil, hs, fill_eval (by simpa using hyT) hy, hq, hrun]
    rw [hrow] at r2 r3
    refine ⟨⟨v', rfl, r1, ?_⟩, hS _ _ hs1 r2, ?_⟩
    · rcases r3 with e | e
      · exact .inl e
      · exact .inr ⟨_, hB w hs1, e⟩
    · unfold RApp
      rw [if_pos hk]
      exact r2) hg hw w0 h
end
/-- operation kc writes into blocks below B alone (and makes new ones), the others make new blocks -/
def RLow (kc B : Nat) (i : Nat) (w w' : World) : Prop := Below w.heap.size w w' ∨ (i = kc ∧ w.heap.size ≤ w'.heap.size ∧ ∀ g, B ≤ g → g < w.heap.size → w'.heap[g]? = w.heap[g]?)
theorem RLow.of_below {kc B i : Nat} {w w' : World} (h : Below w.heap.size w w') : RLow kc B i w w' := .inl h
theorem RLow.refl {kc B : Nat} (i : Nat) (w : World) : RLow kc B i w w := .inl (Below.refl _ _)
section
variable {P : Program} {ops : Array Oper} {S : World → Prop} {R : Nat → World → World → Prop} {U : List (Nat × (World → Prop))} {End : List Tmp → List Fc → Act → Prop} {rest : List Oper} {k : Nat} {T : List Tmp} {N : List Fc} {a : Act} {o : Oper}
end
end Go.Proofs.Ytengegcnocdkoaa
end
section
namespace Go.Proofs.Ytengegcnocdkoaa
open Go.RowKit Go.BigFrame
/-- the blocks of a segment's options, in memory -/
def blkCells (p : Int × Int) : List Value := [.int .u32 p.1, .int .u32 p.2]
def BRow (w : World) (A : Option Addr) (l : List (Int × Int)) : Prop :=
  l = [] ∨ ∃ rb off, A = some ⟨rb, off, none⟩ ∧ rb < w.heap.size ∧ ∀ j p, l[j]? = some p → w.cell? ⟨rb, off + j * 2, none⟩ = some (.int .u32 p.1) ∧ w.cell? ⟨rb, off + j * 2 + 1, none⟩ = some (.int .u32 p.2)
theorem BRow.below {w w' : World} {A : Option Addr} {l : List (Int × Int)} (h : BRow w A l) (hb : Below w.heap.size w w') : BRow w' A l := by
  rcases h with rfl | ⟨rb, off, rfl, h1, h2⟩
  · exact .inl rfl
  · exact .inr ⟨rb, off, rfl, Nat.lt_of_lt_of_le h1 hb.size, fun j p hj => ⟨(hb.cell (p := ⟨rb, off + j * 2, none⟩) h1).trans (h2 j p hj).1, (hb.cell (p := ⟨rb, off + j * 2 + 1, none⟩) h1).trans (h2 j p hj).2⟩⟩
/-- a block, turned by a -/
def turnB (a : Int) (p : Int × Int) : Int × Int := ((p.1 + a) % 4294967296, (p.2 + a) % 4294967296)
/-- a new row of its own, with the blocks l -/
def OwnB (w : World) (v : Value) (l : List (Int × Int)) (w' : World) : Prop := w'.ownsRow w.heap.size 92 2 v l.length (l.flatMap blkCells)
theorem infoB : (Try.prog.info? 92).map (fun i => (i.zero, i.size, i.bytes)) = some (some (.agg #[.int .u32 0, .int .u32 0]), 2, 8) := by kernel_rfl
theorem reads_two {w : World} {g : Nat} {t : TypeId} {a b : Value} {B : Nat} (h : Blk w g t #[a, b]) (hB : g < B) : Reads w B 2 (some ⟨g, 0, none⟩) 1 [a, b] := by
  refine ⟨rfl, fun _ => ⟨_, rfl, hB, fun j u hj => ?_⟩⟩
  have : (⟨g, 0, none⟩ : Addr).add j = ⟨g, j, none⟩ := by unfold Addr.add; split <;> simp_all
  rw [this, h.cell j, ← hj]
  simp
theorem blk_newB (w : World) (o : Obj) (t : TypeId) (cs : Array Value) : Blk ((w.alloc o).alloc (.cells cs t)) (w.heap.size + 1) t cs := by
  have := Blk.new (w.alloc o) t cs
  rwa [World.size_alloc] at this
/-- the three structs that Turned works with, and the row of blocks -/
def TriS (w : World) (gs gx gr : Nat) (cs xs zs : Array Value) (v : Value) (k : Nat) (rows : List Value) (W : World) : Prop :=
  Blk W gs 30 cs ∧ Blk W gx 46 xs ∧ Blk W gr 30 zs ∧ W.ownsRow w.heap.size 92 2 v k rows ∧ Below w.heap.size w W
theorem TriS.below {w : World} {gs gx gr : Nat} {cs xs zs : Array Value} {v : Value} {k : Nat} {rows : List Value} (W W' : World) (h : TriS w gs gx gr cs xs zs v k rows W) (hb : Below W.heap.size W W') : TriS w gs gx gr cs xs zs v k rows W' :=
  ⟨h.1.below hb h.1.lt, h.2.1.below hb h.2.1.lt, h.2.2.1.below hb h.2.2.1.lt, h.2.2.2.1.kept (only_of_below hb none) (Classical.em _), h.2.2.2.2.trans (hb.mono h.2.2.2.2.size)⟩
def scN (x : Int) : Nat := (min (max x 0) 14).toNat
theorem scN_le (x : Int) : scN x ≤ 14 := by unfold scN; omega
theorem scale_any (x : Int) (w : World) : Calls Try.prog 56 #[.int .i64 x] w fun e w' => e = .returned (.int .i64 ((scN x : Nat) : Int)) ∧ w = w' := by
  have h : min (max x 0) 14 = ((scN x : Nat) : Int) := by unfold scN; omega
  have H := Lib.hid h
  clear h
  go_enter Try.func56, Try.ntmps56
  go_wp2
  go_ret
  exact ⟨ret_int H.out, rfl⟩
/-- a window, turned -/
def winT (w up down : Int) : Int := min (w * 2 ^ scN up / 2 ^ scN down) 65535
theorem win_eq (s up down : Int) (u v : Nat) (hu : u = scN up) (hv : v = scN down) (h0 : 0 ≤ s) (h1 : s < 65536) : IntKind.u16.wrap (min (IntKind.u64.wrap (s * 2 ^ u) / 2 ^ v) 65535) = winT s up down := by
  have hu14 : u ≤ 14 := by rw [hu]; exact scN_le up
  have hp : (0 : Int) < 2 ^ u := Int.pow_pos (by decide)
  have hq : (0 : Int) < 2 ^ v := Int.pow_pos (by decide)
  have hp2 : (2 : Int) ^ u ≤ 16384 := by
    have : u = 0 ∨ u = 1 ∨ u = 2 ∨ u = 3 ∨ u = 4 ∨ u = 5 ∨ u = 6 ∨ u = 7 ∨ u = 8 ∨ u = 9 ∨ u = 10 ∨ u = 11 ∨ u = 12 ∨ u = 13 ∨ u = 14 := by omega
    rcases this with rfl | rfl | rfl | rfl | rfl | rfl | rfl | rfl | rfl | rfl | rfl | rfl | rfl | rfl | rfl <;> decide
  have hm0 : 0 ≤ s * 2 ^ u := Int.mul_nonneg h0 (by omega)
  have hm1 : s * 2 ^ u ≤ 65535 * 16384 := Int.mul_le_mul (by omega) hp2 (by omega) (by omega)
  have hd0 : 0 ≤ s * 2 ^ u / 2 ^ v := Int.ediv_nonneg hm0 (by omega)
  unfold winT
  rw [← hu, ← hv]
  have e1 : IntKind.u64.wrap (s * 2 ^ u) = s * 2 ^ u := by rw [IntKind.wrap_u64]; omega
  rw [e1, IntKind.wrap_u16]
  omega
/-- what Turned answers: a segment's cells, but for its blocks -/
def turnedC (s4 s5 s6 s7 s8 s9 : Int) (s10 s12 : Bool) (s13 s14 : Int) (s15 : ByteArray) (x0 x1 x2 x3 x4 x5 x6 x7 x8 x9 : Int) (V : Value) : Array Value :=
  #[.int .u32 x0, .int .u16 x1, .int .u32 x2, .int .u16 x3, .int .u32 ((s4 + x4) % 4294967296), .int .u32 (if (bits .and .u8 s6 16 != 0) = true then (s5 + x5) % 4294967296 else s5), .int .u8 s6, .int .u16 (winT s7 x8 x9), .int .u16 s8, .int .i64 s9, .bool s10, V, .bool s12,
    .int .u32 (if s12 = true then (s13 + x6) % 4294967296 else s13), .int .u32 (if s12 = true then (s14 + x7) % 4294967296 else s14), .string s15]
def TurnedPost (w : World) (mk : Value → Array Value) (l : List (Int × Int)) (e : Ending) (w' : World) : Prop :=
  ∃ A c, (l = [] → A = none ∧ c = 0) ∧ e = .returned (.agg (mk (.slice A l.length c))) ∧ OwnB w (.slice A l.length c) l w' ∧ Below w.heap.size w w'
end Go.Proofs.Ytengegcnocdkoaa
end
