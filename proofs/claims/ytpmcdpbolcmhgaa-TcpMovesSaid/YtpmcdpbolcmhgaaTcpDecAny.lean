/- Contracts of layer 6 (tcp): Decode, of what is neither too short nor too long. -/
import Derived.Test.YtpmcdpbolcmhgaaTcpDec
set_option linter.unusedVariables false
set_option linter.unusedSimpArgs false
namespace Go.Proofs.Ytpmcdpbolcmhgaa
open Go.RowKit Go.BigFrame

set_option maxRecDepth 100000 in
set_option maxHeartbeats 4000000 in
theorem dec_any (s d : Nat) (t : ByteArray) (w : World) (hs : s < 4294967296) (hd : d < 4294967296) (h20 : 20 ≤ t.size) (hl : t.size ≤ 65515) :
    Calls Try.prog 13 #[.int .u32 (s : Int), .int .u32 (d : Int), .string t] w fun e w' => e = .returned (decV s d t.data.toList) ∧ Below w.heap.size w w' := by
  obtain ⟨m, hm⟩ : ∃ m, m = t.size := ⟨_, rfl⟩
  have e1 : (t.size : Int) = (m : Int) := by omega
  have hm1 : 20 ≤ m := by omega
  have hm2 : m ≤ 65515 := by omega
  have b7 := fun W => ahead_ok s d m W hs hd (by omega)
  obtain ⟨ah, hah⟩ : ∃ ah : List UInt8, ah = aheadL s d m := ⟨_, rfl⟩
  have za : ah.length = 12 := by rw [hah]; rfl
  rw [← hah] at b7
  have hcat : catS [⟨ah.toArray⟩, t] = ah ++ t.data.toList := by simp [catS]
  obtain ⟨ok, hok⟩ : ∃ ok : Bool, ((ofL (ah ++ t.data.toList) : Int) == 0) = ok := ⟨_, rfl⟩
  have rl := fun W g (h : Blk W g 9 #[.string ⟨ah.toArray⟩, .string t]) => right_lit [⟨ah.toArray⟩, t] ok (by rw [hcat]; exact hok) (by
    intro x hx
    simp only [List.mem_cons, List.not_mem_nil, or_false] at hx
    rcases hx with rfl | rfl
    · show ah.length ≤ maxLen; rw [za]; decide
    · have : x.size ≤ 65515 := by omega
      exact Nat.le_trans this (by decide)) g 2 2 W rfl (by omega) h
  clear hcat
  have hbx := Blk.new w 25 zeroC
  have hb0 : Below w.heap.size w (w.alloc (.cells zeroC 25)) := (Below.refl _ _).alloc (Nat.le_refl _) _
  unfold zeroC at hbx hb0
  have j12 : 12 < t.size := by omega
  have j13 : 13 < t.size := by omega
  have l12 := (t[12]'j12).toNat_lt
  have l13 := (t[13]'j13).toNat_lt
  have k12 : ((t[12]'j12).toNat : Int) < 256 := by omega
  have k13 : ((t[13]'j13).toNat : Int) < 256 := by omega
  have i12 : (12 : Int) < (m : Int) := by omega
  have i13 : (13 : Int) < (m : Int) := by omega
  have B7 := Lib.hid b7
  clear b7
  have Rl := Lib.hid rl
  clear rl
  have Hok := Lib.hid hok
  clear hok
  have Hah := Lib.hid hah
  clear hah
  have Hm := Lib.hid hm
  clear hm
  have Hbx := Lib.hid hbx
  clear hbx
  have Hb0 := Lib.hid hb0
  clear hb0
  go_enter Try.func13, Try.ntmps13
  go_wp2_with fail
  generalize hW : w.alloc _ = W at *
  obtain ⟨x, hx⟩ : ∃ x, x = w.heap.size := ⟨_, rfl⟩
  rw [← hx] at Hbx ⊢
  have hxw : w.heap.size ≤ x := by omega
  have Hxw := Lib.hid hxw
  clear hxw
  clear hW hx
  with_reducible refine (B7.out _).mono ?_
  rintro e w1 ⟨rfl, hb1⟩
  go_wp2_with fail
  with_reducible refine (Rl.out _ _ (Blk.new _ _ _)).mono ?_
  rintro e w2 ⟨rfl, hb2⟩
  have hS : Below W.heap.size W w2 := hb1.trans ((((Below.refl _ _).alloc (Nat.le_refl _) _).trans (hb2.mono (by simp))).mono hb1.size)
  have hx2 := Hbx.out.below hS Hbx.out.lt
  have hbw : Below w.heap.size w w2 := Hb0.out.trans (hS.mono Hb0.out.size)
  clear hb1 hb2 hS Hb0 Hbx Rl B7
  have x0 := hx2.cell 0
  have x1 := hx2.cell 1
  have x2 := hx2.cell 2
  have x3 := hx2.cell 3
  have x4 := hx2.cell 4
  have x5 := hx2.cell 5
  have x6 := hx2.cell 6
  have x7 := hx2.cell 7
  simp at x0 x1 x2 x3 x4 x5 x6 x7
  have xf := hx2.frozen
  have Hx2 := Lib.hid hx2
  clear hx2
  have Hbw := Lib.hid hbw
  clear hbw
  have hlen : t.data.toList.length = t.size := rfl
  cases ok
  · have hE : decE s d t.data.toList = 55 := by
      have h55 : ofL (aheadL s d t.data.toList.length ++ t.data.toList) ≠ 0 := by
        have := Hok.out
        rw [hlen, ← Hm.out, ← Hah.out]
        intro h0
        rw [h0] at this
        cases this
      unfold decE
      rw [if_neg (by omega), if_neg (by omega), if_pos h55]
    have hV := decV_bad hE (by decide)
    have HV := Lib.hid hV
    clear hV
    clear hE hlen
    go_wp2
    rw [HV.out]
    clear x0 x1 x2 x3 x4 x5 x6 x7 xf
    generalize hWf : World.setCell _ _ _ = Wf
    have hf : Blk Wf x 25 zeroC := by
      rw [← hWf]
      exact blk_set8 Hx2.out _ _ _ _ _ _ _ _
    have hbf : Below w.heap.size w Wf := by
      rw [← hWf]
      exact below_set8 Hbw.out Hxw.out _ _ _ _ _ _ _ _
    clear hWf
    have x0 := hf.cell 0
    have x1 := hf.cell 1
    have x2 := hf.cell 2
    have x3 := hf.cell 3
    have x4 := hf.cell 4
    have x5 := hf.cell 5
    have x6 := hf.cell 6
    have x7 := hf.cell 7
    simp [zeroC] at x0 x1 x2 x3 x4 x5 x6 x7
    exact bodyPost_ret (v := badV 55) (by simp [results, Try.results13, go_sem, badV, zeroC, x0, x1, x2, x3, x4, x5, x6, x7]) rfl ⟨rfl, hbf⟩
  have h0 : ofL (aheadL s d t.data.toList.length ++ t.data.toList) = 0 := by
    have := Hok.out
    rw [hlen, ← Hm.out, ← Hah.out]
    have h1 := beq_iff_eq.1 this
    exact_mod_cast h1
  have hE : decE s d t.data.toList = if (t[12]'j12).toNat / 16 * 4 < 20 ∨ m < (t[12]'j12).toNat / 16 * 4 then 60 else if (t[12]'j12).toNat % 16 ≠ 0 ∨ 64 ≤ (t[13]'j13).toNat then 61 else 0 := by
    unfold decE
    rw [if_neg (by omega), if_neg (by omega), if_neg (by rw [h0]; simp), at0_get t 12 j12, at0_get t 13 j13, hlen, ← Hm.out]
  clear h0 hlen
  obtain ⟨c, hc⟩ : ∃ c, c = (t[12]'j12).toNat := ⟨_, rfl⟩
  obtain ⟨c3, hc3⟩ : ∃ c, c = (t[13]'j13).toNat := ⟨_, rfl⟩
  rw [← hc] at hE l12
  rw [← hc3] at hE l13
  by_cases ho : c / 16 * 4 < 20 ∨ m < c / 16 * 4
  · rw [if_pos ho] at hE
    have hV := decV_bad hE (by decide)
    have HV := Lib.hid hV
    clear hV
    clear hE
    by_cases ho1 : c / 16 * 4 < 20
    · have i5 : ((t[12]'j12).toNat : Int) / 16 * 4 < 20 := by omega
      have Ho := Lib.hid ho
      clear ho
      have Hc := Lib.hid hc
      clear hc
      have Hc3 := Lib.hid hc3
      clear hc3
      go_wp2
      rw [HV.out]
      clear x0 x1 x2 x3 x4 x5 x6 x7 xf
      generalize hWf : World.setCell _ _ _ = Wf
      have hf : Blk Wf x 25 zeroC := by
        rw [← hWf]
        exact blk_set8 Hx2.out _ _ _ _ _ _ _ _
      have hbf : Below w.heap.size w Wf := by
        rw [← hWf]
        exact below_set8 Hbw.out Hxw.out _ _ _ _ _ _ _ _
      clear hWf
      have x0 := hf.cell 0
      have x1 := hf.cell 1
      have x2 := hf.cell 2
      have x3 := hf.cell 3
      have x4 := hf.cell 4
      have x5 := hf.cell 5
      have x6 := hf.cell 6
      have x7 := hf.cell 7
      simp [zeroC] at x0 x1 x2 x3 x4 x5 x6 x7
      exact bodyPost_ret (v := badV 60) (by simp [results, Try.results13, go_sem, badV, zeroC, x0, x1, x2, x3, x4, x5, x6, x7]) rfl ⟨rfl, hbf⟩
    · have i5 : (20 : Int) ≤ ((t[12]'j12).toNat : Int) / 16 * 4 := by omega
      have i6 : (m : Int) < ((t[12]'j12).toNat : Int) / 16 * 4 := by omega
      have Ho := Lib.hid ho
      clear ho
      have Hc := Lib.hid hc
      clear hc
      have Hc3 := Lib.hid hc3
      clear hc3
      go_wp2
      rw [HV.out]
      clear x0 x1 x2 x3 x4 x5 x6 x7 xf
      generalize hWf : World.setCell _ _ _ = Wf
      have hf : Blk Wf x 25 zeroC := by
        rw [← hWf]
        exact blk_set8 Hx2.out _ _ _ _ _ _ _ _
      have hbf : Below w.heap.size w Wf := by
        rw [← hWf]
        exact below_set8 Hbw.out Hxw.out _ _ _ _ _ _ _ _
      clear hWf
      have x0 := hf.cell 0
      have x1 := hf.cell 1
      have x2 := hf.cell 2
      have x3 := hf.cell 3
      have x4 := hf.cell 4
      have x5 := hf.cell 5
      have x6 := hf.cell 6
      have x7 := hf.cell 7
      simp [zeroC] at x0 x1 x2 x3 x4 x5 x6 x7
      exact bodyPost_ret (v := badV 60) (by simp [results, Try.results13, go_sem, badV, zeroC, x0, x1, x2, x3, x4, x5, x6, x7]) rfl ⟨rfl, hbf⟩
  · rw [if_neg ho] at hE
    have i5 : (20 : Int) ≤ ((t[12]'j12).toNat : Int) / 16 * 4 := by omega
    have i6 : ((t[12]'j12).toNat : Int) / 16 * 4 ≤ (m : Int) := by omega
    by_cases hr1 : c % 16 ≠ 0
    · have hV := decV_bad (hE.trans (if_pos (.inl hr1))) (by decide)
      have HV := Lib.hid hV
      clear hV
      clear hE
      have q1 : (((t[12]'j12).toNat : Int) % 16 != 0) = true := by rw [bne_iff_ne]; omega
      have Ho := Lib.hid ho
      clear ho
      have Hc := Lib.hid hc
      clear hc
      have Hc3 := Lib.hid hc3
      clear hc3
      have Hr1 := Lib.hid hr1
      clear hr1
      go_wp2
      rw [HV.out]
      clear x0 x1 x2 x3 x4 x5 x6 x7 xf
      generalize hWf : World.setCell _ _ _ = Wf
      have hf : Blk Wf x 25 zeroC := by
        rw [← hWf]
        exact blk_set8 Hx2.out _ _ _ _ _ _ _ _
      have hbf : Below w.heap.size w Wf := by
        rw [← hWf]
        exact below_set8 Hbw.out Hxw.out _ _ _ _ _ _ _ _
      clear hWf
      have x0 := hf.cell 0
      have x1 := hf.cell 1
      have x2 := hf.cell 2
      have x3 := hf.cell 3
      have x4 := hf.cell 4
      have x5 := hf.cell 5
      have x6 := hf.cell 6
      have x7 := hf.cell 7
      simp [zeroC] at x0 x1 x2 x3 x4 x5 x6 x7
      exact bodyPost_ret (v := badV 61) (by simp [results, Try.results13, go_sem, badV, zeroC, x0, x1, x2, x3, x4, x5, x6, x7]) rfl ⟨rfl, hbf⟩
    have q1 : (((t[12]'j12).toNat : Int) % 16 != 0) = false := by rw [bne_eq_false_iff_eq]; omega
    by_cases hr2 : 64 ≤ c3
    · have hV := decV_bad (hE.trans (if_pos (.inr hr2))) (by decide)
      have HV := Lib.hid hV
      clear hV
      clear hE
      have q2 : (((t[13]'j13).toNat : Int) / 64 != 0) = true := by rw [bne_iff_ne]; omega
      have Ho := Lib.hid ho
      clear ho
      have Hc := Lib.hid hc
      clear hc
      have Hc3 := Lib.hid hc3
      clear hc3
      have Hr1 := Lib.hid hr1
      clear hr1
      have Hr2 := Lib.hid hr2
      clear hr2
      go_wp2
      rw [HV.out]
      clear x0 x1 x2 x3 x4 x5 x6 x7 xf
      generalize hWf : World.setCell _ _ _ = Wf
      have hf : Blk Wf x 25 zeroC := by
        rw [← hWf]
        exact blk_set8 Hx2.out _ _ _ _ _ _ _ _
      have hbf : Below w.heap.size w Wf := by
        rw [← hWf]
        exact below_set8 Hbw.out Hxw.out _ _ _ _ _ _ _ _
      clear hWf
      have x0 := hf.cell 0
      have x1 := hf.cell 1
      have x2 := hf.cell 2
      have x3 := hf.cell 3
      have x4 := hf.cell 4
      have x5 := hf.cell 5
      have x6 := hf.cell 6
      have x7 := hf.cell 7
      simp [zeroC] at x0 x1 x2 x3 x4 x5 x6 x7
      exact bodyPost_ret (v := badV 61) (by simp [results, Try.results13, go_sem, badV, zeroC, x0, x1, x2, x3, x4, x5, x6, x7]) rfl ⟨rfl, hbf⟩
    have q2 : (((t[13]'j13).toNat : Int) / 64 != 0) = false := by rw [bne_eq_false_iff_eq]; omega
    have h0E := hE.trans (if_neg (by rintro (h | h); exact hr1 h; exact hr2 (by omega)))
    obtain ⟨n, hn⟩ : ∃ n : Nat, n = (t[12]'j12).toNat / 16 * 4 := ⟨_, rfl⟩
    have hnI : ((t[12]'j12).toNat : Int) / 16 * 4 = (n : Int) := by omega
    have i7 : (20 : Int) ≤ (n : Int) := by omega
    have i8 : (n : Int) ≤ (m : Int) := by omega
    have m1 := fun W => number16 (t.extract 0 2) W (by simp [maxLen]; omega)
    have m2 := fun W => number16 (t.extract 2 4) W (by simp [maxLen]; omega)
    have m3 := fun W => number_any (t.extract 4 8) W (by simp [maxLen]; omega)
    have m4 := fun W => number_any (t.extract 8 12) W (by simp [maxLen]; omega)
    have m5 := fun W => number16 (t.extract 14 16) W (by simp [maxLen]; omega)
    have m6 := fun W => number16 (t.extract 18 20) W (by simp [maxLen]; omega)
    obtain ⟨u1, hu1⟩ : ∃ u, u = numL (t.extract 0 2).data.toList % 65536 := ⟨_, rfl⟩
    obtain ⟨u2, hu2⟩ : ∃ u, u = numL (t.extract 2 4).data.toList % 65536 := ⟨_, rfl⟩
    obtain ⟨u3, hu3⟩ : ∃ u, u = numL (t.extract 4 8).data.toList := ⟨_, rfl⟩
    obtain ⟨u4, hu4⟩ : ∃ u, u = numL (t.extract 8 12).data.toList := ⟨_, rfl⟩
    obtain ⟨u5, hu5⟩ : ∃ u, u = numL (t.extract 14 16).data.toList % 65536 := ⟨_, rfl⟩
    obtain ⟨u6, hu6⟩ : ∃ u, u = numL (t.extract 18 20).data.toList % 65536 := ⟨_, rfl⟩
    rw [← hu1] at m1
    rw [← hu2] at m2
    rw [← hu3] at m3
    rw [← hu4] at m4
    rw [← hu5] at m5
    rw [← hu6] at m6
    have cf : ∀ (vals : Array Value) (w : World), (callFunc 32 vals).run Try.prog w = .ok (.enter 32 vals) w := fun _ _ => by kernel_rfl
    have cg : ∀ (vals : Array Value) (w : World), (callFunc 33 vals).run Try.prog w = .ok (.enter 33 vals) w := fun _ _ => by kernel_rfl
    have t2 : (2 : Int) ≤ (m : Int) := by omega
    have t4 : (4 : Int) ≤ (m : Int) := by omega
    have t8 : (8 : Int) ≤ (m : Int) := by omega
    have t12 : (12 : Int) ≤ (m : Int) := by omega
    have t16 : (16 : Int) ≤ (m : Int) := by omega
    have t20 : (20 : Int) ≤ (m : Int) := by omega
    have hdone := decV_done s d t h20 h0E hu1 hu2 hu3 hu4 hu5 hu6 hn
    have Ho := Lib.hid ho
    clear ho
    have Hc := Lib.hid hc
    clear hc
    have Hc3 := Lib.hid hc3
    clear hc3
    have Hr1 := Lib.hid hr1
    clear hr1
    have Hr2 := Lib.hid hr2
    clear hr2
    have Hu1 := Lib.hid hu1
    clear hu1
    have Hu2 := Lib.hid hu2
    clear hu2
    have Hu3 := Lib.hid hu3
    clear hu3
    have Hu4 := Lib.hid hu4
    clear hu4
    have Hu5 := Lib.hid hu5
    clear hu5
    have Hu6 := Lib.hid hu6
    clear hu6
    have M1 := Lib.hid m1
    clear m1
    have M2 := Lib.hid m2
    clear m2
    have M3 := Lib.hid m3
    clear m3
    have M4 := Lib.hid m4
    clear m4
    have M5 := Lib.hid m5
    clear m5
    have M6 := Lib.hid m6
    clear m6
    have Cf := Lib.hid cf
    clear cf
    have Cg := Lib.hid cg
    clear cg
    have Hdone := Lib.hid hdone
    clear hdone
    have Hn := Lib.hid hn
    clear hn
    clear hE h0E
    go_upto_region 12 with fail
    clear x0 x1 x2 x3 x4 x5 x6 x7 xf
    have hS0 : KeepS w2 x 25 zeroC w2 := ⟨Below.refl _ _, Hx2.out⟩
    have ne : Nonempty (Cls (KeepS w2 x 25 zeroC)) := ⟨⟨w2, hS0⟩⟩
    refine wp_region_flat1 24 (KeepS w2 x 25 zeroC) (fun w w' => Below w.heap.size w w') (by kernel_rfl) (by kernel_rfl) (by kernel_rfl) (fun w => Below.refl _ _) hS0.drew ?_
    simp only [List.take_succ_cons, List.take_zero, List.drop_succ_cons, List.drop_zero]
    repeat (first
      | (refine flat_quiet (fun w => Below.refl _ _) rfl rfl rfl rfl ?_; intro K hK; go_big_quiet_op; go_big_quiet_on)
      | (refine flat_call Cf.out _ ?_ rfl rfl rfl _ (fun y => below_call KeepS.below y (M1.out _)) w2 ?_; (focus (simp only [List.map_toArray, List.map_cons, List.map_nil]; rfl)); intro K hK; go_big_quiet_op; go_big_quiet_on)
      | (refine flat_call Cf.out _ ?_ rfl rfl rfl _ (fun y => below_call KeepS.below y (M2.out _)) w2 ?_; (focus (simp only [List.map_toArray, List.map_cons, List.map_nil]; rfl)); intro K hK; go_big_quiet_op; go_big_quiet_on)
      | (refine flat_call Cg.out _ ?_ rfl rfl rfl _ (fun y => below_call KeepS.below y (M3.out _)) w2 ?_; (focus (simp only [List.map_toArray, List.map_cons, List.map_nil]; rfl)); intro K hK; go_big_quiet_op; go_big_quiet_on)
      | (refine flat_call Cg.out _ ?_ rfl rfl rfl _ (fun y => below_call KeepS.below y (M4.out _)) w2 ?_; (focus (simp only [List.map_toArray, List.map_cons, List.map_nil]; rfl)); intro K hK; go_big_quiet_op; go_big_quiet_on)
      | (refine flat_call Cf.out _ ?_ rfl rfl rfl _ (fun y => below_call KeepS.below y (M5.out _)) w2 ?_; (focus (simp only [List.map_toArray, List.map_cons, List.map_nil]; rfl)); intro K hK; go_big_quiet_op; go_big_quiet_on)
      | (refine flat_call Cf.out _ ?_ rfl rfl rfl _ (fun y => below_call KeepS.below y (M6.out _)) w2 ?_; (focus (simp only [List.map_toArray, List.map_cons, List.map_nil]; rfl)); intro K hK; go_big_quiet_op; go_big_quiet_on))
    refine flat_nil ?_
    intro W9 hW9
    simp only [endF]
    clear ne hS0
    have x0 := hW9.2.cell 0
    have x1 := hW9.2.cell 1
    have x2 := hW9.2.cell 2
    have x3 := hW9.2.cell 3
    have x4 := hW9.2.cell 4
    have x5 := hW9.2.cell 5
    have x6 := hW9.2.cell 6
    have x7 := hW9.2.cell 7
    simp [zeroC] at x0 x1 x2 x3 x4 x5 x6 x7
    have xf := hW9.2.frozen
    go_upto_region 13 with fail
    generalize hWt : World.setCell _ _ _ = Wt
    have ht : Blk Wt x 25 #[.int .u16 (u1 : Int), .int .u16 (u2 : Int), .int .u32 (u3 : Int), .int .u32 (u4 : Int), .int .u8 ((t[13]'j13).toNat : Int), .int .u16 (u5 : Int), .int .u16 (u6 : Int), .string (t.extract 20 n)] := by
      rw [← hWt]
      exact blk_set8 hW9.2 _ _ _ _ _ _ _ _
    have hbt : Below w.heap.size w Wt := by
      rw [← hWt]
      exact below_set8 (Hbw.out.trans (hW9.1.mono Hbw.out.size)) Hxw.out _ _ _ _ _ _ _ _
    clear hWt hW9 x0 x1 x2 x3 x4 x5 x6 x7 xf
    have x0 := ht.cell 0
    have x1 := ht.cell 1
    have x2 := ht.cell 2
    have x3 := ht.cell 3
    have x4 := ht.cell 4
    have x5 := ht.cell 5
    have x6 := ht.cell 6
    have x7 := ht.cell 7
    simp at x0 x1 x2 x3 x4 x5 x6 x7
    have xf := ht.frozen
    have Ht := Lib.hid ht
    clear ht
    have Hbt := Lib.hid hbt
    clear hbt
    go_region
    go_wp2
    clear x0 x1 x2 x3 x4 x5 x6 x7 xf
    generalize hWf : World.drew _ = Wf
    have hf : Blk Wf x 25 #[.int .u16 (u1 : Int), .int .u16 (u2 : Int), .int .u32 (u3 : Int), .int .u32 (u4 : Int), .int .u8 ((t[13]'j13).toNat : Int), .int .u16 (u5 : Int), .int .u16 (u6 : Int), .string (t.extract 20 n)] := by
      rw [← hWf]
      exact Blk.drew (blk_set8 Ht.out _ _ _ _ _ _ _ _)
    have hbf : Below w.heap.size w Wf := by
      rw [← hWf]
      exact Below.drew (below_set8 Hbt.out Hxw.out _ _ _ _ _ _ _ _)
    clear hWf
    have x0 := hf.cell 0
    have x1 := hf.cell 1
    have x2 := hf.cell 2
    have x3 := hf.cell 3
    have x4 := hf.cell 4
    have x5 := hf.cell 5
    have x6 := hf.cell 6
    have x7 := hf.cell 7
    simp at x0 x1 x2 x3 x4 x5 x6 x7
    rw [Hdone.out]
    exact bodyPost_ret (v := .tuple #[.agg #[.int .u16 (u1 : Int), .int .u16 (u2 : Int), .int .u32 (u3 : Int), .int .u32 (u4 : Int), .int .u8 ((t[13]'j13).toNat : Int), .int .u16 (u5 : Int), .int .u16 (u6 : Int), .string (t.extract 20 n)], .string (t.extract n t.size), .int .i64 0]) (by simp [results, Try.results13, go_sem, x0, x1, x2, x3, x4, x5, x6, x7]) rfl ⟨rfl, hbf⟩
end Go.Proofs.Ytpmcdpbolcmhgaa
