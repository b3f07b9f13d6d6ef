/- Contracts and plain lemmas: PIpDec. -/
import Derived.Test.YtengegcnocdkoaaRe1
set_option linter.unusedVariables false
set_option linter.unusedSimpArgs false
set_option linter.unusedSectionVars false
section
namespace Go.Proofs.Ytengegcnocdkoaa.I
open Go.RowKit Go.BigFrame
set_option maxRecDepth 100000 in
set_option maxHeartbeats 4000000 in
theorem dec_any (s : ByteArray) (w : World) (h20 : 20 ≤ s.size) (hs : s.size ≤ 1099511627776) :
    Calls Try.prog 40 #[.string s] w fun e w' => e = .returned (decV s.data.toList) ∧ Below w.heap.size w w' := by
  have i1 : (20 : Int) ≤ (s.size : Int) := by omega
  have i2 : (s.size : Int) ≤ 1099511627776 := by omega
  have j0 : 0 < s.size := by omega
  have j1 : 1 < s.size := by omega
  have j6 : 6 < s.size := by omega
  have j7 : 7 < s.size := by omega
  have l0 := (s[0]'j0).toNat_lt
  have l6 := (s[6]'j6).toNat_lt
  have l7 := (s[7]'j7).toNat_lt
  have i6 : (6 : Int) < (s.size : Int) := by omega
  have i7 : (7 : Int) < (s.size : Int) := by omega
  have i4 : (4 : Int) ≤ (s.size : Int) := by omega
  obtain ⟨b0, e0⟩ : ∃ b, (((s[0]'j0).toNat : Int) / 16 != 4) = b := ⟨_, rfl⟩
  obtain ⟨b1, e1⟩ : ∃ b, (((s[0]'j0).toNat : Int) % 16 != 5) = b := ⟨_, rfl⟩
  obtain ⟨b3, e3⟩ : ∃ b, (bits .andNot .u8 ((s[6]'j6).toNat : Int) 64 != 0) = b := ⟨_, rfl⟩
  obtain ⟨b4, e4⟩ : ∃ b, (((s[7]'j7).toNat : Int) != 0) = b := ⟨_, rfl⟩
  have n1 := fun W => number_any (s.extract 2 4) W (by simp [maxLen]; omega)
  have hcat : catS [s.extract 0 20] = s.data.toList.take 20 := by simp [catS, ByteArray.data_extract]
  have rl := fun W g (h : Blk W g 9 #[.string (s.extract 0 20)]) => right_lit [s.extract 0 20] _ rfl (by
    intro x hx
    simp only [List.mem_cons, List.not_mem_nil, or_false] at hx
    subst hx
    simp [maxLen]; omega) g 1 1 W rfl (by omega) h
  rw [hcat] at rl
  clear hcat
  have en : numL (s.extract 2 4).data.toList = numL ((s.data.toList.drop 2).take 2) := by
    rw [ByteArray.data_extract, Array.toList_extract, List.extract_eq_take_drop]
  rw [en] at n1
  obtain ⟨nl, hnl⟩ : ∃ nl, nl = numL ((s.data.toList.drop 2).take 2) := ⟨_, rfl⟩
  rw [← hnl] at n1
  have hnb : nl < 4294967296 := by rw [hnl]; exact numL_lt _
  obtain ⟨ok, hok⟩ : ∃ ok : Bool, ok = ((ofL (s.data.toList.take 20) : Int) == 0) := ⟨_, rfl⟩
  rw [← hok] at rl
  obtain ⟨b2, e2⟩ : ∃ b, ((nl : Int) != (s.size : Int)) = b := ⟨_, rfl⟩
  have Hnl := Lib.hid hnl
  clear hnl
  have Hok := Lib.hid hok
  clear hok
  have N1 := Lib.hid n1
  clear n1
  have Rl := Lib.hid rl
  clear rl
  clear en
  cases b3
  · go_enter Try.func40, Try.ntmps40
    go_upto_region 3 with fail
    have hbx := Blk.new w 63 #[.int .u32 0, .int .u32 0, .int .u8 0, .int .u8 0, .int .u8 0, .int .u16 0, .bool false]
    have hb0 : Below w.heap.size w (w.alloc (.cells #[.int .u32 0, .int .u32 0, .int .u8 0, .int .u8 0, .int .u8 0, .int .u16 0, .bool false] 63)) := (Below.refl _ _).alloc (Nat.le_refl _) _
    generalize hW : w.alloc _ = W at *
    obtain ⟨x, hx⟩ : ∃ x, x = w.heap.size := ⟨_, rfl⟩
    rw [← hx] at hbx ⊢
    have hxw : w.heap.size ≤ x := by omega
    have Hbx := Lib.hid hbx
    clear hbx
    have Hb0 := Lib.hid hb0
    clear hb0
    have Hxw := Lib.hid hxw
    clear hxw
    clear hW hx
    have cf : ∀ (vals : Array Value) (w : World), (callFunc 71 vals).run Try.prog w = .ok (.enter 71 vals) w := fun _ _ => by kernel_rfl
    have cfr : ∀ (vals : Array Value) (w : World), (callFunc 72 vals).run Try.prog w = .ok (.enter 72 vals) w := fun _ _ => by kernel_rfl
    have r1 : ∀ W : World, (Instr.buildSlice 132 1 #[(0, .string (s.extract 0 20))]).run Try.prog W = .ok (.slice (some ⟨W.heap.size, 0, none⟩) 1 1) (W.alloc (.cells #[.string (s.extract 0 20)] 9)) := fun _ => by kernel_rfl
    have r2 : ∀ W : World, (Instr.buildSlice 106 5 #[(0, .agg #[.bool b0, .int .i64 51]), (1, .agg #[.bool b1, .int .i64 52]), (2, .agg #[.bool b2, .int .i64 53]), (3, .agg #[.bool (!ok), .int .i64 55]), (4, .agg #[.bool b4, .int .i64 54])]).run Try.prog W = .ok (.slice (some ⟨W.heap.size, 0, none⟩) 5 5) (W.alloc (.cells #[.bool b0, .int .i64 51, .bool b1, .int .i64 52, .bool b2, .int .i64 53, .bool (!ok), .int .i64 55, .bool b4, .int .i64 54] 104)) := fun _ => by kernel_rfl
    have rl5 : ∀ (w : World) (x : Value), isNew 104 #[.bool b0, .int .i64 51, .bool b1, .int .i64 52, .bool b2, .int .i64 53, .bool (!ok), .int .i64 55, .bool b4, .int .i64 54] 5 x w → (Builtin.len_ #[106] 3 #[x]).run Try.prog w = .ok (.int .i64 5) w := by
      rintro w x ⟨g, rfl, _⟩
      kernel_rfl
    have Cf := Lib.hid cf
    clear cf
    have Cfr := Lib.hid cfr
    clear cfr
    have R1 := Lib.hid r1
    clear r1
    have R2 := Lib.hid r2
    clear r2
    have Rl5 := Lib.hid rl5
    clear rl5
    have ne : Nonempty (Cls (OldS W)) := ⟨⟨W, Below.refl _ _⟩⟩
    refine wp_region_flat (OldS W) (fun w w' => Below w.heap.size w w') (by kernel_rfl) (by kernel_rfl) (fun w => Below.refl _ _) (OldS.drew (Below.refl _ _)) ?_
    repeat (first
      | (refine flat_skip rfl rfl W ?_; intro K hK; go_big_quiet_op; go_big_quiet_on)
      | (refine flat_quiet (fun w => Below.refl _ _) rfl rfl rfl rfl ?_; intro K hK; go_big_quiet_op; go_big_quiet_on)
      | (refine flat_call Cf.out _ ?_ rfl rfl rfl _ (fun y => below_call OldS.below y (N1.out _)) W ?_; (focus (simp only [List.map_toArray, List.map_cons, List.map_nil]; rfl)); intro K hK; go_big_quiet_op; go_big_quiet_on)
      | (refine flat_call1 Cfr.out ?_ List.mem_cons_self rfl rfl rfl _ (fun y u hu => by obtain ⟨g, rfl, hg⟩ := hu; exact below_call OldS.below y (Rl.out _ g hg)) W ?_; (focus (simp)); intro K hK; go_big_quiet_op; go_big_quiet_on)
      | (refine flat_build (E := 9) _ ?_ _ R1.out OldS.below rfl rfl rfl W ?_; (focus (simp only [List.map_toArray, List.map_cons, List.map_nil]; rfl)); intro K hK; go_big_quiet_op; go_big_quiet_on)
      | (refine flat_build (E := 104) _ ?_ _ R2.out OldS.below rfl rfl rfl W ?_; (focus (simp only [List.map_toArray, List.map_cons, List.map_nil]; rfl)); intro K hK; go_big_quiet_op; go_big_quiet_on)
      | (refine flat_len 5 ?_ List.mem_cons_self Rl5.out (fun w => Below.refl _ _) rfl rfl rfl W ?_; (focus (simp)); intro K hK; go_big_quiet_op; go_big_quiet_on))
    refine flat_nil ?_
    have E0 := Lib.hid e0
    clear e0
    have E1 := Lib.hid e1
    clear e1
    have E2 := Lib.hid e2
    clear e2
    have E3 := Lib.hid e3
    clear e3
    have E4 := Lib.hid e4
    clear e4
    intro W7 hW7 x45 hx45 x31 _
    obtain ⟨g, rfl, hg⟩ := hx45
    simp only [endF, Act.put, List.setIfInBounds_toArray, List.set_cons_succ, List.set_cons_zero]
    have hbx7 : Blk W7 x 63 #[.int .u32 0, .int .u32 0, .int .u8 0, .int .u8 0, .int .u8 0, .int .u16 0, .bool false] := Hbx.out.below hW7 Hbx.out.lt
    have hb7 : Below w.heap.size w W7 := Hb0.out.trans (hW7.mono Hb0.out.size)
    clear Hbx Hb0 hW7 ne
    have Hg := Lib.hid hg
    clear hg
    have Hbx7 := Lib.hid hbx7
    clear hbx7
    have Hb7 := Lib.hid hb7
    clear hb7
    go_wp2_with fail
    go_loopw [47] (fun i wr => Below W7.heap.size W7 wr ∧ ((i = .int .i64 0) ∨ (i = .int .i64 1 ∧ b0 = false) ∨ (i = .int .i64 2 ∧ b0 = false ∧ b1 = false) ∨ (i = .int .i64 3 ∧ b0 = false ∧ b1 = false ∧ b2 = false) ∨ (i = .int .i64 4 ∧ b0 = false ∧ b1 = false ∧ b2 = false ∧ ok = true) ∨ (i = .int .i64 5 ∧ b0 = false ∧ b1 = false ∧ b2 = false ∧ ok = true ∧ b4 = false))) (fun i _ => 5 - (intOf i).toNat)
    case atStart => exact ⟨Below.refl _ _, .inl rfl⟩
    case round =>
      obtain ⟨hbr, hrel⟩ := hrel
      have hgr := Hg.out.below hbr Hg.out.lt
      have hxr := Hbx7.out.below hbr Hbx7.out.lt
      have Hbr := Lib.hid hbr
      clear hbr
      have Hxr := Lib.hid hxr
      clear hxr
      rcases hrel with rfl | ⟨rfl, rfl⟩ | ⟨rfl, rfl, rfl⟩ | ⟨rfl, rfl, rfl, rfl⟩ | ⟨rfl, rfl, rfl, rfl, rfl⟩ | ⟨rfl, rfl, rfl, rfl, rfl, d4⟩
      · cases b0
        · have c0 := hgr.cell 0
          have c1 := hgr.cell 1
          simp at c0 c1
          clear hgr
          go_wp2_with fail
          first | exact ⟨⟨Hbr.out.alloc Hbr.out.size _, by simp⟩, by simp [intOf]⟩ | exact ⟨Hbr.out.alloc Hbr.out.size _, by simp [intOf]⟩
        · have c0 := hgr.cell 0
          have c1 := hgr.cell 1
          simp at c0 c1
          clear hgr
          have x0 := Hxr.out.cell 0
          have x1 := Hxr.out.cell 1
          have x2 := Hxr.out.cell 2
          have x3 := Hxr.out.cell 3
          have x4 := Hxr.out.cell 4
          have x5 := Hxr.out.cell 5
          have x6 := Hxr.out.cell 6
          simp at x0 x1 x2 x3 x4 x5 x6
          have xf := Hxr.out.frozen
          have xl := Hxr.out.lt
          go_upto_region 7 with fail
          go_region
          go_wp2
          have hAns : decV s.data.toList = badV 51 := decV_bad ((decE_of s h20 E0.out E1.out Hnl.out E2.out Hok.out E3.out E4.out).trans (by simp)) (by decide)
          rw [hAns]
          clear x0 x1 x2 x3 x4 x5 x6 xf xl c0 c1
          generalize hWf : World.drew _ = Wf
          have hf : Blk Wf x 63 zeroC := by
            rw [← hWf]
            exact Blk.drew (Blk.alloc (blk_set7 Hxr.out _ _ _ _ _ _ _) _)
          have hbf : Below w.heap.size w Wf := by
            rw [← hWf]
            exact Below.drew (Below.alloc (below_set7 (Hb7.out.trans (Hbr.out.mono Hb7.out.size)) Hxw.out _ _ _ _ _ _ _) (by simp; exact Nat.le_trans Hb7.out.size Hbr.out.size) _)
          clear hWf
          have x0 := hf.cell 0
          have x1 := hf.cell 1
          have x2 := hf.cell 2
          have x3 := hf.cell 3
          have x4 := hf.cell 4
          have x5 := hf.cell 5
          have x6 := hf.cell 6
          simp [zeroC] at x0 x1 x2 x3 x4 x5 x6
          exact bodyPost_ret (v := badV 51) (by simp [results, Try.results40, go_sem, badV, zeroC, x0, x1, x2, x3, x4, x5, x6]) rfl ⟨rfl, hbf⟩
      · cases b1
        · have c0 := hgr.cell 2
          have c1 := hgr.cell 3
          simp at c0 c1
          clear hgr
          go_wp2_with fail
          first | exact ⟨⟨Hbr.out.alloc Hbr.out.size _, by simp⟩, by simp [intOf]⟩ | exact ⟨Hbr.out.alloc Hbr.out.size _, by simp [intOf]⟩
        · have c0 := hgr.cell 2
          have c1 := hgr.cell 3
          simp at c0 c1
          clear hgr
          have x0 := Hxr.out.cell 0
          have x1 := Hxr.out.cell 1
          have x2 := Hxr.out.cell 2
          have x3 := Hxr.out.cell 3
          have x4 := Hxr.out.cell 4
          have x5 := Hxr.out.cell 5
          have x6 := Hxr.out.cell 6
          simp at x0 x1 x2 x3 x4 x5 x6
          have xf := Hxr.out.frozen
          have xl := Hxr.out.lt
          go_upto_region 7 with fail
          go_region
          go_wp2
          have hAns : decV s.data.toList = badV 52 := decV_bad ((decE_of s h20 E0.out E1.out Hnl.out E2.out Hok.out E3.out E4.out).trans (by simp)) (by decide)
          rw [hAns]
          clear x0 x1 x2 x3 x4 x5 x6 xf xl c0 c1
          generalize hWf : World.drew _ = Wf
          have hf : Blk Wf x 63 zeroC := by
            rw [← hWf]
            exact Blk.drew (Blk.alloc (blk_set7 Hxr.out _ _ _ _ _ _ _) _)
          have hbf : Below w.heap.size w Wf := by
            rw [← hWf]
            exact Below.drew (Below.alloc (below_set7 (Hb7.out.trans (Hbr.out.mono Hb7.out.size)) Hxw.out _ _ _ _ _ _ _) (by simp; exact Nat.le_trans Hb7.out.size Hbr.out.size) _)
          clear hWf
          have x0 := hf.cell 0
          have x1 := hf.cell 1
          have x2 := hf.cell 2
          have x3 := hf.cell 3
          have x4 := hf.cell 4
          have x5 := hf.cell 5
          have x6 := hf.cell 6
          simp [zeroC] at x0 x1 x2 x3 x4 x5 x6
          exact bodyPost_ret (v := badV 52) (by simp [results, Try.results40, go_sem, badV, zeroC, x0, x1, x2, x3, x4, x5, x6]) rfl ⟨rfl, hbf⟩
      · cases b2
        · have c0 := hgr.cell 4
          have c1 := hgr.cell 5
          simp at c0 c1
          clear hgr
          go_wp2_with fail
          first | exact ⟨⟨Hbr.out.alloc Hbr.out.size _, by simp⟩, by simp [intOf]⟩ | exact ⟨Hbr.out.alloc Hbr.out.size _, by simp [intOf]⟩
        · have c0 := hgr.cell 4
          have c1 := hgr.cell 5
          simp at c0 c1
          clear hgr
          have x0 := Hxr.out.cell 0
          have x1 := Hxr.out.cell 1
          have x2 := Hxr.out.cell 2
          have x3 := Hxr.out.cell 3
          have x4 := Hxr.out.cell 4
          have x5 := Hxr.out.cell 5
          have x6 := Hxr.out.cell 6
          simp at x0 x1 x2 x3 x4 x5 x6
          have xf := Hxr.out.frozen
          have xl := Hxr.out.lt
          go_upto_region 7 with fail
          go_region
          go_wp2
          have hAns : decV s.data.toList = badV 53 := decV_bad ((decE_of s h20 E0.out E1.out Hnl.out E2.out Hok.out E3.out E4.out).trans (by simp)) (by decide)
          rw [hAns]
          clear x0 x1 x2 x3 x4 x5 x6 xf xl c0 c1
          generalize hWf : World.drew _ = Wf
          have hf : Blk Wf x 63 zeroC := by
            rw [← hWf]
            exact Blk.drew (Blk.alloc (blk_set7 Hxr.out _ _ _ _ _ _ _) _)
          have hbf : Below w.heap.size w Wf := by
            rw [← hWf]
            exact Below.drew (Below.alloc (below_set7 (Hb7.out.trans (Hbr.out.mono Hb7.out.size)) Hxw.out _ _ _ _ _ _ _) (by simp; exact Nat.le_trans Hb7.out.size Hbr.out.size) _)
          clear hWf
          have x0 := hf.cell 0
          have x1 := hf.cell 1
          have x2 := hf.cell 2
          have x3 := hf.cell 3
          have x4 := hf.cell 4
          have x5 := hf.cell 5
          have x6 := hf.cell 6
          simp [zeroC] at x0 x1 x2 x3 x4 x5 x6
          exact bodyPost_ret (v := badV 53) (by simp [results, Try.results40, go_sem, badV, zeroC, x0, x1, x2, x3, x4, x5, x6]) rfl ⟨rfl, hbf⟩
      · cases ok
        · have c0 := hgr.cell 6
          have c1 := hgr.cell 7
          simp at c0 c1
          clear hgr
          have x0 := Hxr.out.cell 0
          have x1 := Hxr.out.cell 1
          have x2 := Hxr.out.cell 2
          have x3 := Hxr.out.cell 3
          have x4 := Hxr.out.cell 4
          have x5 := Hxr.out.cell 5
          have x6 := Hxr.out.cell 6
          simp at x0 x1 x2 x3 x4 x5 x6
          have xf := Hxr.out.frozen
          have xl := Hxr.out.lt
          go_upto_region 7 with fail
          go_region
          go_wp2
          have hAns : decV s.data.toList = badV 55 := decV_bad ((decE_of s h20 E0.out E1.out Hnl.out E2.out Hok.out E3.out E4.out).trans (by simp)) (by decide)
          rw [hAns]
          clear x0 x1 x2 x3 x4 x5 x6 xf xl c0 c1
          generalize hWf : World.drew _ = Wf
          have hf : Blk Wf x 63 zeroC := by
            rw [← hWf]
            exact Blk.drew (Blk.alloc (blk_set7 Hxr.out _ _ _ _ _ _ _) _)
          have hbf : Below w.heap.size w Wf := by
            rw [← hWf]
            exact Below.drew (Below.alloc (below_set7 (Hb7.out.trans (Hbr.out.mono Hb7.out.size)) Hxw.out _ _ _ _ _ _ _) (by simp; exact Nat.le_trans Hb7.out.size Hbr.out.size) _)
          clear hWf
          have x0 := hf.cell 0
          have x1 := hf.cell 1
          have x2 := hf.cell 2
          have x3 := hf.cell 3
          have x4 := hf.cell 4
          have x5 := hf.cell 5
          have x6 := hf.cell 6
          simp [zeroC] at x0 x1 x2 x3 x4 x5 x6
          exact bodyPost_ret (v := badV 55) (by simp [results, Try.results40, go_sem, badV, zeroC, x0, x1, x2, x3, x4, x5, x6]) rfl ⟨rfl, hbf⟩
        · have c0 := hgr.cell 6
          have c1 := hgr.cell 7
          simp at c0 c1
          clear hgr
          go_wp2_with fail
          first | exact ⟨⟨Hbr.out.alloc Hbr.out.size _, by simp⟩, by simp [intOf]⟩ | exact ⟨Hbr.out.alloc Hbr.out.size _, by simp [intOf]⟩
      · cases b4
        · have c0 := hgr.cell 8
          have c1 := hgr.cell 9
          simp at c0 c1
          clear hgr
          go_wp2_with fail
          first | exact ⟨⟨Hbr.out.alloc Hbr.out.size _, by simp⟩, by simp [intOf]⟩ | exact ⟨Hbr.out.alloc Hbr.out.size _, by simp [intOf]⟩
        · have c0 := hgr.cell 8
          have c1 := hgr.cell 9
          simp at c0 c1
          clear hgr
          have x0 := Hxr.out.cell 0
          have x1 := Hxr.out.cell 1
          have x2 := Hxr.out.cell 2
          have x3 := Hxr.out.cell 3
          have x4 := Hxr.out.cell 4
          have x5 := Hxr.out.cell 5
          have x6 := Hxr.out.cell 6
          simp at x0 x1 x2 x3 x4 x5 x6
          have xf := Hxr.out.frozen
          have xl := Hxr.out.lt
          go_upto_region 7 with fail
          go_region
          go_wp2
          have hAns : decV s.data.toList = badV 54 := decV_bad ((decE_of s h20 E0.out E1.out Hnl.out E2.out Hok.out E3.out E4.out).trans (by simp)) (by decide)
          rw [hAns]
          clear x0 x1 x2 x3 x4 x5 x6 xf xl c0 c1
          generalize hWf : World.drew _ = Wf
          have hf : Blk Wf x 63 zeroC := by
            rw [← hWf]
            exact Blk.drew (Blk.alloc (blk_set7 Hxr.out _ _ _ _ _ _ _) _)
          have hbf : Below w.heap.size w Wf := by
            rw [← hWf]
            exact Below.drew (Below.alloc (below_set7 (Hb7.out.trans (Hbr.out.mono Hb7.out.size)) Hxw.out _ _ _ _ _ _ _) (by simp; exact Nat.le_trans Hb7.out.size Hbr.out.size) _)
          clear hWf
          have x0 := hf.cell 0
          have x1 := hf.cell 1
          have x2 := hf.cell 2
          have x3 := hf.cell 3
          have x4 := hf.cell 4
          have x5 := hf.cell 5
          have x6 := hf.cell 6
          simp [zeroC] at x0 x1 x2 x3 x4 x5 x6
          exact bodyPost_ret (v := badV 54) (by simp [results, Try.results40, go_sem, badV, zeroC, x0, x1, x2, x3, x4, x5, x6]) rfl ⟨rfl, hbf⟩
      · clear hgr
        subst d4
        have t1 : (1 : Int) < (s.size : Int) := by omega
        have t8 : (8 : Int) < (s.size : Int) := by omega
        have t9 : (9 : Int) < (s.size : Int) := by omega
        have t10 : (6 : Int) ≤ (s.size : Int) := by omega
        have t12 : (12 : Int) ≤ (s.size : Int) := by omega
        have t16 : (16 : Int) ≤ (s.size : Int) := by omega
        have m1 := fun W => number_any (s.extract 4 6) W (by simp [maxLen]; omega)
        have m2 := fun W => number_any (s.extract 12 16) W (by simp [maxLen]; omega)
        have m3 := fun W => number_any (s.extract 16 20) W (by simp [maxLen]; omega)
        obtain ⟨u1, hu1⟩ : ∃ u, u = numL (s.extract 4 6).data.toList := ⟨_, rfl⟩
        obtain ⟨u2, hu2⟩ : ∃ u, u = numL (s.extract 12 16).data.toList := ⟨_, rfl⟩
        obtain ⟨u3, hu3⟩ : ∃ u, u = numL (s.extract 16 20).data.toList := ⟨_, rfl⟩
        rw [← hu1] at m1
        rw [← hu2] at m2
        rw [← hu3] at m3
        have tu : IntKind.u16.wrap (u1 : Int) = (u1 : Int) % 65536 := IntKind.wrap_u16 _
        obtain ⟨df, hdf⟩ : ∃ b : Bool, (((s[6]'j6).toNat : Int) == 64) = b := ⟨_, rfl⟩
        have Hu1 := Lib.hid hu1
        clear hu1
        have Hu2 := Lib.hid hu2
        clear hu2
        have Hu3 := Lib.hid hu3
        clear hu3
        have M1 := Lib.hid m1
        clear m1
        have M2 := Lib.hid m2
        clear m2
        have M3 := Lib.hid m3
        clear m3
        go_upto_region 9 with fail
        have hS0 : KeepS wr x 63 zeroC wr := ⟨Below.refl _ _, Hxr.out⟩
        have ne : Nonempty (Cls (KeepS wr x 63 zeroC)) := ⟨⟨wr, hS0⟩⟩
        refine wp_region_flat1 20 (KeepS wr x 63 zeroC) (fun w w' => Below w.heap.size w w') (by kernel_rfl) (by kernel_rfl) (by kernel_rfl) (fun w => Below.refl _ _) hS0.drew ?_
        simp only [List.take_succ_cons, List.take_zero, List.drop_succ_cons, List.drop_zero]
        repeat (first
          | (refine flat_quiet (fun w => Below.refl _ _) rfl rfl rfl rfl ?_; intro K hK; go_big_quiet_op; go_big_quiet_on)
          | (refine flat_call Cf.out _ ?_ rfl rfl rfl _ (fun y => below_call KeepS.below y (M1.out _)) wr ?_; (focus (simp only [List.map_toArray, List.map_cons, List.map_nil]; rfl)); intro K hK; go_big_quiet_op; go_big_quiet_on)
          | (refine flat_call Cf.out _ ?_ rfl rfl rfl _ (fun y => below_call KeepS.below y (M2.out _)) wr ?_; (focus (simp only [List.map_toArray, List.map_cons, List.map_nil]; rfl)); intro K hK; go_big_quiet_op; go_big_quiet_on)
          | (refine flat_call Cf.out _ ?_ rfl rfl rfl _ (fun y => below_call KeepS.below y (M3.out _)) wr ?_; (focus (simp only [List.map_toArray, List.map_cons, List.map_nil]; rfl)); intro K hK; go_big_quiet_op; go_big_quiet_on))
        refine flat_nil ?_
        intro W9 hW9
        simp only [endF]
        clear ne hS0
        have x0 := hW9.2.cell 0
        have x1 := hW9.2.cell 1
        have x2 := hW9.2.cell 2
        have x3 := hW9.2.cell 3
        have x4 := hW9.2.cell 4
        have x5 := hW9.2.cell 5
        have x6 := hW9.2.cell 6
        simp [zeroC] at x0 x1 x2 x3 x4 x5 x6
        have xf := hW9.2.frozen
        go_upto_region 10 with fail
        generalize hWt : World.setCell _ _ _ = Wt
        have ht : Blk Wt x 63 #[.int .u32 (u2 : Int), .int .u32 (u3 : Int), .int .u8 ((s[9]'(by omega)).toNat : Int), .int .u8 ((s[8]'(by omega)).toNat : Int), .int .u8 ((s[1]'j1).toNat : Int), .int .u16 ((u1 : Int) % 65536), .bool df] := by
          rw [← hWt]
          exact blk_set7 hW9.2 _ _ _ _ _ _ _
        have hbt : Below w.heap.size w Wt := by
          rw [← hWt]
          have h0 : Below w.heap.size w wr := Hb7.out.trans (Hbr.out.mono Hb7.out.size)
          exact below_set7 (h0.trans (hW9.1.mono h0.size)) Hxw.out _ _ _ _ _ _ _
        clear hWt hW9 x0 x1 x2 x3 x4 x5 x6 xf
        have x0 := ht.cell 0
        have x1 := ht.cell 1
        have x2 := ht.cell 2
        have x3 := ht.cell 3
        have x4 := ht.cell 4
        have x5 := ht.cell 5
        have x6 := ht.cell 6
        simp at x0 x1 x2 x3 x4 x5 x6
        have xf := ht.frozen
        have t20 : (20 : Int) ≤ (s.size : Int) := by omega
        have Ht := Lib.hid ht
        clear ht
        have Hbt := Lib.hid hbt
        clear hbt
        have Hdf := Lib.hid hdf
        clear hdf
        go_region
        go_wp2
        clear x0 x1 x2 x3 x4 x5 x6 xf
        generalize hWf : World.drew _ = Wf
        have hf : Blk Wf x 63 #[.int .u32 (u2 : Int), .int .u32 (u3 : Int), .int .u8 ((s[9]'(by omega)).toNat : Int), .int .u8 ((s[8]'(by omega)).toNat : Int), .int .u8 ((s[1]'j1).toNat : Int), .int .u16 ((u1 : Int) % 65536), .bool df] := by
          rw [← hWf]
          exact Blk.drew (blk_set7 Ht.out _ _ _ _ _ _ _)
        have hbf : Below w.heap.size w Wf := by
          rw [← hWf]
          exact Below.drew (below_set7 Hbt.out Hxw.out _ _ _ _ _ _ _)
        clear hWf
        have x0 := hf.cell 0
        have x1 := hf.cell 1
        have x2 := hf.cell 2
        have x3 := hf.cell 3
        have x4 := hf.cell 4
        have x5 := hf.cell 5
        have x6 := hf.cell 6
        simp at x0 x1 x2 x3 x4 x5 x6
        rw [decV_done s h20 ((decE_of s h20 E0.out E1.out Hnl.out E2.out Hok.out E3.out E4.out).trans (by simp)) Hu1.out Hu2.out Hu3.out Hdf.out]
        exact bodyPost_ret (v := .tuple #[.agg #[.int .u32 (u2 : Int), .int .u32 (u3 : Int), .int .u8 ((s[9]'(by omega)).toNat : Int), .int .u8 ((s[8]'(by omega)).toNat : Int), .int .u8 ((s[1]'j1).toNat : Int), .int .u16 ((u1 : Int) % 65536), .bool df], .string (s.extract 20 s.size), .int .i64 0]) (by simp [results, Try.results40, go_sem, x0, x1, x2, x3, x4, x5, x6]) rfl ⟨rfl, hbf⟩
  · go_enter Try.func40, Try.ntmps40
    go_upto_region 3 with fail
    have hbx := Blk.new w 63 #[.int .u32 0, .int .u32 0, .int .u8 0, .int .u8 0, .int .u8 0, .int .u16 0, .bool false]
    have hb0 : Below w.heap.size w (w.alloc (.cells #[.int .u32 0, .int .u32 0, .int .u8 0, .int .u8 0, .int .u8 0, .int .u16 0, .bool false] 63)) := (Below.refl _ _).alloc (Nat.le_refl _) _
    generalize hW : w.alloc _ = W at *
    obtain ⟨x, hx⟩ : ∃ x, x = w.heap.size := ⟨_, rfl⟩
    rw [← hx] at hbx ⊢
    have hxw : w.heap.size ≤ x := by omega
    have Hbx := Lib.hid hbx
    clear hbx
    have Hb0 := Lib.hid hb0
    clear hb0
    have Hxw := Lib.hid hxw
    clear hxw
    clear hW hx
    have cf : ∀ (vals : Array Value) (w : World), (callFunc 71 vals).run Try.prog w = .ok (.enter 71 vals) w := fun _ _ => by kernel_rfl
    have cfr : ∀ (vals : Array Value) (w : World), (callFunc 72 vals).run Try.prog w = .ok (.enter 72 vals) w := fun _ _ => by kernel_rfl
    have r1 : ∀ W : World, (Instr.buildSlice 132 1 #[(0, .string (s.extract 0 20))]).run Try.prog W = .ok (.slice (some ⟨W.heap.size, 0, none⟩) 1 1) (W.alloc (.cells #[.string (s.extract 0 20)] 9)) := fun _ => by kernel_rfl
    have r2 : ∀ W : World, (Instr.buildSlice 106 5 #[(0, .agg #[.bool b0, .int .i64 51]), (1, .agg #[.bool b1, .int .i64 52]), (2, .agg #[.bool b2, .int .i64 53]), (3, .agg #[.bool (!ok), .int .i64 55]), (4, .agg #[.bool true, .int .i64 54])]).run Try.prog W = .ok (.slice (some ⟨W.heap.size, 0, none⟩) 5 5) (W.alloc (.cells #[.bool b0, .int .i64 51, .bool b1, .int .i64 52, .bool b2, .int .i64 53, .bool (!ok), .int .i64 55, .bool true, .int .i64 54] 104)) := fun _ => by kernel_rfl
    have rl5 : ∀ (w : World) (x : Value), isNew 104 #[.bool b0, .int .i64 51, .bool b1, .int .i64 52, .bool b2, .int .i64 53, .bool (!ok), .int .i64 55, .bool true, .int .i64 54] 5 x w → (Builtin.len_ #[106] 3 #[x]).run Try.prog w = .ok (.int .i64 5) w := by
      rintro w x ⟨g, rfl, _⟩
      kernel_rfl
    have Cf := Lib.hid cf
    clear cf
    have Cfr := Lib.hid cfr
    clear cfr
    have R1 := Lib.hid r1
    clear r1
    have R2 := Lib.hid r2
    clear r2
    have Rl5 := Lib.hid rl5
    clear rl5
    have ne : Nonempty (Cls (OldS W)) := ⟨⟨W, Below.refl _ _⟩⟩
    refine wp_region_flat (OldS W) (fun w w' => Below w.heap.size w w') (by kernel_rfl) (by kernel_rfl) (fun w => Below.refl _ _) (OldS.drew (Below.refl _ _)) ?_
    repeat (first
      | (refine flat_skip rfl rfl W ?_; intro K hK; go_big_quiet_op; go_big_quiet_on)
      | (refine flat_quiet (fun w => Below.refl _ _) rfl rfl rfl rfl ?_; intro K hK; go_big_quiet_op; go_big_quiet_on)
      | (refine flat_call Cf.out _ ?_ rfl rfl rfl _ (fun y => below_call OldS.below y (N1.out _)) W ?_; (focus (simp only [List.map_toArray, List.map_cons, List.map_nil]; rfl)); intro K hK; go_big_quiet_op; go_big_quiet_on)
      | (refine flat_call1 Cfr.out ?_ List.mem_cons_self rfl rfl rfl _ (fun y u hu => by obtain ⟨g, rfl, hg⟩ := hu; exact below_call OldS.below y (Rl.out _ g hg)) W ?_; (focus (simp)); intro K hK; go_big_quiet_op; go_big_quiet_on)
      | (refine flat_build (E := 9) _ ?_ _ R1.out OldS.below rfl rfl rfl W ?_; (focus (simp only [List.map_toArray, List.map_cons, List.map_nil]; rfl)); intro K hK; go_big_quiet_op; go_big_quiet_on)
      | (refine flat_build (E := 104) _ ?_ _ R2.out OldS.below rfl rfl rfl W ?_; (focus (simp only [List.map_toArray, List.map_cons, List.map_nil]; rfl)); intro K hK; go_big_quiet_op; go_big_quiet_on)
      | (refine flat_len 5 ?_ List.mem_cons_self Rl5.out (fun w => Below.refl _ _) rfl rfl rfl W ?_; (focus (simp)); intro K hK; go_big_quiet_op; go_big_quiet_on))
    refine flat_nil ?_
    have E0 := Lib.hid e0
    clear e0
    have E1 := Lib.hid e1
    clear e1
    have E2 := Lib.hid e2
    clear e2
    have E3 := Lib.hid e3
    clear e3
    have E4 := Lib.hid e4
    clear e4
    intro W7 hW7 x45 hx45 x31 _
    obtain ⟨g, rfl, hg⟩ := hx45
    simp only [endF, Act.put, List.setIfInBounds_toArray, List.set_cons_succ, List.set_cons_zero]
    have hbx7 : Blk W7 x 63 #[.int .u32 0, .int .u32 0, .int .u8 0, .int .u8 0, .int .u8 0, .int .u16 0, .bool false] := Hbx.out.below hW7 Hbx.out.lt
    have hb7 : Below w.heap.size w W7 := Hb0.out.trans (hW7.mono Hb0.out.size)
    clear Hbx Hb0 hW7 ne
    have Hg := Lib.hid hg
    clear hg
    have Hbx7 := Lib.hid hbx7
    clear hbx7
    have Hb7 := Lib.hid hb7
    clear hb7
    go_wp2_with fail
    go_loopw [47] (fun i wr => Below W7.heap.size W7 wr ∧ ((i = .int .i64 0) ∨ (i = .int .i64 1 ∧ b0 = false) ∨ (i = .int .i64 2 ∧ b0 = false ∧ b1 = false) ∨ (i = .int .i64 3 ∧ b0 = false ∧ b1 = false ∧ b2 = false) ∨ (i = .int .i64 4 ∧ b0 = false ∧ b1 = false ∧ b2 = false ∧ ok = true) ∨ (i = .int .i64 5 ∧ b0 = false ∧ b1 = false ∧ b2 = false ∧ ok = true ∧ true = false))) (fun i _ => 5 - (intOf i).toNat)
    case atStart => exact ⟨Below.refl _ _, .inl rfl⟩
    case round =>
      obtain ⟨hbr, hrel⟩ := hrel
      have hgr := Hg.out.below hbr Hg.out.lt
      have hxr := Hbx7.out.below hbr Hbx7.out.lt
      have Hbr := Lib.hid hbr
      clear hbr
      have Hxr := Lib.hid hxr
      clear hxr
      rcases hrel with rfl | ⟨rfl, rfl⟩ | ⟨rfl, rfl, rfl⟩ | ⟨rfl, rfl, rfl, rfl⟩ | ⟨rfl, rfl, rfl, rfl, rfl⟩ | ⟨rfl, rfl, rfl, rfl, rfl, d4⟩
      · cases b0
        · have c0 := hgr.cell 0
          have c1 := hgr.cell 1
          simp at c0 c1
          clear hgr
          go_wp2_with fail
          first | exact ⟨⟨Hbr.out.alloc Hbr.out.size _, by simp⟩, by simp [intOf]⟩ | exact ⟨Hbr.out.alloc Hbr.out.size _, by simp [intOf]⟩
        · have c0 := hgr.cell 0
          have c1 := hgr.cell 1
          simp at c0 c1
          clear hgr
          have x0 := Hxr.out.cell 0
          have x1 := Hxr.out.cell 1
          have x2 := Hxr.out.cell 2
          have x3 := Hxr.out.cell 3
          have x4 := Hxr.out.cell 4
          have x5 := Hxr.out.cell 5
          have x6 := Hxr.out.cell 6
          simp at x0 x1 x2 x3 x4 x5 x6
          have xf := Hxr.out.frozen
          have xl := Hxr.out.lt
          go_upto_region 7 with fail
          go_region
          go_wp2
          have hAns : decV s.data.toList = badV 51 := decV_bad ((decE_of s h20 E0.out E1.out Hnl.out E2.out Hok.out E3.out E4.out).trans (by simp)) (by decide)
          rw [hAns]
          clear x0 x1 x2 x3 x4 x5 x6 xf xl c0 c1
          generalize hWf : World.drew _ = Wf
          have hf : Blk Wf x 63 zeroC := by
            rw [← hWf]
            exact Blk.drew (Blk.alloc (blk_set7 Hxr.out _ _ _ _ _ _ _) _)
          have hbf : Below w.heap.size w Wf := by
            rw [← hWf]
            exact Below.drew (Below.alloc (below_set7 (Hb7.out.trans (Hbr.out.mono Hb7.out.size)) Hxw.out _ _ _ _ _ _ _) (by simp; exact Nat.le_trans Hb7.out.size Hbr.out.size) _)
          clear hWf
          have x0 := hf.cell 0
          have x1 := hf.cell 1
          have x2 := hf.cell 2
          have x3 := hf.cell 3
          have x4 := hf.cell 4
          have x5 := hf.cell 5
          have x6 := hf.cell 6
          simp [zeroC] at x0 x1 x2 x3 x4 x5 x6
          exact bodyPost_ret (v := badV 51) (by simp [results, Try.results40, go_sem, badV, zeroC, x0, x1, x2, x3, x4, x5, x6]) rfl ⟨rfl, hbf⟩
      · cases b1
        · have c0 := hgr.cell 2
          have c1 := hgr.cell 3
          simp at c0 c1
          clear hgr
          go_wp2_with fail
          first | exact ⟨⟨Hbr.out.alloc Hbr.out.size _, by simp⟩, by simp [intOf]⟩ | exact ⟨Hbr.out.alloc Hbr.out.size _, by simp [intOf]⟩
        · have c0 := hgr.cell 2
          have c1 := hgr.cell 3
          simp at c0 c1
          clear hgr
          have x0 := Hxr.out.cell 0
          have x1 := Hxr.out.cell 1
          have x2 := Hxr.out.cell 2
          have x3 := Hxr.out.cell 3
          have x4 := Hxr.out.cell 4
          have x5 := Hxr.out.cell 5
          have x6 := Hxr.out.cell 6
          simp at x0 x1 x2 x3 x4 x5 x6
          have xf := Hxr.out.frozen
          have xl := Hxr.out.lt
          go_upto_region 7 with fail
          go_region
          go_wp2
          have hAns : decV s.data.toList = badV 52 := decV_bad ((decE_of s h20 E0.out E1.out Hnl.out E2.out Hok.out E3.out E4.out).trans (by simp)) (by decide)
          rw [hAns]
          clear x0 x1 x2 x3 x4 x5 x6 xf xl c0 c1
          generalize hWf : World.drew _ = Wf
          have hf : Blk Wf x 63 zeroC := by
            rw [← hWf]
            exact Blk.drew (Blk.alloc (blk_set7 Hxr.out _ _ _ _ _ _ _) _)
          have hbf : Below w.heap.size w Wf := by
            rw [← hWf]
            exact Below.drew (Below.alloc (below_set7 (Hb7.out.trans (Hbr.out.mono Hb7.out.size)) Hxw.out _ _ _ _ _ _ _) (by simp; exact Nat.le_trans Hb7.out.size Hbr.out.size) _)
          clear hWf
          have x0 := hf.cell 0
          have x1 := hf.cell 1
          have x2 := hf.cell 2
          have x3 := hf.cell 3
          have x4 := hf.cell 4
          have x5 := hf.cell 5
          have x6 := hf.cell 6
          simp [zeroC] at x0 x1 x2 x3 x4 x5 x6
          exact bodyPost_ret (v := badV 52) (by simp [results, Try.results40, go_sem, badV, zeroC, x0, x1, x2, x3, x4, x5, x6]) rfl ⟨rfl, hbf⟩
      · cases b2
        · have c0 := hgr.cell 4
          have c1 := hgr.cell 5
          simp at c0 c1
          clear hgr
          go_wp2_with fail
          first | exact ⟨⟨Hbr.out.alloc Hbr.out.size _, by simp⟩, by simp [intOf]⟩ | exact ⟨Hbr.out.alloc Hbr.out.size _, by simp [intOf]⟩
        · have c0 := hgr.cell 4
          have c1 := hgr.cell 5
          simp at c0 c1
          clear hgr
          have x0 := Hxr.out.cell 0
          have x1 := Hxr.out.cell 1
          have x2 := Hxr.out.cell 2
          have x3 := Hxr.out.cell 3
          have x4 := Hxr.out.cell 4
          have x5 := Hxr.out.cell 5
          have x6 := Hxr.out.cell 6
          simp at x0 x1 x2 x3 x4 x5 x6
          have xf := Hxr.out.frozen
          have xl := Hxr.out.lt
          go_upto_region 7 with fail
          go_region
          go_wp2
          have hAns : decV s.data.toList = badV 53 := decV_bad ((decE_of s h20 E0.out E1.out Hnl.out E2.out Hok.out E3.out E4.out).trans (by simp)) (by decide)
          rw [hAns]
          clear x0 x1 x2 x3 x4 x5 x6 xf xl c0 c1
          generalize hWf : World.drew _ = Wf
          have hf : Blk Wf x 63 zeroC := by
            rw [← hWf]
            exact Blk.drew (Blk.alloc (blk_set7 Hxr.out _ _ _ _ _ _ _) _)
          have hbf : Below w.heap.size w Wf := by
            rw [← hWf]
            exact Below.drew (Below.alloc (below_set7 (Hb7.out.trans (Hbr.out.mono Hb7.out.size)) Hxw.out _ _ _ _ _ _ _) (by simp; exact Nat.le_trans Hb7.out.size Hbr.out.size) _)
          clear hWf
          have x0 := hf.cell 0
          have x1 := hf.cell 1
          have x2 := hf.cell 2
          have x3 := hf.cell 3
          have x4 := hf.cell 4
          have x5 := hf.cell 5
          have x6 := hf.cell 6
          simp [zeroC] at x0 x1 x2 x3 x4 x5 x6
          exact bodyPost_ret (v := badV 53) (by simp [results, Try.results40, go_sem, badV, zeroC, x0, x1, x2, x3, x4, x5, x6]) rfl ⟨rfl, hbf⟩
      · cases ok
        · have c0 := hgr.cell 6
          have c1 := hgr.cell 7
          simp at c0 c1
          clear hgr
          have x0 := Hxr.out.cell 0
          have x1 := Hxr.out.cell 1
          have x2 := Hxr.out.cell 2
          have x3 := Hxr.out.cell 3
          have x4 := Hxr.out.cell 4
          have x5 := Hxr.out.cell 5
          have x6 := Hxr.out.cell 6
          simp at x0 x1 x2 x3 x4 x5 x6
          have xf := Hxr.out.frozen
          have xl := Hxr.out.lt
          go_upto_region 7 with fail
          go_region
          go_wp2
          have hAns : decV s.data.toList = badV 55 := decV_bad ((decE_of s h20 E0.out E1.out Hnl.out E2.out Hok.out E3.out E4.out).trans (by simp)) (by decide)
          rw [hAns]
          clear x0 x1 x2 x3 x4 x5 x6 xf xl c0 c1
          generalize hWf : World.drew _ = Wf
          have hf : Blk Wf x 63 zeroC := by
            rw [← hWf]
            exact Blk.drew (Blk.alloc (blk_set7 Hxr.out _ _ _ _ _ _ _) _)
          have hbf : Below w.heap.size w Wf := by
            rw [← hWf]
            exact Below.drew (Below.alloc (below_set7 (Hb7.out.trans (Hbr.out.mono Hb7.out.size)) Hxw.out _ _ _ _ _ _ _) (by simp; exact Nat.le_trans Hb7.out.size Hbr.out.size) _)
          clear hWf
          have x0 := hf.cell 0
          have x1 := hf.cell 1
          have x2 := hf.cell 2
          have x3 := hf.cell 3
          have x4 := hf.cell 4
          have x5 := hf.cell 5
          have x6 := hf.cell 6
          simp [zeroC] at x0 x1 x2 x3 x4 x5 x6
          exact bodyPost_ret (v := badV 55) (by simp [results, Try.results40, go_sem, badV, zeroC, x0, x1, x2, x3, x4, x5, x6]) rfl ⟨rfl, hbf⟩
        · have c0 := hgr.cell 6
          have c1 := hgr.cell 7
          simp at c0 c1
          clear hgr
          go_wp2_with fail
          first | exact ⟨⟨Hbr.out.alloc Hbr.out.size _, by simp⟩, by simp [intOf]⟩ | exact ⟨Hbr.out.alloc Hbr.out.size _, by simp [intOf]⟩
      · have c0 := hgr.cell 8
        have c1 := hgr.cell 9
        simp at c0 c1
        clear hgr
        have x0 := Hxr.out.cell 0
        have x1 := Hxr.out.cell 1
        have x2 := Hxr.out.cell 2
        have x3 := Hxr.out.cell 3
        have x4 := Hxr.out.cell 4
        have x5 := Hxr.out.cell 5
        have x6 := Hxr.out.cell 6
        simp at x0 x1 x2 x3 x4 x5 x6
        have xf := Hxr.out.frozen
        have xl := Hxr.out.lt
        go_upto_region 7 with fail
        go_region
        go_wp2
        have hAns : decV s.data.toList = badV 54 := decV_bad ((decE_of s h20 E0.out E1.out Hnl.out E2.out Hok.out E3.out E4.out).trans (by simp)) (by decide)
        rw [hAns]
        clear x0 x1 x2 x3 x4 x5 x6 xf xl c0 c1
        generalize hWf : World.drew _ = Wf
        have hf : Blk Wf x 63 zeroC := by
          rw [← hWf]
          exact Blk.drew (Blk.alloc (blk_set7 Hxr.out _ _ _ _ _ _ _) _)
        have hbf : Below w.heap.size w Wf := by
          rw [← hWf]
          exact Below.drew (Below.alloc (below_set7 (Hb7.out.trans (Hbr.out.mono Hb7.out.size)) Hxw.out _ _ _ _ _ _ _) (by simp; exact Nat.le_trans Hb7.out.size Hbr.out.size) _)
        clear hWf
        have x0 := hf.cell 0
        have x1 := hf.cell 1
        have x2 := hf.cell 2
        have x3 := hf.cell 3
        have x4 := hf.cell 4
        have x5 := hf.cell 5
        have x6 := hf.cell 6
        simp [zeroC] at x0 x1 x2 x3 x4 x5 x6
        exact bodyPost_ret (v := badV 54) (by simp [results, Try.results40, go_sem, badV, zeroC, x0, x1, x2, x3, x4, x5, x6]) rfl ⟨rfl, hbf⟩
      · cases d4
end Go.Proofs.Ytengegcnocdkoaa.I
end
