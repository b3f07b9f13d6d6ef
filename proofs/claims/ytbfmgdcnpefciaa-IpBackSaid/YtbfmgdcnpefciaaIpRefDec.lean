/- Contracts of layer 5 (ip): the document's Decode. -/
import Derived.Test.YtbfmgdcnpefciaaIpDec
set_option linter.unusedVariables false
set_option linter.unusedSimpArgs false
namespace Go.Proofs.Ytbfmgdcnpefciaa
open Go.RowKit Go.BigFrame

set_option maxHeartbeats 1000000 in
theorem dec_short (s : ByteArray) (w : World) (h20 : s.size < 20) :
    Calls Try.prog 26 #[.string s] w fun e w' => e = .returned (decV s.data.toList) ∧ Below w.heap.size w w' := by
  have hE : decE s.data.toList = 50 := by
    unfold decE
    rw [if_pos (show s.data.toList.length < 20 from h20)]
  have hV := decV_bad hE (by decide)
  have HV := Lib.hid hV
  clear hV hE
  have i1 : (s.size : Int) < 20 := by omega
  go_enter Try.func26, Try.ntmps26
  go_wp2
  rw [HV.out]
  exact bodyPost_ret (v := badV 50) (by simp [results, Try.results26, go_sem, badV, zeroC]) rfl ⟨rfl, by first | exact ((Below.refl _ _).alloc (Nat.le_refl _) _) | exact Below.alloc (Below.refl _ _) (by simp) _⟩
set_option maxHeartbeats 1000000 in
theorem ref_dec_short (s : ByteArray) (w : World) (h20 : s.size < 20) :
    Calls Try.prog 27 #[.string s] w fun e w' => e = .returned (decV s.data.toList) ∧ Below w.heap.size w w' := by
  have hE : decE s.data.toList = 50 := by
    unfold decE
    rw [if_pos (show s.data.toList.length < 20 from h20)]
  have hV := decV_bad hE (by decide)
  have HV := Lib.hid hV
  clear hV hE
  have i1 : (s.size : Int) < 20 := by omega
  go_enter Try.func27, Try.ntmps27
  go_wp2
  rw [HV.out]
  exact bodyPost_ret (v := badV 50) (by simp [results, Try.results27, go_sem, badV, zeroC]) rfl ⟨rfl, by first | exact ((Below.refl _ _).alloc (Nat.le_refl _) _) | exact Below.alloc (Below.refl _ _) (by simp) _⟩

set_option maxRecDepth 100000 in
set_option maxHeartbeats 4000000 in
theorem ref_dec_any (s : ByteArray) (w : World) (h20 : 20 ≤ s.size) (hs : s.size ≤ 1099511627776) :
    Calls Try.prog 27 #[.string s] w fun e w' => e = .returned (decV s.data.toList) ∧ Below w.heap.size w w' := by
  have i1 : (20 : Int) ≤ (s.size : Int) := by omega
  have i2 : (s.size : Int) ≤ 1099511627776 := by omega
  have j0 : 0 < s.size := by omega
  have j1 : 1 < s.size := by omega
  have j6 : 6 < s.size := by omega
  have j7 : 7 < s.size := by omega
  have l0 := (s[0]'j0).toNat_lt
  have l6 := (s[6]'j6).toNat_lt
  have l7 := (s[7]'j7).toNat_lt
  have i6 : (6 : Int) < (s.size : Int) := by omega
  have i7 : (7 : Int) < (s.size : Int) := by omega
  have i4 : (4 : Int) ≤ (s.size : Int) := by omega
  obtain ⟨b0, e0⟩ : ∃ b, (((s[0]'j0).toNat : Int) / 16 != 4) = b := ⟨_, rfl⟩
  obtain ⟨b1, e1⟩ : ∃ b, (((s[0]'j0).toNat : Int) % 16 != 5) = b := ⟨_, rfl⟩
  obtain ⟨b4, e4⟩ : ∃ b, (((s[7]'j7).toNat : Int) != 0) = b := ⟨_, rfl⟩
  obtain ⟨c0, f0⟩ : ∃ b, (((s[6]'j6).toNat : Int) != 0) = b := ⟨_, rfl⟩
  obtain ⟨c1, f1⟩ : ∃ b, (((s[6]'j6).toNat : Int) != 64) = b := ⟨_, rfl⟩
  have e3 : (bits .andNot .u8 ((s[6]'j6).toNat : Int) 64 != 0) = (c0 && c1) := by
    rw [andNot64, ← f0, ← f1, Bool.eq_iff_iff]
    simp
    omega
  have nb : ∀ (t : ByteArray) (W : World), t.size ≤ maxLen → Calls Try.prog 36 #[.string t] W fun e w' => e = .returned (.int .u32 ((numL t.data.toList : Nat) : Int)) ∧ Below W.heap.size W w' := fun t W ht =>
    (ref_num t W ht).mono fun e w' hh => ⟨hh.1, by rw [← hh.2]; exact Below.refl _ _⟩
  have n1 := fun W => ref_num (s.extract 2 4) W (by simp [maxLen]; omega)
  have en : numL (s.extract 2 4).data.toList = numL ((s.data.toList.drop 2).take 2) := num_ext s 2 4
  rw [en] at n1
  obtain ⟨nl, hnl⟩ : ∃ nl, nl = numL ((s.data.toList.drop 2).take 2) := ⟨_, rfl⟩
  rw [← hnl] at n1
  have hnb : nl < 4294967296 := by rw [hnl]; exact numL_lt _
  have ro := fun W => ref_of (s.extract 0 20) W (by simp; omega)
  have eo : (s.extract 0 20).data.toList = s.data.toList.take 20 := by simp [ByteArray.data_extract]
  rw [eo] at ro
  obtain ⟨sm, hsm⟩ : ∃ sm, sm = ofL (s.data.toList.take 20) := ⟨_, rfl⟩
  obtain ⟨ok, hok⟩ : ∃ ok : Bool, ok = ((ofL (s.data.toList.take 20) : Int) == 0) := ⟨_, rfl⟩
  rw [← hsm] at ro hok
  have eo2 : ((sm : Int) != 0) = !ok := by rw [hok]; rfl
  obtain ⟨b2, e2⟩ : ∃ b, ((nl : Int) != (s.size : Int)) = b := ⟨_, rfl⟩
  have t1 : (1 : Int) < (s.size : Int) := by omega
  have t8 : (8 : Int) < (s.size : Int) := by omega
  have t9 : (9 : Int) < (s.size : Int) := by omega
  have t10 : (6 : Int) ≤ (s.size : Int) := by omega
  have t12 : (12 : Int) ≤ (s.size : Int) := by omega
  have t16 : (16 : Int) ≤ (s.size : Int) := by omega
  have m1 := fun W => nb (s.extract 4 6) W (by simp [maxLen]; omega)
  have m2 := fun W => nb (s.extract 12 16) W (by simp [maxLen]; omega)
  have m3 := fun W => nb (s.extract 16 20) W (by simp [maxLen]; omega)
  obtain ⟨u1, hu1⟩ : ∃ u, u = numL (s.extract 4 6).data.toList := ⟨_, rfl⟩
  obtain ⟨u2, hu2⟩ : ∃ u, u = numL (s.extract 12 16).data.toList := ⟨_, rfl⟩
  obtain ⟨u3, hu3⟩ : ∃ u, u = numL (s.extract 16 20).data.toList := ⟨_, rfl⟩
  rw [← hu1] at m1
  rw [← hu2] at m2
  rw [← hu3] at m3
  have tu : IntKind.u16.wrap (u1 : Int) = (u1 : Int) % 65536 := IntKind.wrap_u16 _
  obtain ⟨df, hdf⟩ : ∃ b : Bool, (((s[6]'j6).toNat : Int) == 64) = b := ⟨_, rfl⟩
  have E0 := Lib.hid e0
  have E1 := Lib.hid e1
  have E2 := Lib.hid e2
  have E3 := Lib.hid e3
  have E4 := Lib.hid e4
  rw [hsm] at hok
  have Hnl := Lib.hid hnl
  clear hnl
  have Hok := Lib.hid hok
  clear hok
  have N1 := Lib.hid n1
  clear n1
  have Ro := Lib.hid ro
  clear ro
  have Hu1 := Lib.hid hu1
  clear hu1
  have Hu2 := Lib.hid hu2
  clear hu2
  have Hu3 := Lib.hid hu3
  clear hu3
  have M1 := Lib.hid m1
  clear m1
  have M2 := Lib.hid m2
  clear m2
  have M3 := Lib.hid m3
  clear m3
  clear en eo hsm e3 nb
  cases b0
  case true =>
    go_enter Try.func27, Try.ntmps27
    go_wp2
    rw [decV_bad (e := 51) ((decE_of s h20 E0.out E1.out Hnl.out E2.out Hok.out E3.out E4.out).trans (by simp)) (by decide)]
    exact bodyPost_ret (v := badV 51) (by simp [results, Try.results27, go_sem, badV, zeroC]) rfl ⟨rfl, (Below.refl _ _).alloc (Nat.le_refl _) _⟩
  cases b1
  case true =>
    go_enter Try.func27, Try.ntmps27
    go_wp2
    rw [decV_bad (e := 52) ((decE_of s h20 E0.out E1.out Hnl.out E2.out Hok.out E3.out E4.out).trans (by simp)) (by decide)]
    exact bodyPost_ret (v := badV 52) (by simp [results, Try.results27, go_sem, badV, zeroC]) rfl ⟨rfl, (Below.refl _ _).alloc (Nat.le_refl _) _⟩
  cases b2
  case true =>
    go_enter Try.func27, Try.ntmps27
    go_wp2_with fail
    (with_reducible refine (N1.out _).mono ?_)
    rintro e w' ⟨rfl, rfl⟩
    go_wp2
    rw [decV_bad (e := 53) ((decE_of s h20 E0.out E1.out Hnl.out E2.out Hok.out E3.out E4.out).trans (by simp)) (by decide)]
    exact bodyPost_ret (v := badV 53) (by simp [results, Try.results27, go_sem, badV, zeroC]) rfl ⟨rfl, (Below.refl _ _).alloc (Nat.le_refl _) _⟩
  cases ok
  case false =>
    go_enter Try.func27, Try.ntmps27
    go_wp2_with fail
    (with_reducible refine (N1.out _).mono ?_)
    rintro e w' ⟨rfl, rfl⟩
    go_wp2_with fail
    (with_reducible refine (Ro.out _).mono ?_)
    rintro e w' ⟨rfl, rfl⟩
    go_wp2
    rw [decV_bad (e := 55) ((decE_of s h20 E0.out E1.out Hnl.out E2.out Hok.out E3.out E4.out).trans (by simp)) (by decide)]
    exact bodyPost_ret (v := badV 55) (by simp [results, Try.results27, go_sem, badV, zeroC]) rfl ⟨rfl, (Below.refl _ _).alloc (Nat.le_refl _) _⟩
  cases b4
  case true =>
    cases c0
    case true =>
      cases c1
      case true =>
        go_enter Try.func27, Try.ntmps27
        go_wp2_with fail
        (with_reducible refine (N1.out _).mono ?_)
        rintro e w' ⟨rfl, rfl⟩
        go_wp2_with fail
        (with_reducible refine (Ro.out _).mono ?_)
        rintro e w' ⟨rfl, rfl⟩
        go_wp2
        rw [decV_bad (e := 54) ((decE_of s h20 E0.out E1.out Hnl.out E2.out Hok.out E3.out E4.out).trans (by simp)) (by decide)]
        exact bodyPost_ret (v := badV 54) (by simp [results, Try.results27, go_sem, badV, zeroC]) rfl ⟨rfl, (Below.refl _ _).alloc (Nat.le_refl _) _⟩
      case false =>
        go_enter Try.func27, Try.ntmps27
        go_wp2_with fail
        (with_reducible refine (N1.out _).mono ?_)
        rintro e w' ⟨rfl, rfl⟩
        go_wp2_with fail
        (with_reducible refine (Ro.out _).mono ?_)
        rintro e w' ⟨rfl, rfl⟩
        go_wp2
        rw [decV_bad (e := 54) ((decE_of s h20 E0.out E1.out Hnl.out E2.out Hok.out E3.out E4.out).trans (by simp)) (by decide)]
        exact bodyPost_ret (v := badV 54) (by simp [results, Try.results27, go_sem, badV, zeroC]) rfl ⟨rfl, (Below.refl _ _).alloc (Nat.le_refl _) _⟩
    case false =>
      go_enter Try.func27, Try.ntmps27
      go_wp2_with fail
      (with_reducible refine (N1.out _).mono ?_)
      rintro e w' ⟨rfl, rfl⟩
      go_wp2_with fail
      (with_reducible refine (Ro.out _).mono ?_)
      rintro e w' ⟨rfl, rfl⟩
      go_wp2
      rw [decV_bad (e := 54) ((decE_of s h20 E0.out E1.out Hnl.out E2.out Hok.out E3.out E4.out).trans (by simp)) (by decide)]
      exact bodyPost_ret (v := badV 54) (by simp [results, Try.results27, go_sem, badV, zeroC]) rfl ⟨rfl, (Below.refl _ _).alloc (Nat.le_refl _) _⟩
  cases c0
  case true =>
    cases c1
    case true =>
      go_enter Try.func27, Try.ntmps27
      go_wp2_with fail
      (with_reducible refine (N1.out _).mono ?_)
      rintro e w' ⟨rfl, rfl⟩
      go_wp2_with fail
      (with_reducible refine (Ro.out _).mono ?_)
      rintro e w' ⟨rfl, rfl⟩
      go_wp2
      rw [decV_bad (e := 54) ((decE_of s h20 E0.out E1.out Hnl.out E2.out Hok.out E3.out E4.out).trans (by simp)) (by decide)]
      exact bodyPost_ret (v := badV 54) (by simp [results, Try.results27, go_sem, badV, zeroC]) rfl ⟨rfl, (Below.refl _ _).alloc (Nat.le_refl _) _⟩
    case false =>
      go_enter Try.func27, Try.ntmps27
      go_wp2_with fail
      (with_reducible refine (N1.out _).mono ?_)
      rintro e w' ⟨rfl, rfl⟩
      go_wp2_with fail
      (with_reducible refine (Ro.out _).mono ?_)
      rintro e w' ⟨rfl, rfl⟩
      go_upto_region 13 with fail
      have hbx := Blk.new w 48 zeroC
      have hb0 : Below w.heap.size w (w.alloc (.cells zeroC 48)) := (Below.refl _ _).alloc (Nat.le_refl _) _
      unfold zeroC at hbx hb0
      generalize hW : w.alloc _ = wr at *
      obtain ⟨x, hx⟩ : ∃ x, x = w.heap.size := ⟨_, rfl⟩
      rw [← hx] at hbx ⊢
      have hxw : w.heap.size ≤ x := by omega
      have hS0 : KeepS wr x 48 zeroC wr := ⟨Below.refl _ _, hbx⟩
      have ne : Nonempty (Cls (KeepS wr x 48 zeroC)) := ⟨⟨wr, hS0⟩⟩
      have hxl := hbx.lt
      have al : ∀ W : World, (Instr.alloc 48 true (.tuple #[])).run Try.prog W = .ok (.pointer (some ⟨W.heap.size, 0, none⟩)) (W.alloc (.cells zeroC 48)) := fun _ => by kernel_rfl
      have cf : ∀ (vals : Array Value) (w : World), (callFunc 36 vals).run Try.prog w = .ok (.enter 36 vals) w := fun _ _ => by kernel_rfl
      have Hb0 := Lib.hid hb0
      clear hb0
      have Hxw := Lib.hid hxw
      clear hxw
      have Hxl := Lib.hid hxl
      clear hxl
      have Al := Lib.hid al
      clear al
      have Cf := Lib.hid cf
      clear cf
      clear hW hx hbx
      refine wp_region_flat1 21 (KeepS wr x 48 zeroC) (fun w w' => Below w.heap.size w w') (by kernel_rfl) (by kernel_rfl) (by kernel_rfl) (fun w => Below.refl _ _) hS0.drew ?_
      simp only [List.take_succ_cons, List.take_zero, List.drop_succ_cons, List.drop_zero]
      repeat (first
        | (refine flat_quiet (fun w => Below.refl _ _) rfl rfl rfl rfl ?_; intro K hK; go_big_quiet_op; go_big_quiet_on)
        | (refine flat_call Cf.out _ ?_ rfl rfl rfl _ (fun y => below_call KeepS.below y (M1.out _)) wr ?_; (focus (simp only [List.map_toArray, List.map_cons, List.map_nil]; rfl)); intro K hK; go_big_quiet_op; go_big_quiet_on)
        | (refine flat_call Cf.out _ ?_ rfl rfl rfl _ (fun y => below_call KeepS.below y (M2.out _)) wr ?_; (focus (simp only [List.map_toArray, List.map_cons, List.map_nil]; rfl)); intro K hK; go_big_quiet_op; go_big_quiet_on)
        | (refine flat_call Cf.out _ ?_ rfl rfl rfl _ (fun y => below_call KeepS.below y (M3.out _)) wr ?_; (focus (simp only [List.map_toArray, List.map_cons, List.map_nil]; rfl)); intro K hK; go_big_quiet_op; go_big_quiet_on)
        | (refine flat_alloc wr.heap.size zeroC Al.out KeepS.below KeepS.size rfl rfl rfl wr ?_; intro K hK; go_big_quiet_op; go_big_quiet_on))
      refine flat_nil ?_
      intro W9 hW9 x5 hx5
      obtain ⟨g, rfl, hgB, hg⟩ := hx5
      simp only [endF, Act.put, List.setIfInBounds_toArray, List.set_cons_succ, List.set_cons_zero]
      clear ne hS0
      have x0 := hg.cell 0
      have x1 := hg.cell 1
      have x2 := hg.cell 2
      have x3 := hg.cell 3
      have x4 := hg.cell 4
      have x5 := hg.cell 5
      have x6 := hg.cell 6
      simp [zeroC] at x0 x1 x2 x3 x4 x5 x6
      have xf := hg.frozen
      have hgx : x ≠ g := by have := Hxl.out; omega
      have Hgx := Lib.hid hgx
      clear hgx
      have Hg := Lib.hid hg
      clear hg
      have HgB := Lib.hid hgB
      clear hgB
      have HW9 := Lib.hid hW9
      clear hW9
      go_upto_region 14 with fail
      generalize hWt : World.setCell _ _ _ = Wt
      have ht : Blk Wt g 48 #[.int .u32 (u2 : Int), .int .u32 (u3 : Int), .int .u8 ((s[9]'(by omega)).toNat : Int), .int .u8 ((s[8]'(by omega)).toNat : Int), .int .u8 ((s[1]'j1).toNat : Int), .int .u16 ((u1 : Int) % 65536), .bool df] := by
        rw [← hWt]
        exact blk_set7 Hg.out _ _ _ _ _ _ _
      have hu : Blk Wt x 48 zeroC := by
        rw [← hWt]
        have n := Hgx.out
        exact Blk.far (Blk.far (Blk.far (Blk.far (Blk.far (Blk.far (Blk.far HW9.out.2 (p := ⟨g, 0, none⟩) n _) (p := ⟨g, 1, none⟩) n _) (p := ⟨g, 2, none⟩) n _) (p := ⟨g, 3, none⟩) n _) (p := ⟨g, 4, none⟩) n _) (p := ⟨g, 5, none⟩) n _) (p := ⟨g, 6, none⟩) n _
      have hbt : Below w.heap.size w Wt := by
        rw [← hWt]
        exact below_set7 (Hb0.out.trans (HW9.out.1.mono Hb0.out.size)) (Nat.le_trans Hb0.out.size HgB.out) _ _ _ _ _ _ _
      clear hWt x0 x1 x2 x3 x4 x5 x6 xf
      have x0 := ht.cell 0
      have x1 := ht.cell 1
      have x2 := ht.cell 2
      have x3 := ht.cell 3
      have x4 := ht.cell 4
      have x5 := ht.cell 5
      have x6 := ht.cell 6
      simp at x0 x1 x2 x3 x4 x5 x6
      have z0 := hu.cell 0
      have z1 := hu.cell 1
      have z2 := hu.cell 2
      have z3 := hu.cell 3
      have z4 := hu.cell 4
      have z5 := hu.cell 5
      have z6 := hu.cell 6
      simp [zeroC] at z0 z1 z2 z3 z4 z5 z6
      have xf := hu.frozen
      have t20 : (20 : Int) ≤ (s.size : Int) := by omega
      have Ht := Lib.hid ht
      clear ht
      have Hu := Lib.hid hu
      clear hu
      have Hbt := Lib.hid hbt
      clear hbt
      have Hdf := Lib.hid hdf
      clear hdf
      go_region
      go_wp2
      clear x0 x1 x2 x3 x4 x5 x6 xf z0 z1 z2 z3 z4 z5 z6
      generalize hWf : World.drew _ = Wf
      have hf : Blk Wf x 48 #[.int .u32 (u2 : Int), .int .u32 (u3 : Int), .int .u8 ((s[9]'(by omega)).toNat : Int), .int .u8 ((s[8]'(by omega)).toNat : Int), .int .u8 ((s[1]'j1).toNat : Int), .int .u16 ((u1 : Int) % 65536), .bool df] := by
        rw [← hWf]
        exact Blk.drew (blk_set7 Hu.out _ _ _ _ _ _ _)
      have hbf : Below w.heap.size w Wf := by
        rw [← hWf]
        exact Below.drew (below_set7 Hbt.out Hxw.out _ _ _ _ _ _ _)
      clear hWf
      have x0 := hf.cell 0
      have x1 := hf.cell 1
      have x2 := hf.cell 2
      have x3 := hf.cell 3
      have x4 := hf.cell 4
      have x5 := hf.cell 5
      have x6 := hf.cell 6
      simp at x0 x1 x2 x3 x4 x5 x6
      rw [decV_done s h20 ((decE_of s h20 E0.out E1.out Hnl.out E2.out Hok.out E3.out E4.out).trans (by simp)) Hu1.out Hu2.out Hu3.out Hdf.out]
      exact bodyPost_ret (v := .tuple #[.agg #[.int .u32 (u2 : Int), .int .u32 (u3 : Int), .int .u8 ((s[9]'(by omega)).toNat : Int), .int .u8 ((s[8]'(by omega)).toNat : Int), .int .u8 ((s[1]'j1).toNat : Int), .int .u16 ((u1 : Int) % 65536), .bool df], .string (s.extract 20 s.size), .int .i64 0]) (by simp [results, Try.results27, go_sem, x0, x1, x2, x3, x4, x5, x6]) rfl ⟨rfl, hbf⟩
  case false =>
    go_enter Try.func27, Try.ntmps27
    go_wp2_with fail
    (with_reducible refine (N1.out _).mono ?_)
    rintro e w' ⟨rfl, rfl⟩
    go_wp2_with fail
    (with_reducible refine (Ro.out _).mono ?_)
    rintro e w' ⟨rfl, rfl⟩
    go_upto_region 13 with fail
    have hbx := Blk.new w 48 zeroC
    have hb0 : Below w.heap.size w (w.alloc (.cells zeroC 48)) := (Below.refl _ _).alloc (Nat.le_refl _) _
    unfold zeroC at hbx hb0
    generalize hW : w.alloc _ = wr at *
    obtain ⟨x, hx⟩ : ∃ x, x = w.heap.size := ⟨_, rfl⟩
    rw [← hx] at hbx ⊢
    have hxw : w.heap.size ≤ x := by omega
    have hS0 : KeepS wr x 48 zeroC wr := ⟨Below.refl _ _, hbx⟩
    have ne : Nonempty (Cls (KeepS wr x 48 zeroC)) := ⟨⟨wr, hS0⟩⟩
    have hxl := hbx.lt
    have al : ∀ W : World, (Instr.alloc 48 true (.tuple #[])).run Try.prog W = .ok (.pointer (some ⟨W.heap.size, 0, none⟩)) (W.alloc (.cells zeroC 48)) := fun _ => by kernel_rfl
    have cf : ∀ (vals : Array Value) (w : World), (callFunc 36 vals).run Try.prog w = .ok (.enter 36 vals) w := fun _ _ => by kernel_rfl
    have Hb0 := Lib.hid hb0
    clear hb0
    have Hxw := Lib.hid hxw
    clear hxw
    have Hxl := Lib.hid hxl
    clear hxl
    have Al := Lib.hid al
    clear al
    have Cf := Lib.hid cf
    clear cf
    clear hW hx hbx
    refine wp_region_flat1 21 (KeepS wr x 48 zeroC) (fun w w' => Below w.heap.size w w') (by kernel_rfl) (by kernel_rfl) (by kernel_rfl) (fun w => Below.refl _ _) hS0.drew ?_
    simp only [List.take_succ_cons, List.take_zero, List.drop_succ_cons, List.drop_zero]
    repeat (first
      | (refine flat_quiet (fun w => Below.refl _ _) rfl rfl rfl rfl ?_; intro K hK; go_big_quiet_op; go_big_quiet_on)
      | (refine flat_call Cf.out _ ?_ rfl rfl rfl _ (fun y => below_call KeepS.below y (M1.out _)) wr ?_; (focus (simp only [List.map_toArray, List.map_cons, List.map_nil]; rfl)); intro K hK; go_big_quiet_op; go_big_quiet_on)
      | (refine flat_call Cf.out _ ?_ rfl rfl rfl _ (fun y => below_call KeepS.below y (M2.out _)) wr ?_; (focus (simp only [List.map_toArray, List.map_cons, List.map_nil]; rfl)); intro K hK; go_big_quiet_op; go_big_quiet_on)
      | (refine flat_call Cf.out _ ?_ rfl rfl rfl _ (fun y => below_call KeepS.below y (M3.out _)) wr ?_; (focus (simp only [List.map_toArray, List.map_cons, List.map_nil]; rfl)); intro K hK; go_big_quiet_op; go_big_quiet_on)
      | (refine flat_alloc wr.heap.size zeroC Al.out KeepS.below KeepS.size rfl rfl rfl wr ?_; intro K hK; go_big_quiet_op; go_big_quiet_on))
    refine flat_nil ?_
    intro W9 hW9 x5 hx5
    obtain ⟨g, rfl, hgB, hg⟩ := hx5
    simp only [endF, Act.put, List.setIfInBounds_toArray, List.set_cons_succ, List.set_cons_zero]
    clear ne hS0
    have x0 := hg.cell 0
    have x1 := hg.cell 1
    have x2 := hg.cell 2
    have x3 := hg.cell 3
    have x4 := hg.cell 4
    have x5 := hg.cell 5
    have x6 := hg.cell 6
    simp [zeroC] at x0 x1 x2 x3 x4 x5 x6
    have xf := hg.frozen
    have hgx : x ≠ g := by have := Hxl.out; omega
    have Hgx := Lib.hid hgx
    clear hgx
    have Hg := Lib.hid hg
    clear hg
    have HgB := Lib.hid hgB
    clear hgB
    have HW9 := Lib.hid hW9
    clear hW9
    go_upto_region 14 with fail
    generalize hWt : World.setCell _ _ _ = Wt
    have ht : Blk Wt g 48 #[.int .u32 (u2 : Int), .int .u32 (u3 : Int), .int .u8 ((s[9]'(by omega)).toNat : Int), .int .u8 ((s[8]'(by omega)).toNat : Int), .int .u8 ((s[1]'j1).toNat : Int), .int .u16 ((u1 : Int) % 65536), .bool df] := by
      rw [← hWt]
      exact blk_set7 Hg.out _ _ _ _ _ _ _
    have hu : Blk Wt x 48 zeroC := by
      rw [← hWt]
      have n := Hgx.out
      exact Blk.far (Blk.far (Blk.far (Blk.far (Blk.far (Blk.far (Blk.far HW9.out.2 (p := ⟨g, 0, none⟩) n _) (p := ⟨g, 1, none⟩) n _) (p := ⟨g, 2, none⟩) n _) (p := ⟨g, 3, none⟩) n _) (p := ⟨g, 4, none⟩) n _) (p := ⟨g, 5, none⟩) n _) (p := ⟨g, 6, none⟩) n _
    have hbt : Below w.heap.size w Wt := by
      rw [← hWt]
      exact below_set7 (Hb0.out.trans (HW9.out.1.mono Hb0.out.size)) (Nat.le_trans Hb0.out.size HgB.out) _ _ _ _ _ _ _
    clear hWt x0 x1 x2 x3 x4 x5 x6 xf
    have x0 := ht.cell 0
    have x1 := ht.cell 1
    have x2 := ht.cell 2
    have x3 := ht.cell 3
    have x4 := ht.cell 4
    have x5 := ht.cell 5
    have x6 := ht.cell 6
    simp at x0 x1 x2 x3 x4 x5 x6
    have z0 := hu.cell 0
    have z1 := hu.cell 1
    have z2 := hu.cell 2
    have z3 := hu.cell 3
    have z4 := hu.cell 4
    have z5 := hu.cell 5
    have z6 := hu.cell 6
    simp [zeroC] at z0 z1 z2 z3 z4 z5 z6
    have xf := hu.frozen
    have t20 : (20 : Int) ≤ (s.size : Int) := by omega
    have Ht := Lib.hid ht
    clear ht
    have Hu := Lib.hid hu
    clear hu
    have Hbt := Lib.hid hbt
    clear hbt
    have Hdf := Lib.hid hdf
    clear hdf
    go_region
    go_wp2
    clear x0 x1 x2 x3 x4 x5 x6 xf z0 z1 z2 z3 z4 z5 z6
    generalize hWf : World.drew _ = Wf
    have hf : Blk Wf x 48 #[.int .u32 (u2 : Int), .int .u32 (u3 : Int), .int .u8 ((s[9]'(by omega)).toNat : Int), .int .u8 ((s[8]'(by omega)).toNat : Int), .int .u8 ((s[1]'j1).toNat : Int), .int .u16 ((u1 : Int) % 65536), .bool df] := by
      rw [← hWf]
      exact Blk.drew (blk_set7 Hu.out _ _ _ _ _ _ _)
    have hbf : Below w.heap.size w Wf := by
      rw [← hWf]
      exact Below.drew (below_set7 Hbt.out Hxw.out _ _ _ _ _ _ _)
    clear hWf
    have x0 := hf.cell 0
    have x1 := hf.cell 1
    have x2 := hf.cell 2
    have x3 := hf.cell 3
    have x4 := hf.cell 4
    have x5 := hf.cell 5
    have x6 := hf.cell 6
    simp at x0 x1 x2 x3 x4 x5 x6
    rw [decV_done s h20 ((decE_of s h20 E0.out E1.out Hnl.out E2.out Hok.out E3.out E4.out).trans (by simp)) Hu1.out Hu2.out Hu3.out Hdf.out]
    exact bodyPost_ret (v := .tuple #[.agg #[.int .u32 (u2 : Int), .int .u32 (u3 : Int), .int .u8 ((s[9]'(by omega)).toNat : Int), .int .u8 ((s[8]'(by omega)).toNat : Int), .int .u8 ((s[1]'j1).toNat : Int), .int .u16 ((u1 : Int) % 65536), .bool df], .string (s.extract 20 s.size), .int .i64 0]) (by simp [results, Try.results27, go_sem, x0, x1, x2, x3, x4, x5, x6]) rfl ⟨rfl, hbf⟩
end Go.Proofs.Ytbfmgdcnpefciaa
