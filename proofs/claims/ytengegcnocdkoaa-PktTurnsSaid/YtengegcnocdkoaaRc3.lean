/- Contracts and plain lemmas: PIpRefDec, PIpAlive, PIpLaws, PTcp, PTcpPlain, PTcpAhead, PTcpEnc, PTcpErr, PTcpRefSum. -/
import Derived.Laws.BitsAllLaws
import Derived.Laws.MakeOwn
import Derived.Laws.OwnMore
import Derived.Deep.RegionHeld3
import Derived.Deep.DeepCutAuto
import Derived.Test.YtengegcnocdkoaaRc2
import Derived.Test.YtengegcnocdkoaaRc1
set_option linter.unusedVariables false
set_option linter.unusedSimpArgs false
set_option linter.unusedSectionVars false
section
namespace Go.Proofs.Ytengegcnocdkoaa.I
open Go.RowKit Go.BigFrame
set_option maxHeartbeats 1000000 in
theorem dec_short (s : ByteArray) (w : World) (h20 : s.size < 20) :
    Calls Try.prog 40 #[.string s] w fun e w' => e = .returned (decV s.data.toList) ∧ Below w.heap.size w w' := by
  have hE : decE s.data.toList = 50 := by
    unfold decE
    rw [if_pos (show s.data.toList.length < 20 from h20)]
  have hV := decV_bad hE (by decide)
  have HV := Lib.hid hV
  clear hV hE
  have i1 : (s.size : Int) < 20 := by omega
  go_enter Try.func40, Try.ntmps40
  go_wp2
  rw [HV.out]
  exact bodyPost_ret (v := badV 50) (by simp [results, Try.results40, go_sem, badV, zeroC]) rfl ⟨rfl, by first | exact ((Below.refl _ _).alloc (Nat.le_refl _) _) | exact Below.alloc (Below.refl _ _) (by simp) _⟩
set_option maxHeartbeats 1000000 in
theorem ref_dec_short (s : ByteArray) (w : World) (h20 : s.size < 20) :
    Calls Try.prog 78 #[.string s] w fun e w' => e = .returned (decV s.data.toList) ∧ Below w.heap.size w w' := by
  have hE : decE s.data.toList = 50 := by
    unfold decE
    rw [if_pos (show s.data.toList.length < 20 from h20)]
  have hV := decV_bad hE (by decide)
  have HV := Lib.hid hV
  clear hV hE
  have i1 : (s.size : Int) < 20 := by omega
  go_enter Try.func78, Try.ntmps78
  go_wp2
  rw [HV.out]
  exact bodyPost_ret (v := badV 50) (by simp [results, Try.results78, go_sem, badV, zeroC]) rfl ⟨rfl, by first | exact ((Below.refl _ _).alloc (Nat.le_refl _) _) | exact Below.alloc (Below.refl _ _) (by simp) _⟩
set_option maxRecDepth 100000 in
set_option maxHeartbeats 4000000 in
theorem ref_dec_any (s : ByteArray) (w : World) (h20 : 20 ≤ s.size) (hs : s.size ≤ 1099511627776) :
    Calls Try.prog 78 #[.string s] w fun e w' => e = .returned (decV s.data.toList) ∧ Below w.heap.size w w' := by
  have i1 : (20 : Int) ≤ (s.size : Int) := by omega
  have i2 : (s.size : Int) ≤ 1099511627776 := by omega
  have j0 : 0 < s.size := by omega
  have j1 : 1 < s.size := by omega
  have j6 : 6 < s.size := by omega
  have j7 : 7 < s.size := by omega
  have l0 := (s[0]'j0).toNat_lt
  have l6 := (s[6]'j6).toNat_lt
  have l7 := (s[7]'j7).toNat_lt
  have i6 : (6 : Int) < (s.size : Int) := by omega
  have i7 : (7 : Int) < (s.size : Int) := by omega
  have i4 : (4 : Int) ≤ (s.size : Int) := by omega
  obtain ⟨b0, e0⟩ : ∃ b, (((s[0]'j0).toNat : Int) / 16 != 4) = b := ⟨_, rfl⟩
  obtain ⟨b1, e1⟩ : ∃ b, (((s[0]'j0).toNat : Int) % 16 != 5) = b := ⟨_, rfl⟩
  obtain ⟨b4, e4⟩ : ∃ b, (((s[7]'j7).toNat : Int) != 0) = b := ⟨_, rfl⟩
  obtain ⟨c0, f0⟩ : ∃ b, (((s[6]'j6).toNat : Int) != 0) = b := ⟨_, rfl⟩
  obtain ⟨c1, f1⟩ : ∃ b, (((s[6]'j6).toNat : Int) != 64) = b := ⟨_, rfl⟩
  have e3 : (bits .andNot .u8 ((s[6]'j6).toNat : Int) 64 != 0) = (c0 && c1) := by
    rw [andNot64, ← f0, ← f1, Bool.eq_iff_iff]
    simp
    omega
  have nb : ∀ (t : ByteArray) (W : World), t.size ≤ maxLen → Calls Try.prog 54 #[.string t] W fun e w' => e = .returned (.int .u32 ((numL t.data.toList : Nat) : Int)) ∧ Below W.heap.size W w' := fun t W ht =>
    (ref_num t W ht).mono fun e w' hh => ⟨hh.1, by rw [← hh.2]; exact Below.refl _ _⟩
  have n1 := fun W => ref_num (s.extract 2 4) W (by simp [maxLen]; omega)
  have en : numL (s.extract 2 4).data.toList = numL ((s.data.toList.drop 2).take 2) := num_ext s 2 4
  rw [en] at n1
  obtain ⟨nl, hnl⟩ : ∃ nl, nl = numL ((s.data.toList.drop 2).take 2) := ⟨_, rfl⟩
  rw [← hnl] at n1
  have hnb : nl < 4294967296 := by rw [hnl]; exact numL_lt _
  have ro := fun W => ref_of (s.extract 0 20) W (by simp; omega)
  have eo : (s.extract 0 20).data.toList = s.data.toList.take 20 := by simp [ByteArray.data_extract]
  rw [eo] at ro
  obtain ⟨sm, hsm⟩ : ∃ sm, sm = ofL (s.data.toList.take 20) := ⟨_, rfl⟩
  obtain ⟨ok, hok⟩ : ∃ ok : Bool, ok = ((ofL (s.data.toList.take 20) : Int) == 0) := ⟨_, rfl⟩
  rw [← hsm] at ro hok
  have eo2 : ((sm : Int) != 0) = !ok := by rw [hok]; rfl
  obtain ⟨b2, e2⟩ : ∃ b, ((nl : Int) != (s.size : Int)) = b := ⟨_, rfl⟩
  have t1 : (1 : Int) < (s.size : Int) := by omega
  have t8 : (8 : Int) < (s.size : Int) := by omega
  have t9 : (9 : Int) < (s.size : Int) := by omega
  have t10 : (6 : Int) ≤ (s.size : Int) := by omega
  have t12 : (12 : Int) ≤ (s.size : Int) := by omega
  have t16 : (16 : Int) ≤ (s.size : Int) := by omega
  have m1 := fun W => nb (s.extract 4 6) W (by simp [maxLen]; omega)
  have m2 := fun W => nb (s.extract 12 16) W (by simp [maxLen]; omega)
  have m3 := fun W => nb (s.extract 16 20) W (by simp [maxLen]; omega)
  obtain ⟨u1, hu1⟩ : ∃ u, u = numL (s.extract 4 6).data.toList := ⟨_, rfl⟩
  obtain ⟨u2, hu2⟩ : ∃ u, u = numL (s.extract 12 16).data.toList := ⟨_, rfl⟩
  obtain ⟨u3, hu3⟩ : ∃ u, u = numL (s.extract 16 20).data.toList := ⟨_, rfl⟩
  rw [← hu1] at m1
  rw [← hu2] at m2
  rw [← hu3] at m3
  have tu : IntKind.u16.wrap (u1 : Int) = (u1 : Int) % 65536 := IntKind.wrap_u16 _
  obtain ⟨df, hdf⟩ : ∃ b : Bool, (((s[6]'j6).toNat : Int) == 64) = b := ⟨_, rfl⟩
  have E0 := Lib.hid e0
  have E1 := Lib.hid e1
  have E2 := Lib.hid e2
  have E3 := Lib.hid e3
  have E4 := Lib.hid e4
  rw [hsm] at hok
  have Hnl := Lib.hid hnl
  clear hnl
  have Hok := Lib.hid hok
  clear hok
  have N1 := Lib.hid n1
  clear n1
  have Ro := Lib.hid ro
  clear ro
  have Hu1 := Lib.hid hu1
  clear hu1
  have Hu2 := Lib.hid hu2
  clear hu2
  have Hu3 := Lib.hid hu3
  clear hu3
  have M1 := Lib.hid m1
  clear m1
  have M2 := Lib.hid m2
  clear m2
  have M3 := Lib.hid m3
  clear m3
  clear en eo hsm e3 nb
  cases b0
  case true =>
    go_enter Try.func78, Try.ntmps78
    go_wp2
    rw [decV_bad (e := 51) ((decE_of s h20 E0.out E1.out Hnl.out E2.out Hok.out E3.out E4.out).trans (by simp)) (by decide)]
    exact bodyPost_ret (v := badV 51) (by simp [results, Try.results78, go_sem, badV, zeroC]) rfl ⟨rfl, (Below.refl _ _).alloc (Nat.le_refl _) _⟩
  cases b1
  case true =>
    go_enter Try.func78, Try.ntmps78
    go_wp2
    rw [decV_bad (e := 52) ((decE_of s h20 E0.out E1.out Hnl.out E2.out Hok.out E3.out E4.out).trans (by simp)) (by decide)]
    exact bodyPost_ret (v := badV 52) (by simp [results, Try.results78, go_sem, badV, zeroC]) rfl ⟨rfl, (Below.refl _ _).alloc (Nat.le_refl _) _⟩
  cases b2
  case true =>
    go_enter Try.func78, Try.ntmps78
    go_wp2_with fail
    (with_reducible refine (N1.out _).mono ?_)
    rintro e w' ⟨rfl, rfl⟩
    go_wp2
    rw [decV_bad (e := 53) ((decE_of s h20 E0.out E1.out Hnl.out E2.out Hok.out E3.out E4.out).trans (by simp)) (by decide)]
    exact bodyPost_ret (v := badV 53) (by simp [results, Try.results78, go_sem, badV, zeroC]) rfl ⟨rfl, (Below.refl _ _).alloc (Nat.le_refl _) _⟩
  cases ok
  case false =>
    go_enter Try.func78, Try.ntmps78
    go_wp2_with fail
    (with_reducible refine (N1.out _).mono ?_)
    rintro e w' ⟨rfl, rfl⟩
    go_wp2_with fail
    (with_reducible refine (Ro.out _).mono ?_)
    rintro e w' ⟨rfl, rfl⟩
    go_wp2
    rw [decV_bad (e := 55) ((decE_of s h20 E0.out E1.out Hnl.out E2.out Hok.out E3.out E4.out).trans (by simp)) (by decide)]
    exact bodyPost_ret (v := badV 55) (by simp [results, Try.results78, go_sem, badV, zeroC]) rfl ⟨rfl, (Below.refl _ _).alloc (Nat.le_refl _) _⟩
  cases b4
  case true =>
    cases c0
    case true =>
      cases c1
      case true =>
        go_enter Try.func78, Try.ntmps78
        go_wp2_with fail
        (with_reducible refine (N1.out _).mono ?_)
        rintro e w' ⟨rfl, rfl⟩
        go_wp2_with fail
        (with_reducible refine (Ro.out _).mono ?_)
        rintro e w' ⟨rfl, rfl⟩
        go_wp2
        rw [decV_bad (e := 54) ((decE_of s h20 E0.out E1.out Hnl.out E2.out Hok.out E3.out E4.out).trans (by simp)) (by decide)]
        exact bodyPost_ret (v := badV 54) (by simp [results, Try.results78, go_sem, badV, zeroC]) rfl ⟨rfl, (Below.refl _ _).alloc (Nat.le_refl _) _⟩
      case false =>
        go_enter Try.func78, Try.ntmps78
        go_wp2_with fail
        (with_reducible refine (N1.out _).mono ?_)
        rintro e w' ⟨rfl, rfl⟩
        go_wp2_with fail
        (with_reducible refine (Ro.out _).mono ?_)
        rintro e w' ⟨rfl, rfl⟩
        go_wp2
        rw [decV_bad (e := 54) ((decE_of s h20 E0.out E1.out Hnl.out E2.out Hok.out E3.out E4.out).trans (by simp)) (by decide)]
        exact bodyPost_ret (v := badV 54) (by simp [results, Try.results78, go_sem, badV, zeroC]) rfl ⟨rfl, (Below.refl _ _).alloc (Nat.le_refl _) _⟩
    case false =>
      go_enter Try.func78, Try.ntmps78
      go_wp2_with fail
      (with_reducible refine (N1.out _).mono ?_)
      rintro e w' ⟨rfl, rfl⟩
      go_wp2_with fail
      (with_reducible refine (Ro.out _).mono ?_)
      rintro e w' ⟨rfl, rfl⟩
      go_wp2
      rw [decV_bad (e := 54) ((decE_of s h20 E0.out E1.out Hnl.out E2.out Hok.out E3.out E4.out).trans (by simp)) (by decide)]
      exact bodyPost_ret (v := badV 54) (by simp [results, Try.results78, go_sem, badV, zeroC]) rfl ⟨rfl, (Below.refl _ _).alloc (Nat.le_refl _) _⟩
  cases c0
  case true =>
    cases c1
    case true =>
      go_enter Try.func78, Try.ntmps78
      go_wp2_with fail
      (with_reducible refine (N1.out _).mono ?_)
      rintro e w' ⟨rfl, rfl⟩
      go_wp2_with fail
      (with_reducible refine (Ro.out _).mono ?_)
      rintro e w' ⟨rfl, rfl⟩
      go_wp2
      rw [decV_bad (e := 54) ((decE_of s h20 E0.out E1.out Hnl.out E2.out Hok.out E3.out E4.out).trans (by simp)) (by decide)]
      exact bodyPost_ret (v := badV 54) (by simp [results, Try.results78, go_sem, badV, zeroC]) rfl ⟨rfl, (Below.refl _ _).alloc (Nat.le_refl _) _⟩
    case false =>
      go_enter Try.func78, Try.ntmps78
      go_wp2_with fail
      (with_reducible refine (N1.out _).mono ?_)
      rintro e w' ⟨rfl, rfl⟩
      go_wp2_with fail
      (with_reducible refine (Ro.out _).mono ?_)
      rintro e w' ⟨rfl, rfl⟩
      go_upto_region 13 with fail
      have hbx := Blk.new w 63 zeroC
      have hb0 : Below w.heap.size w (w.alloc (.cells zeroC 63)) := (Below.refl _ _).alloc (Nat.le_refl _) _
      unfold zeroC at hbx hb0
      generalize hW : w.alloc _ = wr at *
      obtain ⟨x, hx⟩ : ∃ x, x = w.heap.size := ⟨_, rfl⟩
      rw [← hx] at hbx ⊢
      have hxw : w.heap.size ≤ x := by omega
      have hS0 : KeepS wr x 63 zeroC wr := ⟨Below.refl _ _, hbx⟩
      have ne : Nonempty (Cls (KeepS wr x 63 zeroC)) := ⟨⟨wr, hS0⟩⟩
      have hxl := hbx.lt
      have al : ∀ W : World, (Instr.alloc 63 true (.tuple #[])).run Try.prog W = .ok (.pointer (some ⟨W.heap.size, 0, none⟩)) (W.alloc (.cells zeroC 63)) := fun _ => by kernel_rfl
      have cf : ∀ (vals : Array Value) (w : World), (callFunc 54 vals).run Try.prog w = .ok (.enter 54 vals) w := fun _ _ => by kernel_rfl
      have Hb0 := Lib.hid hb0
      clear hb0
      have Hxw := Lib.hid hxw
      clear hxw
      have Hxl := Lib.hid hxl
      clear hxl
      have Al := Lib.hid al
      clear al
      have Cf := Lib.hid cf
      clear cf
      clear hW hx hbx
      refine wp_region_flat1 21 (KeepS wr x 63 zeroC) (fun w w' => Below w.heap.size w w') (by kernel_rfl) (by kernel_rfl) (by kernel_rfl) (fun w => Below.refl _ _) hS0.drew ?_
      simp only [List.take_succ_cons, List.take_zero, List.drop_succ_cons, List.drop_zero]
      repeat (first
        | (refine flat_quiet (fun w => Below.refl _ _) rfl rfl rfl rfl ?_; intro K hK; go_big_quiet_op; go_big_quiet_on)
        | (refine flat_call Cf.out _ ?_ rfl rfl rfl _ (fun y => below_call KeepS.below y (M1.out _)) wr ?_; (focus (simp only [List.map_toArray, List.map_cons, List.map_nil]; rfl)); intro K hK; go_big_quiet_op; go_big_quiet_on)
        | (refine flat_call Cf.out _ ?_ rfl rfl rfl _ (fun y => below_call KeepS.below y (M2.out _)) wr ?_; (focus (simp only [List.map_toArray, List.map_cons, List.map_nil]; rfl)); intro K hK; go_big_quiet_op; go_big_quiet_on)
        | (refine flat_call Cf.out _ ?_ rfl rfl rfl _ (fun y => below_call KeepS.below y (M3.out _)) wr ?_; (focus (simp only [List.map_toArray, List.map_cons, List.map_nil]; rfl)); intro K hK; go_big_quiet_op; go_big_quiet_on)
        | (refine flat_alloc wr.heap.size zeroC Al.out KeepS.below KeepS.size rfl rfl rfl wr ?_; intro K hK; go_big_quiet_op; go_big_quiet_on))
      refine flat_nil ?_
      intro W9 hW9 x5 hx5
      obtain ⟨g, rfl, hgB, hg⟩ := hx5
      simp only [endF, Act.put, List.setIfInBounds_toArray, List.set_cons_succ, List.set_cons_zero]
      clear ne hS0
      have x0 := hg.cell 0
      have x1 := hg.cell 1
      have x2 := hg.cell 2
      have x3 := hg.cell 3
      have x4 := hg.cell 4
      have x5 := hg.cell 5
      have x6 := hg.cell 6
      simp [zeroC] at x0 x1 x2 x3 x4 x5 x6
      have xf := hg.frozen
      have hgx : x ≠ g := by have := Hxl.out; omega
      have Hgx := Lib.hid hgx
      clear hgx
      have Hg := Lib.hid hg
      clear hg
      have HgB := Lib.hid hgB
      clear hgB
      have HW9 := Lib.hid hW9
      clear hW9
      go_upto_region 14 with fail
      generalize hWt : World.setCell _ _ _ = Wt
      have ht : Blk Wt g 63 #[.int .u32 (u2 : Int), .int .u32 (u3 : Int), .int .u8 ((s[9]'(by omega)).toNat : Int), .int .u8 ((s[8]'(by omega)).toNat : Int), .int .u8 ((s[1]'j1).toNat : Int), .int .u16 ((u1 : Int) % 65536), .bool df] := by
        rw [← hWt]
        exact blk_set7 Hg.out _ _ _ _ _ _ _
      have hu : Blk Wt x 63 zeroC := by
        rw [← hWt]
        have n := Hgx.out
        exact Blk.far (Blk.far (Blk.far (Blk.far (Blk.far (Blk.far (Blk.far HW9.out.2 (p := ⟨g, 0, none⟩) n _) (p := ⟨g, 1, none⟩) n _) (p := ⟨g, 2, none⟩) n _) (p := ⟨g, 3, none⟩) n _) (p := ⟨g, 4, none⟩) n _) (p := ⟨g, 5, none⟩) n _) (p := ⟨g, 6, none⟩) n _
      have hbt : Below w.heap.size w Wt := by
        rw [← hWt]
        exact below_set7 (Hb0.out.trans (HW9.out.1.mono Hb0.out.size)) (Nat.le_trans Hb0.out.size HgB.out) _ _ _ _ _ _ _
      clear hWt x0 x1 x2 x3 x4 x5 x6 xf
      have x0 := ht.cell 0
      have x1 := ht.cell 1
      have x2 := ht.cell 2
      have x3 := ht.cell 3
      have x4 := ht.cell 4
      have x5 := ht.cell 5
      have x6 := ht.cell 6
      simp at x0 x1 x2 x3 x4 x5 x6
      have z0 := hu.cell 0
      have z1 := hu.cell 1
      have z2 := hu.cell 2
      have z3 := hu.cell 3
      have z4 := hu.cell 4
      have z5 := hu.cell 5
      have z6 := hu.cell 6
      simp [zeroC] at z0 z1 z2 z3 z4 z5 z6
      have xf := hu.frozen
      have t20 : (20 : Int) ≤ (s.size : Int) := by omega
      have Ht := Lib.hid ht
      clear ht
      have Hu := Lib.hid hu
      clear hu
      have Hbt := Lib.hid hbt
      clear hbt
      have Hdf := Lib.hid hdf
      clear hdf
      go_region
      go_wp2
      clear x0 x1 x2 x3 x4 x5 x6 xf z0 z1 z2 z3 z4 z5 z6
      generalize hWf : World.drew _ = Wf
      have hf : Blk Wf x 63 #[.int .u32 (u2 : Int), .int .u32 (u3 : Int), .int .u8 ((s[9]'(by omega)).toNat : Int), .int .u8 ((s[8]'(by omega)).toNat : Int), .int .u8 ((s[1]'j1).toNat : Int), .int .u16 ((u1 : Int) % 65536), .bool df] := by
        rw [← hWf]
        exact Blk.drew (blk_set7 Hu.out _ _ _ _ _ _ _)
      have hbf : Below w.heap.size w Wf := by
        rw [← hWf]
        exact Below.drew (below_set7 Hbt.out Hxw.out _ _ _ _ _ _ _)
      clear hWf
      have x0 := hf.cell 0
      have x1 := hf.cell 1
      have x2 := hf.cell 2
      have x3 := hf.cell 3
      have x4 := hf.cell 4
      have x5 := hf.cell 5
      have x6 := hf.cell 6
      simp at x0 x1 x2 x3 x4 x5 x6
      rw [decV_done s h20 ((decE_of s h20 E0.out E1.out Hnl.out E2.out Hok.out E3.out E4.out).trans (by simp)) Hu1.out Hu2.out Hu3.out Hdf.out]
      exact bodyPost_ret (v := .tuple #[.agg #[.int .u32 (u2 : Int), .int .u32 (u3 : Int), .int .u8 ((s[9]'(by omega)).toNat : Int), .int .u8 ((s[8]'(by omega)).toNat : Int), .int .u8 ((s[1]'j1).toNat : Int), .int .u16 ((u1 : Int) % 65536), .bool df], .string (s.extract 20 s.size), .int .i64 0]) (by simp [results, Try.results78, go_sem, x0, x1, x2, x3, x4, x5, x6]) rfl ⟨rfl, hbf⟩
  case false =>
    go_enter Try.func78, Try.ntmps78
    go_wp2_with fail
    (with_reducible refine (N1.out _).mono ?_)
    rintro e w' ⟨rfl, rfl⟩
    go_wp2_with fail
    (with_reducible refine (Ro.out _).mono ?_)
    rintro e w' ⟨rfl, rfl⟩
    go_upto_region 13 with fail
    have hbx := Blk.new w 63 zeroC
    have hb0 : Below w.heap.size w (w.alloc (.cells zeroC 63)) := (Below.refl _ _).alloc (Nat.le_refl _) _
    unfold zeroC at hbx hb0
    generalize hW : w.alloc _ = wr at *
    obtain ⟨x, hx⟩ : ∃ x, x = w.heap.size := ⟨_, rfl⟩
    rw [← hx] at hbx ⊢
    have hxw : w.heap.size ≤ x := by omega
    have hS0 : KeepS wr x 63 zeroC wr := ⟨Below.refl _ _, hbx⟩
    have ne : Nonempty (Cls (KeepS wr x 63 zeroC)) := ⟨⟨wr, hS0⟩⟩
    have hxl := hbx.lt
    have al : ∀ W : World, (Instr.alloc 63 true (.tuple #[])).run Try.prog W = .ok (.pointer (some ⟨W.heap.size, 0, none⟩)) (W.alloc (.cells zeroC 63)) := fun _ => by kernel_rfl
    have cf : ∀ (vals : Array Value) (w : World), (callFunc 54 vals).run Try.prog w = .ok (.enter 54 vals) w := fun _ _ => by kernel_rfl
    have Hb0 := Lib.hid hb0
    clear hb0
    have Hxw := Lib.hid hxw
    clear hxw
    have Hxl := Lib.hid hxl
    clear hxl
    have Al := Lib.hid al
    clear al
    have Cf := Lib.hid cf
    clear cf
    clear hW hx hbx
    refine wp_region_flat1 21 (KeepS wr x 63 zeroC) (fun w w' => Below w.heap.size w w') (by kernel_rfl) (by kernel_rfl) (by kernel_rfl) (fun w => Below.refl _ _) hS0.drew ?_
    simp only [List.take_succ_cons, List.take_zero, List.drop_succ_cons, List.drop_zero]
    repeat (first
      | (refine flat_quiet (fun w => Below.refl _ _) rfl rfl rfl rfl ?_; intro K hK; go_big_quiet_op; go_big_quiet_on)
      | (refine flat_call Cf.out _ ?_ rfl rfl rfl _ (fun y => below_call KeepS.below y (M1.out _)) wr ?_; (focus (simp only [List.map_toArray, List.map_cons, List.map_nil]; rfl)); intro K hK; go_big_quiet_op; go_big_quiet_on)
      | (refine flat_call Cf.out _ ?_ rfl rfl rfl _ (fun y => below_call KeepS.below y (M2.out _)) wr ?_; (focus (simp only [List.map_toArray, List.map_cons, List.map_nil]; rfl)); intro K hK; go_big_quiet_op; go_big_quiet_on)
      | (refine flat_call Cf.out _ ?_ rfl rfl rfl _ (fun y => below_call KeepS.below y (M3.out _)) wr ?_; (focus (simp only [List.map_toArray, List.map_cons, List.map_nil]; rfl)); intro K hK; go_big_quiet_op; go_big_quiet_on)
      | (refine flat_alloc wr.heap.size zeroC Al.out KeepS.below KeepS.size rfl rfl rfl wr ?_; intro K hK; go_big_quiet_op; go_big_quiet_on))
    refine flat_nil ?_
    intro W9 hW9 x5 hx5
    obtain ⟨g, rfl, hgB, hg⟩ := hx5
    simp only [endF, Act.put, List.setIfInBounds_toArray, List.set_cons_succ, List.set_cons_zero]
    clear ne hS0
    have x0 := hg.cell 0
    have x1 := hg.cell 1
    have x2 := hg.cell 2
    have x3 := hg.cell 3
    have x4 := hg.cell 4
    have x5 := hg.cell 5
    have x6 := hg.cell 6
    simp [zeroC] at x0 x1 x2 x3 x4 x5 x6
    have xf := hg.frozen
    have hgx : x ≠ g := by have := Hxl.out; omega
    have Hgx := Lib.hid hgx
    clear hgx
    have Hg := Lib.hid hg
    clear hg
    have HgB := Lib.hid hgB
    clear hgB
    have HW9 := Lib.hid hW9
    clear hW9
    go_upto_region 14 with fail
    generalize hWt : World.setCell _ _ _ = Wt
    have ht : Blk Wt g 63 #[.int .u32 (u2 : Int), .int .u32 (u3 : Int), .int .u8 ((s[9]'(by omega)).toNat : Int), .int .u8 ((s[8]'(by omega)).toNat : Int), .int .u8 ((s[1]'j1).toNat : Int), .int .u16 ((u1 : Int) % 65536), .bool df] := by
      rw [← hWt]
      exact blk_set7 Hg.out _ _ _ _ _ _ _
    have hu : Blk Wt x 63 zeroC := by
      rw [← hWt]
      have n := Hgx.out
      exact Blk.far (Blk.far (Blk.far (Blk.far (Blk.far (Blk.far (Blk.far HW9.out.2 (p := ⟨g, 0, none⟩) n _) (p := ⟨g, 1, none⟩) n _) (p := ⟨g, 2, none⟩) n _) (p := ⟨g, 3, none⟩) n _) (p := ⟨g, 4, none⟩) n _) (p := ⟨g, 5, none⟩) n _) (p := ⟨g, 6, none⟩) n _
    have hbt : Below w.heap.size w Wt := by
      rw [← hWt]
      exact below_set7 (Hb0.out.trans (HW9.out.1.mono Hb0.out.size)) (Nat.le_trans Hb0.out.size HgB.out) _ _ _ _ _ _ _
    clear hWt x0 x1 x2 x3 x4 x5 x6 xf
    have x0 := ht.cell 0
    have x1 := ht.cell 1
    have x2 := ht.cell 2
    have x3 := ht.cell 3
    have x4 := ht.cell 4
    have x5 := ht.cell 5
    have x6 := ht.cell 6
    simp at x0 x1 x2 x3 x4 x5 x6
    have z0 := hu.cell 0
    have z1 := hu.cell 1
    have z2 := hu.cell 2
    have z3 := hu.cell 3
    have z4 := hu.cell 4
    have z5 := hu.cell 5
    have z6 := hu.cell 6
    simp [zeroC] at z0 z1 z2 z3 z4 z5 z6
    have xf := hu.frozen
    have t20 : (20 : Int) ≤ (s.size : Int) := by omega
    have Ht := Lib.hid ht
    clear ht
    have Hu := Lib.hid hu
    clear hu
    have Hbt := Lib.hid hbt
    clear hbt
    have Hdf := Lib.hid hdf
    clear hdf
    go_region
    go_wp2
    clear x0 x1 x2 x3 x4 x5 x6 xf z0 z1 z2 z3 z4 z5 z6
    generalize hWf : World.drew _ = Wf
    have hf : Blk Wf x 63 #[.int .u32 (u2 : Int), .int .u32 (u3 : Int), .int .u8 ((s[9]'(by omega)).toNat : Int), .int .u8 ((s[8]'(by omega)).toNat : Int), .int .u8 ((s[1]'j1).toNat : Int), .int .u16 ((u1 : Int) % 65536), .bool df] := by
      rw [← hWf]
      exact Blk.drew (blk_set7 Hu.out _ _ _ _ _ _ _)
    have hbf : Below w.heap.size w Wf := by
      rw [← hWf]
      exact Below.drew (below_set7 Hbt.out Hxw.out _ _ _ _ _ _ _)
    clear hWf
    have x0 := hf.cell 0
    have x1 := hf.cell 1
    have x2 := hf.cell 2
    have x3 := hf.cell 3
    have x4 := hf.cell 4
    have x5 := hf.cell 5
    have x6 := hf.cell 6
    simp at x0 x1 x2 x3 x4 x5 x6
    rw [decV_done s h20 ((decE_of s h20 E0.out E1.out Hnl.out E2.out Hok.out E3.out E4.out).trans (by simp)) Hu1.out Hu2.out Hu3.out Hdf.out]
    exact bodyPost_ret (v := .tuple #[.agg #[.int .u32 (u2 : Int), .int .u32 (u3 : Int), .int .u8 ((s[9]'(by omega)).toNat : Int), .int .u8 ((s[8]'(by omega)).toNat : Int), .int .u8 ((s[1]'j1).toNat : Int), .int .u16 ((u1 : Int) % 65536), .bool df], .string (s.extract 20 s.size), .int .i64 0]) (by simp [results, Try.results78, go_sem, x0, x1, x2, x3, x4, x5, x6]) rfl ⟨rfl, hbf⟩
end Go.Proofs.Ytengegcnocdkoaa.I
end
section
namespace Go.Proofs.Ytengegcnocdkoaa.I
open Go.RowKit
theorem dec_all (s : ByteArray) (w : World) (hs : s.size ≤ 1099511627776) : Calls Try.prog 40 #[.string s] w fun e w' => e = .returned (decV s.data.toList) ∧ Below w.heap.size w w' := by
  rcases Nat.lt_or_ge s.size 20 with h | h
  · exact dec_short s w h
  · exact dec_any s w h hs
theorem ref_dec_all (s : ByteArray) (w : World) (hs : s.size ≤ 1099511627776) : Calls Try.prog 78 #[.string s] w fun e w' => e = .returned (decV s.data.toList) ∧ Below w.heap.size w w' := by
  rcases Nat.lt_or_ge s.size 20 with h | h
  · exact ref_dec_short s w h
  · exact ref_dec_any s w h hs
/-- what Encode answers -/
def encV (h : IPh) (load : ByteArray) : Value := if 65535 < 20 + load.size then .tuple #[.string ⟨#[]⟩, .int .i64 4] else .tuple #[.string ⟨(encL h load.data.toList).toArray⟩, .int .i64 0]
theorem enc_all (h : IPh) (load : ByteArray) (w : World) (ho : h.ok) (hm : load.size ≤ 131072) : Calls Try.prog 29 #[.agg h.cells, .string load] w fun e w' => e = .returned (encV h load) ∧ Below w.heap.size w w' := by
  unfold encV
  by_cases hl : 65535 < 20 + load.size
  · rw [if_pos hl]; exact enc_long h load w hl hm
  · rw [if_neg hl]; exact enc_ok h load w ho (by omega)
end Go.Proofs.Ytengegcnocdkoaa.I
end
section
namespace Go.Proofs.Ytengegcnocdkoaa.I
open Go.RowKit
theorem nrm_full (s : Nat) : nrm (s + (65535 - nrm s)) = 65535 := by
  unfold nrm
  split
  · subst_vars; rfl
  · rw [if_neg (by omega)]
    omega
theorem wordsL_be2 (s : Nat) (hs : s < 65536) : wordsL (be2 s) = [s] := by
  simp only [be2, wordsL, UInt8.toNat_ofNat']
  congr 1
  omega
theorem head_sum (h : IPh) (n : Nat) : ofL (headL h n (sumL h n)) = 0 := by
  have hs := sumL_lt h n
  have e : sumL h n = 65535 - nrm ((wordsL (frontL h n)).sum + (wordsL (backL h)).sum) := by
    unfold sumL ofL
    rw [wordsL_app _ _ (by rw [frontL_length]), List.sum_append]
  unfold ofL headL
  rw [List.append_assoc, wordsL_app _ _ (by rw [frontL_length]), wordsL_app (be2 _) _ (by simp [be2]), wordsL_be2 _ hs, List.sum_append, List.sum_append]
  have : (wordsL (frontL h n)).sum + ([sumL h n].sum + (wordsL (backL h)).sum) = ((wordsL (frontL h n)).sum + (wordsL (backL h)).sum) + (65535 - nrm ((wordsL (frontL h n)).sum + (wordsL (backL h)).sum)) := by
    rw [← e]; simp; omega
  rw [this, nrm_full]
theorem numL_be2 (n : Nat) (hn : n < 65536) : numL (be2 n) = n := by
  simp only [numL, be2, List.foldl_cons, List.foldl_nil, UInt8.toNat_ofNat']
  omega
theorem numL_be4 (n : Nat) (hn : n < 4294967296) : numL (be4 n) = n := by
  simp only [numL, be4, List.foldl_cons, List.foldl_nil, UInt8.toNat_ofNat']
  omega
section
variable (h : IPh) (l : List UInt8)
theorem enc_take : (encL h l).take 20 = headL h (20 + l.length) (sumL h (20 + l.length)) := rfl
theorem enc_drop : (encL h l).drop 20 = l := rfl
theorem enc_n : ((encL h l).drop 2).take 2 = be2 (20 + l.length) := rfl
theorem enc_len : (encL h l).length = 20 + l.length := by
  unfold encL
  rw [List.length_append, headL_length]
theorem enc_0 : at0 (encL h l) 0 = 69 := rfl
theorem enc_6 : at0 (encL h l) 6 = if h.df then 64 else 0 := by
  show (if h.df then (64 : UInt8) else 0).toNat = _
  cases h.df <;> rfl
theorem enc_7 : at0 (encL h l) 7 = 0 := rfl
end
theorem decE_enc {h : IPh} {l : List UInt8} (ho : h.ok) (hl : 20 + l.length ≤ 65535) : decE (encL h l) = 0 := by
  unfold decE
  rw [enc_take, enc_n, enc_len, enc_0, enc_6, enc_7, head_sum, numL_be2 _ (by omega), if_neg (by omega), if_neg (by decide), if_neg (by decide), if_neg (by simp), if_neg (by simp), if_neg]
  cases h.df <;> decide
theorem decH_enc {h : IPh} {l : List UInt8} (ho : h.ok) : decH (encL h l) = h := by
  obtain ⟨src, dst, proto, ttl, tos, id, df⟩ := h
  obtain ⟨o1, o2, o3⟩ := ho
  simp only at o1 o2 o3
  unfold decH
  rw [enc_6]
  have e1 : ((encL ⟨src, dst, proto, ttl, tos, id, df⟩ l).drop 12).take 4 = be4 src := rfl
  have e2 : ((encL ⟨src, dst, proto, ttl, tos, id, df⟩ l).drop 16).take 4 = be4 dst := rfl
  have e3 : ((encL ⟨src, dst, proto, ttl, tos, id, df⟩ l).drop 4).take 2 = be2 id := rfl
  rw [e1, e2, e3, numL_be4 _ o1, numL_be4 _ o2, numL_be2 _ o3, Nat.mod_eq_of_lt o3]
  congr 1
  cases df <;> rfl
end Go.Proofs.Ytengegcnocdkoaa.I
end
section
namespace Go.Proofs.Ytengegcnocdkoaa.T
open Go.RowKit
set_option maxHeartbeats 2000000 in
theorem number_any (s : ByteArray) (w : World) (hs : s.size ≤ maxLen) :
    Calls Try.prog 74 #[.string s] w fun e w' => e = .returned (.int .u32 ((numL s.data.toList : Nat) : Int)) ∧ Below w.heap.size w w' := by
  obtain ⟨W1, cap, hrun, hB, hsz, hcell, _⟩ := run_bytes_new w s
  unfold maxLen at hs
  go_enter Try.func74, Try.ntmps74
  go_wp2
  clear hrun
  have HC := Lib.hid hcell
  clear hcell hsz
  go_loop [2, 8] (fun x i => ∃ k : Nat, k ≤ s.size ∧ i = .int .i64 k ∧ x = .int .u32 ((numL (s.data.toList.take k) : Nat) : Int)) (fun _ i => s.size - (intOf i).toNat)
  case atStart => exact ⟨0, Nat.zero_le _, rfl, rfl⟩
  case round =>
    obtain ⟨k, hk, rfl, rfl⟩ := hrel
    by_cases hlt : k < s.size
    · have c1 := HC.out k hlt
      have hn := numL_lt (s.data.toList.take k)
      have hst := numL_step (s.data.toList.take k) s[k]
      rw [← take_snoc' s k hlt] at hst
      generalize numL (s.data.toList.take k) = n at *
      obtain ⟨n2, hn2⟩ : ∃ n2, n2 = numL (s.data.toList.take (k + 1)) := ⟨_, rfl⟩
      rw [← hn2] at hst
      have HN2 := Lib.hid hn2
      clear hn2
      have hc := (s[k]).toNat_lt
      generalize (s[k]).toNat = c at *
      have hm : ((n * 256 % 4294967296 : Nat) : Int) = (n : Int) * 256 % 4294967296 := by omega
      rw [hm] at hst
      have hw : IntKind.u32.wrap ((n : Int) * 256) = (n : Int) * 256 % 4294967296 := by rw [IntKind.wrap_u32']
      clear hm
      go_wp2
      go_round
      case rel => exact ⟨k + 1, by omega, by go_num, by rw [← HN2.out]⟩
      case measure => simp [intOf]; omega
    · go_wp2
      go_ret
      exact ⟨ret_int (by rw [List.take_of_length_le (by show s.size ≤ k; omega)]), hB⟩
set_option maxHeartbeats 2000000 in
theorem number16 (s : ByteArray) (w : World) (hs : s.size ≤ maxLen) :
    Calls Try.prog 73 #[.string s] w fun e w' => e = .returned (.int .u16 ((numL s.data.toList % 65536 : Nat) : Int)) ∧ Below w.heap.size w w' := by
  obtain ⟨W1, cap, hrun, hB, hsz, hcell, _⟩ := run_bytes_new w s
  unfold maxLen at hs
  go_enter Try.func73, Try.ntmps73
  go_wp2
  clear hrun
  have HC := Lib.hid hcell
  clear hcell hsz
  go_loop [2, 8] (fun x i => ∃ k : Nat, k ≤ s.size ∧ i = .int .i64 k ∧ x = .int .u16 ((numL (s.data.toList.take k) % 65536 : Nat) : Int)) (fun _ i => s.size - (intOf i).toNat)
  case atStart => exact ⟨0, Nat.zero_le _, rfl, rfl⟩
  case round =>
    obtain ⟨k, hk, rfl, rfl⟩ := hrel
    by_cases hlt : k < s.size
    · have c1 := HC.out k hlt
      have hst := numL16_step (s.data.toList.take k) s[k]
      rw [← take_snoc' s k hlt] at hst
      obtain ⟨n, hn⟩ : ∃ n, n = numL (s.data.toList.take k) % 65536 := ⟨_, rfl⟩
      obtain ⟨n2, hn2⟩ : ∃ n2, n2 = numL (s.data.toList.take (k + 1)) % 65536 := ⟨_, rfl⟩
      rw [← hn, ← hn2] at hst
      rw [← hn]
      have hnl : n < 65536 := by omega
      have HN2 := Lib.hid hn2
      clear hn2 hn
      have hc := (s[k]).toNat_lt
      generalize (s[k]).toNat = c at *
      have hm : ((n * 256 % 65536 : Nat) : Int) = (n : Int) * 256 % 65536 := by omega
      rw [hm] at hst
      have hw : IntKind.u16.wrap ((n : Int) * 256) = (n : Int) * 256 % 65536 := by rw [IntKind.wrap_u16]
      clear hm
      go_wp2
      go_round
      case rel => exact ⟨k + 1, by omega, by go_num, by rw [← HN2.out]⟩
      case measure => simp [intOf]; omega
    · go_wp2
      go_ret
      exact ⟨ret_int (by rw [List.take_of_length_le (by show s.size ≤ k; omega)]), hB⟩
end Go.Proofs.Ytengegcnocdkoaa.T
end
section
namespace Go.Proofs.Ytengegcnocdkoaa.T
open Go.RowKit
theorem wordsL_app : ∀ (a b : List UInt8), a.length % 2 = 0 → wordsL (a ++ b) = wordsL a ++ wordsL b
  | [], b, _ => rfl
  | [a], b, h => by simp at h
  | a :: c :: t, b, h => by
    have := wordsL_app t b (by simp only [List.length_cons] at h; omega)
    simp only [List.cons_append, wordsL, this]
/-- a head -/
structure TCPh where
  src : Nat
  dst : Nat
  seq : Nat
  ack : Nat
  flags : UInt8
  window : Nat
  urgent : Nat
  opts : ByteArray
def TCPh.ok (h : TCPh) : Prop := h.src < 65536 ∧ h.dst < 65536 ∧ h.seq < 4294967296 ∧ h.ack < 4294967296 ∧ h.window < 65536 ∧ h.urgent < 65536
def TCPh.cells (h : TCPh) : Array Value := #[.int .u16 (h.src : Int), .int .u16 (h.dst : Int), .int .u32 (h.seq : Int), .int .u32 (h.ack : Int), .int .u8 (h.flags.toNat : Int), .int .u16 (h.window : Int), .int .u16 (h.urgent : Int), .string h.opts]
/-- what a sum is of ahead of a segment -/
def aheadL (s d n : Nat) : List UInt8 := be4 s ++ be4 d ++ [0, 6] ++ be2 n
/-- the byte which says how long a head is -/
def offB (m : Nat) : UInt8 := UInt8.ofNat (m / 4 * 16)
def frontL (h : TCPh) : List UInt8 := be2 h.src ++ be2 h.dst ++ be4 h.seq ++ be4 h.ack ++ [offB (20 + h.opts.size), h.flags] ++ be2 h.window
def backL (h : TCPh) (data : List UInt8) : List UInt8 := be2 h.urgent ++ h.opts.data.toList ++ data
/-- the segment with a checksum -/
def rawL (h : TCPh) (data : List UInt8) (s : Nat) : List UInt8 := frontL h ++ be2 s ++ backL h data
def sumL (s d : Nat) (h : TCPh) (data : List UInt8) : Nat := ofL (aheadL s d (20 + h.opts.size + data.length) ++ frontL h ++ backL h data)
def encL (s d : Nat) (h : TCPh) (data : List UInt8) : List UInt8 := rawL h data (sumL s d h data)
theorem aheadL_length (s d n : Nat) : (aheadL s d n).length = 12 := rfl
theorem frontL_length (h : TCPh) : (frontL h).length = 16 := rfl
theorem backL_length (h : TCPh) (data : List UInt8) : (backL h data).length = 2 + h.opts.size + data.length := by
  unfold backL
  rw [List.length_append, List.length_append, Array.length_toList]
  rfl
theorem rawL_length (h : TCPh) (data : List UInt8) (s : Nat) : (rawL h data s).length = 20 + h.opts.size + data.length := by
  unfold rawL
  rw [List.length_append, List.length_append, backL_length, frontL_length, show (be2 s).length = 2 from rfl]
  omega
theorem sumL_lt (s d : Nat) (h : TCPh) (data : List UInt8) : sumL s d h data < 65536 := by
  have := ofL_le (aheadL s d (20 + h.opts.size + data.length) ++ frontL h ++ backL h data)
  unfold sumL; omega
theorem str_cat (a b : List UInt8) : (⟨a.toArray⟩ : ByteArray) ++ ⟨b.toArray⟩ = ⟨(a ++ b).toArray⟩ := by
  apply ByteArray.ext
  rw [ByteArray.data_append]
  simp
theorem str_of (s : ByteArray) : s = ⟨s.data.toList.toArray⟩ := by simp
end Go.Proofs.Ytengegcnocdkoaa.T
end
section
namespace Go.Proofs.Ytengegcnocdkoaa.T
open Go.RowKit Go.BigFrame
set_option maxRecDepth 100000 in
set_option maxHeartbeats 4000000 in
theorem ahead_ok (s d n : Nat) (w : World) (h1 : s < 4294967296) (h2 : d < 4294967296) (h3 : n < 65536) :
    Calls Try.prog 62 #[.int .u32 (s : Int), .int .u32 (d : Int), .int .i64 (n : Int)] w fun e w' => e = .returned (.string ⟨(aheadL s d n).toArray⟩) ∧ Below w.heap.size w w' := by
  have b1 := fun W => high32 s W h1
  have b2 := fun W => high32 d W h2
  have b3 := fun W => high16 n W h3
  have wr : IntKind.u16.wrap (n : Int) = (n : Int) := by rw [IntKind.wrap_u16]; omega
  have B1 := Lib.hid b1
  clear b1
  have B2 := Lib.hid b2
  clear b2
  have B3 := Lib.hid b3
  clear b3
  go_enter Try.func62, Try.ntmps62
  go_upto_region 1 with fail
  have hS0 : OldS w w := Below.refl _ _
  have ne : Nonempty (Cls (OldS w)) := ⟨⟨w, hS0⟩⟩
  have cf : ∀ (vals : Array Value) (w : World), (callFunc 59 vals).run Try.prog w = .ok (.enter 59 vals) w := fun _ _ => by kernel_rfl
  have cf4 : ∀ (vals : Array Value) (w : World), (callFunc 60 vals).run Try.prog w = .ok (.enter 60 vals) w := fun _ _ => by kernel_rfl
  have r1 : ∀ W : World, (Instr.buildSlice 51 2 #[(0, .int .u8 0), (1, .int .u8 6)]).run Try.prog W = .ok (.slice (some ⟨W.heap.size, 0, none⟩) 2 2) (W.alloc (.cells #[.int .u8 0, .int .u8 6] 5)) := fun _ => by kernel_rfl
  have q1 : ∀ W u, isNew 5 #[.int .u8 0, .int .u8 6] 2 u W → (convert 51 9 u).run Try.prog W = .ok (.string ⟨#[0, 6]⟩) W := by
    rintro W u ⟨g, rfl, h⟩
    exact str_two 0 6 W g 2 h
  have Cf := Lib.hid cf
  clear cf
  have Cf4 := Lib.hid cf4
  clear cf4
  have R1 := Lib.hid r1
  clear r1
  have Q1 := Lib.hid q1
  clear q1
  have z2 : ∀ n, (be2 n).length = 2 := fun _ => rfl
  have z4 : ∀ n, (be4 n).length = 4 := fun _ => rfl
  refine wp_region_flat (OldS w) (fun w w' => Below w.heap.size w w') (by kernel_rfl) (by kernel_rfl) (fun w => Below.refl _ _) hS0.drew ?_
  repeat (first
    | (refine flat_quiet (fun w => Below.refl _ _) rfl rfl rfl rfl ?_; intro K hK; go_big_quiet_op; go_big_quiet_on)
    | (refine flat_call Cf4.out _ ?_ rfl rfl rfl _ (fun y => below_call OldS.below y (B1.out _)) w ?_; (focus (simp only [List.map_toArray, List.map_cons, List.map_nil]; rfl)); intro K hK; go_big_quiet_op; go_big_quiet_on)
    | (refine flat_call Cf4.out _ ?_ rfl rfl rfl _ (fun y => below_call OldS.below y (B2.out _)) w ?_; (focus (simp only [List.map_toArray, List.map_cons, List.map_nil]; rfl)); intro K hK; go_big_quiet_op; go_big_quiet_on)
    | (refine flat_call Cf.out _ ?_ rfl rfl rfl _ (fun y => below_call OldS.below y (B3.out _)) w ?_; (focus (simp only [List.map_toArray, List.map_cons, List.map_nil]; rfl)); intro K hK; go_big_quiet_op; go_big_quiet_on)
    | (refine flat_build (E := 5) _ ?_ _ R1.out OldS.below rfl rfl rfl w ?_; (focus (simp only [List.map_toArray, List.map_cons, List.map_nil]; rfl)); intro K hK; go_big_quiet_op; go_big_quiet_on)
    | (refine flat_conv ?_ List.mem_cons_self _ Q1.out (fun w => Below.refl _ _) rfl rfl rfl w ?_; (focus (simp)); intro K hK; go_big_quiet_op; go_big_quiet_on))
  refine flat_nil ?_
  intro W7 hW7 x1 _
  simp only [endF, Act.put, List.setIfInBounds_toArray, List.set_cons_succ, List.set_cons_zero]
  go_wp2
  go_ret
  refine ⟨?_, hW7⟩
  have e2 : (⟨(be4 s).toArray⟩ : ByteArray) ++ ⟨(be4 d).toArray⟩ ++ ⟨#[0, 6]⟩ ++ ⟨(be2 n).toArray⟩ = ⟨(aheadL s d n).toArray⟩ := by
    rw [show (⟨#[0, 6]⟩ : ByteArray) = ⟨[0, 6].toArray⟩ from rfl, str_cat, str_cat, str_cat]
    rfl
  rw [← e2]
  rfl
end Go.Proofs.Ytengegcnocdkoaa.T
end
section
namespace Go.Proofs.Ytengegcnocdkoaa.T
open Go.RowKit Go.BigFrame
set_option maxRecDepth 100000 in
set_option maxHeartbeats 4000000 in
theorem enc_ok (s d : Nat) (h : TCPh) (data : ByteArray) (w : World) (hs : s < 4294967296) (hd : d < 4294967296) (ho : h.ok) (hm : h.opts.size % 4 = 0) (hm2 : h.opts.size ≤ 40) (hf : h.flags.toNat < 64) (hl : 20 + h.opts.size + data.size ≤ 65515) :
    Calls Try.prog 28 #[.int .u32 (s : Int), .int .u32 (d : Int), .agg h.cells, .string data] w fun e w' => e = .returned (.tuple #[.string ⟨(encL s d h data.data.toList).toArray⟩, .int .i64 0]) ∧ Below w.heap.size w w' := by
  obtain ⟨src, dst, seq, ack, flags, window, urgent, opts⟩ := h
  obtain ⟨o1, o2, o3, o4, o5, o6⟩ := ho
  simp only at o1 o2 o3 o4 o5 o6 hm hm2 hf hl
  unfold TCPh.cells
  simp only
  obtain ⟨n, hn⟩ : ∃ n, n = 20 + opts.size := ⟨_, rfl⟩
  have e1 : (20 : Int) + (opts.size : Int) = (n : Int) := by omega
  obtain ⟨m, hmm⟩ : ∃ m, m = n + data.size := ⟨_, rfl⟩
  have e2 : (n : Int) + (data.size : Int) = (m : Int) := by omega
  have hm3 : m ≤ 65515 := by omega
  have i1 : (n : Int) % 4 = 0 := by omega
  have i2 : (opts.size : Int) ≤ 40 := by omega
  have i3 : (flags.toNat : Int) / 64 = 0 := by omega
  have i4 : (m : Int) ≤ 65515 := by omega
  have b1 := fun W => high16 src W o1
  have b2 := fun W => high16 dst W o2
  have b3 := fun W => high32 seq W o3
  have b4 := fun W => high32 ack W o4
  have b5 := fun W => high16 window W o5
  have b6 := fun W => high16 urgent W o6
  have b7 := fun W => ahead_ok s d m W hs hd (by omega)
  have B1 := Lib.hid b1
  clear b1
  have B2 := Lib.hid b2
  clear b2
  have B3 := Lib.hid b3
  clear b3
  have B4 := Lib.hid b4
  clear b4
  have B5 := Lib.hid b5
  clear b5
  have B6 := Lib.hid b6
  clear b6
  have B7 := Lib.hid b7
  clear b7
  have Hn := Lib.hid hn
  clear hn
  have Hmm := Lib.hid hmm
  clear hmm
  have hx := Blk.new w 60 #[.int .u16 (src : Int), .int .u16 (dst : Int), .int .u32 (seq : Int), .int .u32 (ack : Int), .int .u8 (flags.toNat : Int), .int .u16 (window : Int), .int .u16 (urgent : Int), .string opts]
  have hb0 : Below w.heap.size w (w.alloc (.cells #[.int .u16 (src : Int), .int .u16 (dst : Int), .int .u32 (seq : Int), .int .u32 (ack : Int), .int .u8 (flags.toNat : Int), .int .u16 (window : Int), .int .u16 (urgent : Int), .string opts] 60)) := (Below.refl _ _).alloc (Nat.le_refl _) _
  have Hx := Lib.hid hx
  clear hx
  have Hb0 := Lib.hid hb0
  clear hb0
  go_enter Try.func28, Try.ntmps28
  go_upto_region 6 with fail
  generalize w.alloc _ = W at *
  obtain ⟨x, hxe⟩ : ∃ x, x = w.heap.size := ⟨_, rfl⟩
  rw [← hxe] at Hx ⊢
  clear hxe
  obtain ⟨cs, hcs⟩ : ∃ cs : Array Value, cs = #[.int .u16 (src : Int), .int .u16 (dst : Int), .int .u32 (seq : Int), .int .u32 (ack : Int), .int .u8 (flags.toNat : Int), .int .u16 (window : Int), .int .u16 (urgent : Int), .string opts] := ⟨_, rfl⟩
  rw [← hcs] at Hx
  have hS0 : KeepS w x 60 cs W := ⟨Hb0.out, Hx.out⟩
  have ne : Nonempty (Cls (KeepS w x 60 cs)) := ⟨⟨W, hS0⟩⟩
  have k0 : ∀ y : Cls (KeepS w x 60 cs), y.w.cell? ⟨x, 0, none⟩ = some (.int .u16 (src : Int)) := fun y => (y.h.2.cell 0).trans (by rw [hcs]; rfl)
  have k1 : ∀ y : Cls (KeepS w x 60 cs), y.w.cell? ⟨x, 1, none⟩ = some (.int .u16 (dst : Int)) := fun y => (y.h.2.cell 1).trans (by rw [hcs]; rfl)
  have k2 : ∀ y : Cls (KeepS w x 60 cs), y.w.cell? ⟨x, 2, none⟩ = some (.int .u32 (seq : Int)) := fun y => (y.h.2.cell 2).trans (by rw [hcs]; rfl)
  have k3 : ∀ y : Cls (KeepS w x 60 cs), y.w.cell? ⟨x, 3, none⟩ = some (.int .u32 (ack : Int)) := fun y => (y.h.2.cell 3).trans (by rw [hcs]; rfl)
  have k4 : ∀ y : Cls (KeepS w x 60 cs), y.w.cell? ⟨x, 4, none⟩ = some (.int .u8 (flags.toNat : Int)) := fun y => (y.h.2.cell 4).trans (by rw [hcs]; rfl)
  have k5 : ∀ y : Cls (KeepS w x 60 cs), y.w.cell? ⟨x, 5, none⟩ = some (.int .u16 (window : Int)) := fun y => (y.h.2.cell 5).trans (by rw [hcs]; rfl)
  have k6 : ∀ y : Cls (KeepS w x 60 cs), y.w.cell? ⟨x, 6, none⟩ = some (.int .u16 (urgent : Int)) := fun y => (y.h.2.cell 6).trans (by rw [hcs]; rfl)
  have k7 : ∀ y : Cls (KeepS w x 60 cs), y.w.cell? ⟨x, 7, none⟩ = some (.string opts) := fun y => (y.h.2.cell 7).trans (by rw [hcs]; rfl)
  clear hcs
  have cf : ∀ (vals : Array Value) (w : World), (callFunc 59 vals).run Try.prog w = .ok (.enter 59 vals) w := fun _ _ => by kernel_rfl
  have cf4 : ∀ (vals : Array Value) (w : World), (callFunc 60 vals).run Try.prog w = .ok (.enter 60 vals) w := fun _ _ => by kernel_rfl
  have ob : ((offB n).toNat : Int) = (n : Int) / 4 * 16 := by unfold offB; rw [u8b]; have := Hn.out; omega
  have wr1 : IntKind.i64.wrap ((n : Int) / 4) = (n : Int) / 4 := by rw [IntKind.wrap_i64]; omega
  have wr2 : IntKind.i64.wrap ((n : Int) / 4 * 16) = (n : Int) / 4 * 16 := by rw [IntKind.wrap_i64]; omega
  have wr3 : IntKind.u8.wrap ((n : Int) / 4 * 16) = ((offB n).toNat : Int) := by rw [IntKind.wrap_u8, ob]; omega
  have r1 : ∀ W : World, (Instr.buildSlice 51 2 #[(0, .int .u8 ((offB n).toNat : Int)), (1, .int .u8 (flags.toNat : Int))]).run Try.prog W = .ok (.slice (some ⟨W.heap.size, 0, none⟩) 2 2) (W.alloc (.cells #[.int .u8 ((offB n).toNat : Int), .int .u8 (flags.toNat : Int)] 5)) := fun _ => by kernel_rfl
  have q1 : ∀ W u, isNew 5 #[.int .u8 ((offB n).toNat : Int), .int .u8 (flags.toNat : Int)] 2 u W → (convert 51 9 u).run Try.prog W = .ok (.string ⟨#[offB n, flags]⟩) W := by
    rintro W u ⟨g, rfl, h⟩
    exact str_two (offB n) flags W g 2 h
  have Cf := Lib.hid cf
  clear cf
  have Cf4 := Lib.hid cf4
  clear cf4
  have R1 := Lib.hid r1
  clear r1
  have Q1 := Lib.hid q1
  clear q1
  have Ob := Lib.hid ob
  clear ob
  have z2 : ∀ n, (be2 n).length = 2 := fun _ => rfl
  have z4 : ∀ n, (be4 n).length = 4 := fun _ => rfl
  refine wp_region_flat (KeepS w x 60 cs) (fun w w' => Below w.heap.size w w') (by kernel_rfl) (by kernel_rfl) (fun w => Below.refl _ _) hS0.drew ?_
  clear hS0
  repeat (first
    | (refine flat_quiet (fun w => Below.refl _ _) rfl rfl rfl rfl ?_; intro K hK; go_big_quiet_op; go_big_quiet_on)
    | (refine flat_call Cf.out _ ?_ rfl rfl rfl _ (fun y => below_call KeepS.below y (B1.out _)) W ?_; (focus (simp only [List.map_toArray, List.map_cons, List.map_nil]; rfl)); intro K hK; go_big_quiet_op; go_big_quiet_on)
    | (refine flat_call Cf.out _ ?_ rfl rfl rfl _ (fun y => below_call KeepS.below y (B2.out _)) W ?_; (focus (simp only [List.map_toArray, List.map_cons, List.map_nil]; rfl)); intro K hK; go_big_quiet_op; go_big_quiet_on)
    | (refine flat_call Cf4.out _ ?_ rfl rfl rfl _ (fun y => below_call KeepS.below y (B3.out _)) W ?_; (focus (simp only [List.map_toArray, List.map_cons, List.map_nil]; rfl)); intro K hK; go_big_quiet_op; go_big_quiet_on)
    | (refine flat_call Cf4.out _ ?_ rfl rfl rfl _ (fun y => below_call KeepS.below y (B4.out _)) W ?_; (focus (simp only [List.map_toArray, List.map_cons, List.map_nil]; rfl)); intro K hK; go_big_quiet_op; go_big_quiet_on)
    | (refine flat_call Cf.out _ ?_ rfl rfl rfl _ (fun y => below_call KeepS.below y (B5.out _)) W ?_; (focus (simp only [List.map_toArray, List.map_cons, List.map_nil]; rfl)); intro K hK; go_big_quiet_op; go_big_quiet_on)
    | (refine flat_build (E := 5) _ ?_ _ R1.out KeepS.below rfl rfl rfl W ?_; (focus (simp only [List.map_toArray, List.map_cons, List.map_nil]; rfl)); intro K hK; go_big_quiet_op; go_big_quiet_on)
    | (refine flat_conv ?_ List.mem_cons_self _ Q1.out (fun w => Below.refl _ _) rfl rfl rfl W ?_; (focus (simp)); intro K hK; go_big_quiet_op; go_big_quiet_on))
  refine flat_nil ?_
  intro W7 hW7 x19 _
  simp only [endF, Act.put, List.setIfInBounds_toArray, List.set_cons_succ, List.set_cons_zero]
  have hfront : (⟨(be2 src).toArray⟩ : ByteArray) ++ ⟨(be2 dst).toArray⟩ ++ ⟨(be4 seq).toArray⟩ ++ ⟨(be4 ack).toArray⟩ ++ ⟨#[offB n, flags]⟩ ++ ⟨(be2 window).toArray⟩ = ⟨(frontL ⟨src, dst, seq, ack, flags, window, urgent, opts⟩).toArray⟩ := by
    rw [show (⟨#[offB n, flags]⟩ : ByteArray) = ⟨[offB n, flags].toArray⟩ from rfl, str_cat, str_cat, str_cat, str_cat, str_cat, Hn.out]
    rfl
  rw [hfront]
  clear hfront
  obtain ⟨fr, hfr⟩ : ∃ fr : List UInt8, fr = frontL ⟨src, dst, seq, ack, flags, window, urgent, opts⟩ := ⟨_, rfl⟩
  rw [← hfr]
  have zf : fr.length = 16 := by rw [hfr]; rfl
  have Hfr := Lib.hid hfr
  clear hfr
  clear k0 k1 k2 k3 k4 k5
  go_upto_region 7 with fail
  refine wp_region_flat (KeepS w x 60 cs) (fun w w' => Below w.heap.size w w') (by kernel_rfl) (by kernel_rfl) (fun w => Below.refl _ _) hW7.drew ?_
  repeat (first
    | (refine flat_quiet (fun w => Below.refl _ _) rfl rfl rfl rfl ?_; intro K hK; go_big_quiet_op; go_big_quiet_on)
    | (refine flat_call Cf.out _ ?_ rfl rfl rfl _ (fun y => below_call KeepS.below y (B6.out _)) W ?_; (focus (simp only [List.map_toArray, List.map_cons, List.map_nil]; rfl)); intro K hK; go_big_quiet_op; go_big_quiet_on))
  refine flat_nil ?_
  intro W8 hW8
  simp only [endF]
  have hback : (⟨(be2 urgent).toArray⟩ : ByteArray) ++ opts ++ data = ⟨(backL ⟨src, dst, seq, ack, flags, window, urgent, opts⟩ data.data.toList).toArray⟩ := by
    conv => lhs; rw [str_of opts, str_of data]
    rw [str_cat, str_cat]; rfl
  rw [hback]
  clear hback
  obtain ⟨bk, hbk⟩ : ∃ bk : List UInt8, bk = backL ⟨src, dst, seq, ack, flags, window, urgent, opts⟩ data.data.toList := ⟨_, rfl⟩
  rw [← hbk]
  have zb : bk.length = 2 + opts.size + data.size := by rw [hbk, backL_length]; rfl
  clear k6 k7 ne
  obtain ⟨ah, hah⟩ : ∃ ah : List UInt8, ah = aheadL s d m := ⟨_, rfl⟩
  have za : ah.length = 12 := by rw [hah]; rfl
  rw [← hah] at B7
  obtain ⟨sm, hsm⟩ : ∃ sm, sm = sumL s d ⟨src, dst, seq, ack, flags, window, urgent, opts⟩ data.data.toList := ⟨_, rfl⟩
  have hsl : sm < 65536 := by rw [hsm]; exact sumL_lt _ _ _ _
  have hm' : 20 + opts.size + data.data.toList.length = m := by rw [Hmm.out, Hn.out]; rfl
  have hsv : ((ofL (catS [⟨ah.toArray⟩, ⟨fr.toArray⟩, ⟨bk.toArray⟩]) : Nat) : Int) = (sm : Int) := by
    have : catS [⟨ah.toArray⟩, ⟨fr.toArray⟩, ⟨bk.toArray⟩] = ah ++ fr ++ bk := by simp [catS]
    rw [this, hsm, Hfr.out, hbk, hah, ← hm']
    rfl
  have ol := fun W g (h : Blk W g 9 #[.string ⟨ah.toArray⟩, .string ⟨fr.toArray⟩, .string ⟨bk.toArray⟩]) => of_lit [⟨ah.toArray⟩, ⟨fr.toArray⟩, ⟨bk.toArray⟩] (sm : Int) hsv (by
    intro s hs
    simp only [List.mem_cons, List.not_mem_nil, or_false] at hs
    rcases hs with rfl | rfl | rfl
    · show ah.length ≤ maxLen; rw [za]; decide
    · show fr.length ≤ maxLen; rw [zf]; decide
    · show bk.length ≤ maxLen; rw [zb]; have : (2 : Nat) + opts.size + data.size ≤ 65535 := by omega
      exact Nat.le_trans this (by decide)) g 3 3 W rfl (by omega) h
  have Hah := Lib.hid hah
  clear hah
  have Hbk := Lib.hid hbk
  clear hbk
  have Hsm := Lib.hid hsm
  clear hsm
  have Ol := Lib.hid ol
  clear ol
  have Hm' := Lib.hid hm'
  clear hm'
  clear hsv
  go_wp2_with fail
  with_reducible refine (B7.out _).mono ?_
  rintro e w8 ⟨rfl, hb8⟩
  go_wp2_with fail
  with_reducible refine (Ol.out _ _ (Blk.new _ _ _)).mono ?_
  rintro e w9 ⟨rfl, hb9⟩
  go_wp2_with fail
  (with_reducible refine (high16 sm _ hsl).mono ?_)
  rintro e w10 ⟨rfl, hb10⟩
  go_wp2
  go_ret2
  refine ⟨?_, ?_⟩
  · have e2 : (⟨fr.toArray⟩ : ByteArray) ++ ⟨(be2 sm).toArray⟩ ++ ⟨bk.toArray⟩ = ⟨(encL s d ⟨src, dst, seq, ack, flags, window, urgent, opts⟩ data.data.toList).toArray⟩ := by
      rw [str_cat, str_cat]
      unfold encL rawL
      rw [← Hfr.out, ← Hbk.out, ← Hsm.out]
    rw [← e2]
    rfl
  · have h0 : Below w.heap.size w W8 := hW8.1
    have h1 : Below W8.heap.size W8 w10 := hb8.trans ((((Below.refl _ _).alloc (Nat.le_refl _) _).trans ((hb9.mono (by simp)).trans (hb10.mono (by have := hb9.size; simp at this; omega)))).mono hb8.size)
    exact h0.trans (h1.mono h0.size)
end Go.Proofs.Ytengegcnocdkoaa.T
end
section
namespace Go.Proofs.Ytengegcnocdkoaa.T
open Go.RowKit
set_option maxHeartbeats 1000000 in
theorem enc_long (s d : Nat) (h : TCPh) (data : ByteArray) (w : World) (hm : h.opts.size % 4 = 0) (hm2 : h.opts.size ≤ 40) (hf : h.flags.toNat < 64) (hl : 65515 < 20 + h.opts.size + data.size) (hd : data.size ≤ 131072) :
    Calls Try.prog 28 #[.int .u32 (s : Int), .int .u32 (d : Int), .agg h.cells, .string data] w fun e w' => e = .returned (.tuple #[.string ⟨#[]⟩, .int .i64 4]) ∧ Below w.heap.size w w' := by
  obtain ⟨src, dst, seq, ack, flags, window, urgent, opts⟩ := h
  simp only at hm hm2 hf hl
  unfold TCPh.cells
  simp only
  obtain ⟨n, hn⟩ : ∃ n, n = 20 + opts.size := ⟨_, rfl⟩
  have e1 : (20 : Int) + (opts.size : Int) = (n : Int) := by omega
  obtain ⟨m, hmm⟩ : ∃ m, m = n + data.size := ⟨_, rfl⟩
  have e2 : (n : Int) + (data.size : Int) = (m : Int) := by omega
  have hm3 : m ≤ 200000 := by omega
  have i1 : (n : Int) % 4 = 0 := by omega
  have i2 : (opts.size : Int) ≤ 40 := by omega
  have i3 : (flags.toNat : Int) / 64 = 0 := by omega
  have i4 : (65515 : Int) < (m : Int) := by omega
  have Hn := Lib.hid hn
  clear hn
  have Hmm := Lib.hid hmm
  clear hmm
  go_enter Try.func28, Try.ntmps28
  go_wp2
  go_ret2
  exact ⟨rfl, (Below.refl _ _).alloc (Nat.le_refl _) _⟩
set_option maxHeartbeats 1000000 in
theorem enc_arg (s d : Nat) (h : TCPh) (data : ByteArray) (w : World) (hm : ¬ (h.opts.size % 4 = 0 ∧ h.opts.size ≤ 40 ∧ h.flags.toNat < 64)) (hd : h.opts.size ≤ 131072) :
    Calls Try.prog 28 #[.int .u32 (s : Int), .int .u32 (d : Int), .agg h.cells, .string data] w fun e w' => e = .returned (.tuple #[.string ⟨#[]⟩, .int .i64 2]) ∧ Below w.heap.size w w' := by
  obtain ⟨src, dst, seq, ack, flags, window, urgent, opts⟩ := h
  simp only at hm hd
  unfold TCPh.cells
  simp only
  obtain ⟨n, hn⟩ : ∃ n, n = 20 + opts.size := ⟨_, rfl⟩
  have e1 : (20 : Int) + (opts.size : Int) = (n : Int) := by omega
  have hn3 : n ≤ 131092 := by omega
  by_cases i1 : opts.size % 4 = 0
  · have i1 : (n : Int) % 4 = 0 := by omega
    by_cases i2 : opts.size ≤ 40
    · have i3 : ((flags.toNat : Int) / 64 != 0) = true := by rw [bne_iff_ne]; omega
      have i2 : (opts.size : Int) ≤ 40 := by omega
      have Hm := Lib.hid hm
      clear hm
      have Hn := Lib.hid hn
      clear hn
      go_enter Try.func28, Try.ntmps28
      go_wp2
      go_ret2
      exact ⟨rfl, (Below.refl _ _).alloc (Nat.le_refl _) _⟩
    · have i2 : (40 : Int) < (opts.size : Int) := by omega
      have Hm := Lib.hid hm
      clear hm
      have Hn := Lib.hid hn
      clear hn
      go_enter Try.func28, Try.ntmps28
      go_wp2
      go_ret2
      exact ⟨rfl, (Below.refl _ _).alloc (Nat.le_refl _) _⟩
  · have i1 : ((n : Int) % 4 != 0) = true := by rw [bne_iff_ne]; omega
    have Hm := Lib.hid hm
    clear hm
    have Hn := Lib.hid hn
    clear hn
    go_enter Try.func28, Try.ntmps28
    go_wp2
    go_ret2
    exact ⟨rfl, (Below.refl _ _).alloc (Nat.le_refl _) _⟩
end Go.Proofs.Ytengegcnocdkoaa.T
end
section
namespace Go.Proofs.Ytengegcnocdkoaa.T
open Go.RowKit Go.BigFrame
set_option maxHeartbeats 2000000 in
theorem ref_sum (s d : Nat) (t : ByteArray) (w : World) (hs : s < 4294967296) (hd : d < 4294967296) (ht : t.size < 65536) :
    Calls Try.prog 67 #[.int .u32 (s : Int), .int .u32 (d : Int), .string t] w fun e w' => e = .returned (.int .u16 ((ofL (aheadL s d t.size ++ t.data.toList) : Nat) : Int)) ∧ Below w.heap.size w w' := by
  obtain ⟨m, hm⟩ : ∃ m, m = t.size := ⟨_, rfl⟩
  have e1 : (t.size : Int) = (m : Int) := by omega
  have hm2 : m < 65536 := by omega
  have z2 : ∀ n, (be2 n).length = 2 := fun _ => rfl
  have z4 : ∀ n, (be4 n).length = 4 := fun _ => rfl
  obtain ⟨X, hX⟩ : ∃ X : ByteArray, X = (⟨(be4 s).toArray⟩ : ByteArray) ++ ⟨(be4 d).toArray⟩ ++ ⟨#[0, 6]⟩ ++ ⟨(be2 m).toArray⟩ ++ t := ⟨_, rfl⟩
  have eX : X = ⟨(aheadL s d m ++ t.data.toList).toArray⟩ := by
    rw [hX]
    conv => lhs; rw [str_of t]
    rw [show (⟨#[0, 6]⟩ : ByteArray) = ⟨[0, 6].toArray⟩ from rfl]
    simp only [str_cat]
    rfl
  have b := fun W => ref_of X W (by rw [eX]; show (aheadL s d m ++ t.data.toList).length ≤ _; rw [List.length_append, aheadL_length, Array.length_toList]; show 12 + t.size ≤ 1099511627776; omega)
  rw [← hm]
  have b' : ∀ W : World, Calls Try.prog 69 #[.string ((⟨(be4 s).toArray⟩ : ByteArray) ++ ⟨(be4 d).toArray⟩ ++ ⟨#[0, 6]⟩ ++ ⟨(be2 m).toArray⟩ ++ t)] W fun e w' => e = .returned (.int .u16 ((ofL (aheadL s d m ++ t.data.toList) : Nat) : Int)) ∧ W = w' := by
    intro W
    have := b W
    rw [show ofL X.data.toList = ofL (aheadL s d m ++ t.data.toList) by rw [eX]] at this
    rw [← hX]
    exact this
  clear b
  have B' := Lib.hid b'
  clear b'
  have HX := Lib.hid hX
  clear hX
  have Hm := Lib.hid hm
  clear hm
  have EX := Lib.hid eX
  clear eX
  go_enter Try.func67, Try.ntmps67
  go_wp2_with fail
  with_reducible refine (ref_four s _ hs).mono ?_
  rintro e w1 ⟨rfl, hb1⟩
  go_wp2_with fail
  with_reducible refine (ref_four d _ hd).mono ?_
  rintro e w2 ⟨rfl, hb2⟩
  go_wp2_with fail
  with_reducible refine (ref_bytes m _ hm2).mono ?_
  rintro e w3 ⟨rfl, hb3⟩
  go_wp2_with fail
  with_reducible refine (B'.out _).mono ?_
  rintro e w4 ⟨rfl, rfl⟩
  go_wp2
  go_ret
  exact ⟨rfl, hb1.trans ((hb2.trans (hb3.mono hb2.size)).mono hb1.size)⟩
end Go.Proofs.Ytengegcnocdkoaa.T
end
