/- The document's options (transomref07): which bytes they have. -/
import Derived.Test.YtimepplfaaddeaaOptRaw
set_option linter.unusedVariables false
set_option linter.unusedSimpArgs false
namespace Go.Proofs.Ytimepplfaaddeaa
open Go.RowKit Go.BigFrame

set_option maxRecDepth 100000 in
set_option maxHeartbeats 4000000 in
theorem rraw_any (w : World) (o : Op) (A : Option Addr) (c : Nat) (ho : o.ok) (hr : BlR w A o.bl) (hn : o.bl.length ≤ 4) :
    Calls Try.prog 23 #[.agg (optC o A c)] w fun e w' => e = .returned (.string ⟨(rawL o).toArray⟩) ∧ Below w.heap.size w w' := by
  obtain ⟨n, hne⟩ : ∃ n, n = o.bl.length := ⟨_, rfl⟩
  unfold optC
  rw [← hne]
  have i1 : (n : Int) ≤ 4 := by omega
  have i2 : (0 : Int) ≤ (n : Int) := by omega
  have hb0 : Below w.heap.size w (w.alloc (.cells (optN o A n c) 26)) := (Below.refl _ _).alloc (Nat.le_refl _) _
  have hS0 : OptS (w.alloc (.cells (optN o A n c) 26)) w.heap.size (optN o A n c) (w.alloc (.cells (optN o A n c) 26)) := ⟨Below.refl _ _, Blk.new _ _ _⟩
  have hR0 := hr.below hb0
  unfold optN at hS0 hb0 hR0
  have HO := Lib.hid ho
  have HN := Lib.hid hne
  clear ho hr hne hn
  go_enter Try.func23, Try.ntmps23
  go_upto_region 1 with fail
  obtain ⟨g, hg⟩ : ∃ g, g = w.heap.size := ⟨_, rfl⟩
  generalize hW1 : w.alloc _ = W1 at *
  rw [← hg] at hS0 ⊢
  clear hg hW1
  have hS0 : OptS W1 g (optN o A n c) W1 := hS0
  have HB := Lib.hid hb0
  have HS := Lib.hid hS0
  have HR := Lib.hid hR0
  have c0 := hS0.2.cell 0
  simp [optN] at c0
  clear hb0 hS0 hR0
  obtain ⟨m, hm⟩ : ∃ m : Int, m = (o.mss : Int) := ⟨_, rfl⟩
  obtain ⟨sc, hsc⟩ : ∃ sc : Int, sc = o.scale := ⟨_, rfl⟩
  obtain ⟨sk, hsk⟩ : ∃ sk, sk = o.sack := ⟨_, rfl⟩
  obtain ⟨tm, htm⟩ : ∃ tm, tm = o.time := ⟨_, rfl⟩
  obtain ⟨vl, hvl⟩ : ∃ vl : Int, vl = (o.val : Int) := ⟨_, rfl⟩
  obtain ⟨ec, hec⟩ : ∃ ec : Int, ec = (o.echo : Int) := ⟨_, rfl⟩
  have i3 : sc ≤ 14 := by rw [hsc]; exact HO.out.scale.2
  rw [← hm, ← hsc, ← hsk, ← htm, ← hvl, ← hec]
  rw [← hm] at c0
  have Hm := Lib.hid hm
  clear hm
  have Hsc := Lib.hid hsc
  clear hsc
  have Hsk := Lib.hid hsk
  clear hsk
  have Htm := Lib.hid htm
  clear htm
  have Hvl := Lib.hid hvl
  clear hvl
  have Hec := Lib.hid hec
  clear hec
  go_upto_if 7 with fail
  generalize ht7 : (m != 0) = t7
  have Ht7 := Lib.hid ht7
  clear ht7
  go_cut [3] from 8 to 13 (fun s wx => s = .string ⟨(mssL o).toArray⟩ ∧ OptS W1 g (optN o A n c) wx)
  case first =>
    cases t7 with
    | false =>
      have h0 : m = 0 := by have := Ht7.out; simpa using this
      have hm0 : mssL o = [] := by unfold mssL; rw [if_pos (by have := Hm.out; omega)]
      have Hm0 := Lib.hid hm0
      clear h0 hm0
      go_wp2_with fail
      go_meet
      case rel => exact ⟨by rw [Hm0.out], HS.out⟩
    | true =>
      have h0 : m ≠ 0 := by have := Ht7.out; simpa using this
      have hm0 : mssL o = [2, 4] ++ be2 o.mss := by unfold mssL; rw [if_neg (by have := Hm.out; omega)]
      have hcl : ∀ W, Calls Try.prog 34 #[.int .u16 m] W fun e w' => e = .returned (.string ⟨(be2 o.mss).toArray⟩) ∧ Below W.heap.size W w' := fun W => by rw [Hm.out]; exact ref_bytes o.mss W HO.out.mss
      have z2 : (be2 o.mss).length = 2 := rfl
      have Hcl := Lib.hid hcl
      clear hcl
      have Hm0 := Lib.hid hm0
      clear hm0
      clear h0
      go_wp2_with fail
      with_reducible refine (Hcl.out _).mono ?_
      rintro e w9 ⟨rfl, hb9⟩
      have hW := OptS.below _ _ HS.out hb9
      have HW := Lib.hid hW
      clear hW hb9
      go_wp2_with fail
      go_meet
      case rel => exact ⟨by rw [Hm0.out, show (⟨#[]⟩ : ByteArray) = ⟨([] : List UInt8).toArray⟩ from rfl, show (⟨#[2, 4]⟩ : ByteArray) = ⟨[2, 4].toArray⟩ from rfl, cat_str, cat_str]; rfl, HW.out⟩
  case rest =>
    obtain ⟨rfl, hS⟩ := hcut
    obtain ⟨L1, hL1⟩ : ∃ L1, L1 = mssL o := ⟨_, rfl⟩
    have hz1 : L1.length ≤ 4 := by rw [hL1]; unfold mssL; split <;> simp [be2]
    rw [← hL1]
    have c1 := hS.2.cell 1
    simp [optN] at c1
    rw [← Hsc.out] at c1
    have HL1 := Lib.hid hL1
    have HS := Lib.hid hS
    clear hL1 hS c0
    go_upto_if 16 with fail
    go_cut [3] from 17 to 24 (fun s wx => s = .string ⟨(L1 ++ scaleL o).toArray⟩ ∧ OptS W1 g (optN o A n c) wx)
    case first =>
      by_cases h : 0 ≤ sc
      · have hcv := conv_new wc [UInt8.ofNat sc.toNat] 1 #[.int .u8 sc] rfl (by simp [u8v]; omega)
        have hs0 : scaleL o = [1, 3, 3, UInt8.ofNat sc.toNat] := by unfold scaleL; rw [if_neg (by have := Hsc.out; omega), Hsc.out]
        have hW := OptS.below _ _ HS.out ((Below.refl wc.heap.size wc).alloc (Nat.le_refl _) (.cells #[.int .u8 sc] 5))
        have Hs0 := Lib.hid hs0
        clear hs0
        have HW := Lib.hid hW
        clear hW
        go_wp2_with fail
        go_meet
        case rel => exact ⟨by rw [Hs0.out, show (⟨#[1, 3, 3]⟩ : ByteArray) = ⟨[1, 3, 3].toArray⟩ from rfl, cat_str, cat_str, List.append_assoc]; rfl, HW.out⟩
      · have hs0 : scaleL o = [] := by unfold scaleL; rw [if_pos (by have := Hsc.out; omega)]
        have Hs0 := Lib.hid hs0
        clear hs0
        go_wp2_with fail
        go_meet
        case rel => exact ⟨by rw [Hs0.out, List.append_nil], HS.out⟩
    case rest =>
      clear HS c1
      obtain ⟨rfl, hS⟩ := hcut
      obtain ⟨L2, hL2⟩ : ∃ L2, L2 = L1 ++ scaleL o := ⟨_, rfl⟩
      have hz2 : L2.length ≤ 8 := by
        have h1 : (scaleL o).length ≤ 4 := by unfold scaleL; split <;> simp
        rw [hL2, List.length_append]
        omega
      rw [← hL2]
      have c2 := hS.2.cell 2
      simp [optN] at c2
      rw [← Hsk.out] at c2
      have HL2 := Lib.hid hL2
      have HS := Lib.hid hS
      clear hL2 hS hz1
      go_upto_if 26 with fail
      go_cut [3] from 27 to 28 (fun s wx => s = .string ⟨(L2 ++ sackL o).toArray⟩ ∧ OptS W1 g (optN o A n c) wx)
      case first =>
        cases sk with
        | true =>
          have hs0 : sackL o = [1, 1, 4, 2] := by unfold sackL; rw [← Hsk.out]; rfl
          have Hs0 := Lib.hid hs0
          clear hs0
          go_wp2_with fail
          go_meet
          case rel => exact ⟨by rw [Hs0.out]; exact congrArg Value.string (cat_str _ [1, 1, 4, 2]), HS.out⟩
        | false =>
          have hs0 : sackL o = [] := by unfold sackL; rw [← Hsk.out]; rfl
          have Hs0 := Lib.hid hs0
          clear hs0
          go_wp2_with fail
          go_meet
          case rel => exact ⟨by rw [Hs0.out, List.append_nil], HS.out⟩
      case rest =>
        clear HS c2
        obtain ⟨rfl, hS⟩ := hcut
        obtain ⟨L3, hL3⟩ : ∃ L3, L3 = L2 ++ sackL o := ⟨_, rfl⟩
        have hz3 : L3.length ≤ 12 := by
          have h1 : (sackL o).length ≤ 4 := by unfold sackL; split <;> simp
          rw [hL3, List.length_append]
          omega
        rw [← hL3]
        have c4 := hS.2.cell 4
        simp [optN] at c4
        rw [← Htm.out] at c4
        have HL3 := Lib.hid hL3
        have HS := Lib.hid hS
        clear hL3 hS hz2
        go_upto_if 30 with fail
        go_cut [3] from 31 to 40 (fun s wx => s = .string ⟨(L3 ++ timeL o).toArray⟩ ∧ OptS W1 g (optN o A n c) wx)
        case first =>
          cases tm with
          | true =>
            have hs0 : timeL o = [1, 1, 8, 10] ++ (be4 o.val ++ be4 o.echo) := by unfold timeL; rw [← Htm.out]; rfl
            have ne : Nonempty (Cls (OptS W1 g (optN o A n c))) := ⟨⟨wc, HS.out⟩⟩
            have k5 : ∀ y : Cls (OptS W1 g (optN o A n c)), y.w.cell? ⟨g, 5, none⟩ = some (.int .u32 vl) := fun y => by rw [y.h.2.cell 5, Hvl.out]; rfl
            have k6 : ∀ y : Cls (OptS W1 g (optN o A n c)), y.w.cell? ⟨g, 6, none⟩ = some (.int .u32 ec) := fun y => by rw [y.h.2.cell 6, Hec.out]; rfl
            have cf : ∀ (vals : Array Value) (w : World), (callFunc 35 vals).run Try.prog w = .ok (.enter 35 vals) w := fun _ _ => by kernel_rfl
            have m1 : ∀ y : Cls (OptS W1 g (optN o A n c)), Calls Try.prog 35 #[.int .u32 vl] y.w fun e w'' => e = .returned (.string ⟨(be4 o.val).toArray⟩) ∧ OptS W1 g (optN o A n c) w'' ∧ Below y.w.heap.size y.w w'' := fun y => by
              rw [Hvl.out]
              exact (ref_four o.val y.w HO.out.val).mono fun e w' ⟨he, hb⟩ => ⟨he, OptS.below _ _ y.h hb, hb⟩
            have m2 : ∀ y : Cls (OptS W1 g (optN o A n c)), Calls Try.prog 35 #[.int .u32 ec] y.w fun e w'' => e = .returned (.string ⟨(be4 o.echo).toArray⟩) ∧ OptS W1 g (optN o A n c) w'' ∧ Below y.w.heap.size y.w w'' := fun y => by
              rw [Hec.out]
              exact (ref_four o.echo y.w HO.out.echo).mono fun e w' ⟨he, hb⟩ => ⟨he, OptS.below _ _ y.h hb, hb⟩
            have z4 : ∀ x, (be4 x).length = 4 := fun _ => rfl
            have Cf := Lib.hid cf
            clear cf
            have M1 := Lib.hid m1
            clear m1
            have M2 := Lib.hid m2
            clear m2
            have Hs0 := Lib.hid hs0
            clear hs0
            go_upto_region 9 with fail
            refine wp_region_flow 11 (OptS W1 g (optN o A n c)) (fun w w' => Below w.heap.size w w') (by kernel_rfl) (by kernel_rfl) (by kernel_rfl) (fun w => Below.refl _ _) HS.out.drew ?_
            simp only [List.take_succ_cons, List.take_zero, List.drop_succ_cons, List.drop_zero]
            iterate 4 (refine flow_quiet (fun w => Below.refl _ _) rfl rfl rfl rfl ?_; intro K hK; go_big_quiet_op; go_big_quiet_on)
            refine flow_call Cf.out _ ?_ rfl rfl rfl _ M1.out W1 ?_
            focus (simp only [List.map_toArray, List.map_cons, List.map_nil]; rfl)
            intro K hK; go_big_quiet_op; go_big_quiet_on
            iterate 3 (refine flow_quiet (fun w => Below.refl _ _) rfl rfl rfl rfl ?_; intro K hK; go_big_quiet_op; go_big_quiet_on)
            refine flow_call Cf.out _ ?_ rfl rfl rfl _ M2.out W1 ?_
            focus (simp only [List.map_toArray, List.map_cons, List.map_nil]; rfl)
            intro K hK; go_big_quiet_op; go_big_quiet_on
            repeat (refine flow_quiet (fun w => Below.refl _ _) rfl rfl rfl rfl ?_; intro K hK; go_big_quiet_op; go_big_quiet_on)
            refine flow_nil ?_
            intro W f hW hF
            clear hF
            simp only [fillW, Act.put, List.setIfInBounds_toArray, List.set_cons_succ, List.set_cons_zero]
            go_wp2_with fail
            go_meet
            case rel => exact ⟨by rw [Hs0.out, show (⟨#[1, 1, 8, 10]⟩ : ByteArray) = ⟨[1, 1, 8, 10].toArray⟩ from rfl, cat_str, cat_str, cat_str]; simp only [List.append_assoc], hW⟩
          | false =>
            have hs0 : timeL o = [] := by unfold timeL; rw [← Htm.out]; rfl
            have Hs0 := Lib.hid hs0
            clear hs0
            go_wp2_with fail
            go_meet
            case rel => exact ⟨by rw [Hs0.out, List.append_nil], HS.out⟩
        case rest =>
          clear HS c4
          obtain ⟨rfl, hS⟩ := hcut
          obtain ⟨L4, hL4⟩ : ∃ L4, L4 = L3 ++ timeL o := ⟨_, rfl⟩
          have hz4 : L4.length ≤ 24 := by
            have h1 : (timeL o).length ≤ 12 := by unfold timeL; split <;> simp [be4]
            rw [hL4, List.length_append]
            omega
          rw [← hL4]
          have c3 := hS.2.cell 3
          simp [optN] at c3
          have HL4 := Lib.hid hL4
          have HS := Lib.hid hS
          clear hL4 hS hz3
          by_cases h : 0 < n
          · have i5 : (0 : Int) < (n : Int) := by omega
            have hcv := fun W => conv_new W [UInt8.ofNat (2 + 8 * n)] 1 #[.int .u8 (2 + 8 * (n : Int))] rfl (by simp [u8v]; omega)
            have hs0 : bheadL n = [1, 1, 5] ++ [UInt8.ofNat (2 + 8 * n)] := by unfold bheadL; rw [if_neg (by omega)]; rfl
            obtain ⟨bn, hbn⟩ : ∃ bn, bn = UInt8.ofNat (2 + 8 * n) := ⟨_, rfl⟩
            rw [← hbn] at hcv hs0
            clear hbn
            have hW := OptS.below _ _ HS.out ((Below.refl wc.heap.size wc).alloc (Nat.le_refl _) (.cells #[.int .u8 (2 + 8 * (n : Int))] 5))
            obtain ⟨L5, hL5⟩ : ∃ L5, L5 = L4 ++ bheadL n := ⟨_, rfl⟩
            have hz5 : L5.length ≤ 28 := by
              rw [hL5, hs0, List.length_append]
              simp
              omega
            have hraw : rawL o = L5 ++ blksL o.bl := by
              rw [hL5, HL4.out, HL3.out, HL2.out, HL1.out, HN.out]
              rfl
            have hcat : (⟨L4.toArray⟩ : ByteArray) ++ ⟨#[1, 1, 5]⟩ ++ ⟨[bn].toArray⟩ = ⟨L5.toArray⟩ := by
              rw [hL5, hs0, show (⟨#[1, 1, 5]⟩ : ByteArray) = ⟨[1, 1, 5].toArray⟩ from rfl, cat_str, cat_str, List.append_assoc]
            have hrel0 : RawRel W1 g o A n c L5 0 (.string ⟨L5.toArray⟩) (wc.alloc (.cells #[.int .u8 (2 + 8 * (n : Int))] 5)) := ⟨Nat.zero_le _, by simp [blksL], hW⟩
            have hcat2 : (⟨L4.toArray⟩ : ByteArray) ++ ⟨#[1, 1, 5]⟩ ++ ⟨#[bn]⟩ = ⟨L5.toArray⟩ := hcat
            have Hraw := Lib.hid hraw
            clear hraw
            have Hrel0 := Lib.hid hrel0
            clear hrel0
            have HL5 := Lib.hid hL5
            clear hL5
            have Hcat := Lib.hid hcat
            clear hcat
            have Hs0 := Lib.hid hs0
            clear hs0
            have HW := Lib.hid hW
            clear hW
            clear h
            go_wp2_with fail
            go_loopw [4, 3] (fun i s wr => ∃ k : Nat, i = .int .i64 (k : Int) ∧ RawRel W1 g o A n c L5 k s wr) (fun i _ _ => n - (intOf i).toNat)
            case atStart => exact ⟨0, rfl, Hrel0.out⟩
            case round =>
              clear Hrel0 hcv
              obtain ⟨k, rfl, hk, rfl, hS⟩ := hrel
              have c3 := hS.2.cell 3
              simp [optN] at c3
              by_cases hlt : k < n
              · have j1 : (k : Int) < (n : Int) := by omega
                have j2 : (0 : Int) ≤ (k : Int) := by omega
                have hkl : k < o.bl.length := by rw [← HN.out]; exact hlt
                obtain ⟨p, hp⟩ : ∃ p, o.bl[k]? = some p := ⟨o.bl[k], List.getElem?_eq_getElem hkl⟩
                have hpm : p ∈ o.bl := List.mem_of_getElem? hp
                obtain ⟨⟨b1, b2⟩, b3, b4⟩ := HO.out.bl p hpm
                have hA : ∃ rb off, A = some ⟨rb, off, none⟩ ∧ rb < W1.heap.size ∧ ∀ y : Cls (OptS W1 g (optN o A n c)), y.w.cell? ⟨rb, off + k * 2, none⟩ = some (.int .u32 p.1) ∧ y.w.cell? ⟨rb, off + k * 2 + 1, none⟩ = some (.int .u32 p.2) := by
                  rcases HR.out with h | ⟨rb, off, h1, h2, h3⟩
                  · rw [h] at hkl; simp at hkl
                  · refine ⟨rb, off, h1, h2, fun y => ?_⟩
                    have h4 := h3 k p hp
                    exact ⟨(y.h.1.cell (p := ⟨rb, off + k * 2, none⟩) h2).trans h4.1, (y.h.1.cell (p := ⟨rb, off + k * 2 + 1, none⟩) h2).trans h4.2⟩
                obtain ⟨rb, off, hA, hrb, e01⟩ := hA
                subst hA
                have e0 := fun y => (e01 y).1
                have e1 := fun y => (e01 y).2
                have htk : o.bl.take (k + 1) = o.bl.take k ++ [p] := by rw [List.take_add_one, hp]; rfl
                have hbl : blksL (o.bl.take (k + 1)) = blksL (o.bl.take k) ++ (be4 p.1.toNat ++ be4 p.2.toNat) := by
                  rw [htk]
                  unfold blksL
                  rw [List.flatMap_append]
                  simp
                have hlen : (blksL (o.bl.take k)).length ≤ 32 := by
                  rw [blks_len]
                  have := List.length_take_le k o.bl
                  omega
                obtain ⟨Lk, hLk⟩ : ∃ Lk, Lk = L5 ++ blksL (o.bl.take k) := ⟨_, rfl⟩
                have hzk : Lk.length ≤ 60 := by rw [hLk, List.length_append]; omega
                have hnext : ∀ W, OptS W1 g (optN o (some ⟨rb, off, none⟩) n c) W → RawRel W1 g o (some ⟨rb, off, none⟩) n c L5 (k + 1) (.string (⟨Lk.toArray⟩ ++ ⟨(be4 p.1.toNat).toArray⟩ ++ ⟨(be4 p.2.toNat).toArray⟩)) W := fun W h => ⟨hlt, by rw [hbl, cat_str, cat_str, hLk]; simp only [List.append_assoc], h⟩
                have m1 : ∀ y : Cls (OptS W1 g (optN o (some ⟨rb, off, none⟩) n c)), Calls Try.prog 35 #[.int .u32 p.1] y.w fun e w'' => e = .returned (.string ⟨(be4 p.1.toNat).toArray⟩) ∧ OptS W1 g (optN o (some ⟨rb, off, none⟩) n c) w'' ∧ Below y.w.heap.size y.w w'' := fun y => by
                  have := ref_four p.1.toNat y.w (by omega)
                  rw [Int.toNat_of_nonneg b1] at this
                  exact this.mono fun e w' ⟨he, hb⟩ => ⟨he, OptS.below _ _ y.h hb, hb⟩
                have m2 : ∀ y : Cls (OptS W1 g (optN o (some ⟨rb, off, none⟩) n c)), Calls Try.prog 35 #[.int .u32 p.2] y.w fun e w'' => e = .returned (.string ⟨(be4 p.2.toNat).toArray⟩) ∧ OptS W1 g (optN o (some ⟨rb, off, none⟩) n c) w'' ∧ Below y.w.heap.size y.w w'' := fun y => by
                  have := ref_four p.2.toNat y.w (by omega)
                  rw [Int.toNat_of_nonneg b3] at this
                  exact this.mono fun e w' ⟨he, hb⟩ => ⟨he, OptS.below _ _ y.h hb, hb⟩
                have cf : ∀ (vals : Array Value) (w : World), (callFunc 35 vals).run Try.prog w = .ok (.enter 35 vals) w := fun _ _ => by kernel_rfl
                have ne : Nonempty (Cls (OptS W1 g (optN o (some ⟨rb, off, none⟩) n c))) := ⟨⟨wr, hS⟩⟩
                have k3 : ∀ y : Cls (OptS W1 g (optN o (some ⟨rb, off, none⟩) n c)), y.w.cell? ⟨g, 3, none⟩ = some (.slice (some ⟨rb, off, none⟩) n c) := fun y => by rw [y.h.2.cell 3]; rfl
                have z4 : ∀ x, (be4 x).length = 4 := fun _ => rfl
                rw [← hLk]
                obtain ⟨p1, p2⟩ := p
                simp only at e0 e1 m1 m2 b1 b2 b3 b4 hnext
                have Hnext := Lib.hid hnext
                have HSr := Lib.hid hS
                have M1 := Lib.hid m1
                clear m1
                have M2 := Lib.hid m2
                clear m2
                have Cf := Lib.hid cf
                clear cf
                clear hnext hS hLk hbl htk hp hpm hlen hkl hk e01 hS0
                go_upto_region 15 with fail
                refine wp_region_flow 18 (OptS W1 g (optN o (some ⟨rb, off, none⟩) n c)) (fun w w' => Below w.heap.size w w') (by kernel_rfl) (by kernel_rfl) (by kernel_rfl) (fun w => Below.refl _ _) HSr.out.drew ?_
                simp only [List.take_succ_cons, List.take_zero, List.drop_succ_cons, List.drop_zero]
                iterate 7 (refine flow_quiet (fun w => Below.refl _ _) rfl rfl rfl rfl ?_; intro K hK; go_big_quiet_op; go_big_quiet_on)
                refine flow_call Cf.out _ ?_ rfl rfl rfl _ M1.out W1 ?_
                focus (simp only [List.map_toArray, List.map_cons, List.map_nil]; rfl)
                intro K hK; go_big_quiet_op; go_big_quiet_on
                iterate 7 (refine flow_quiet (fun w => Below.refl _ _) rfl rfl rfl rfl ?_; intro K hK; go_big_quiet_op; go_big_quiet_on)
                refine flow_call Cf.out _ ?_ rfl rfl rfl _ M2.out W1 ?_
                focus (simp only [List.map_toArray, List.map_cons, List.map_nil]; rfl)
                intro K hK; go_big_quiet_op; go_big_quiet_on
                repeat (refine flow_quiet (fun w => Below.refl _ _) rfl rfl rfl rfl ?_; intro K hK; go_big_quiet_op; go_big_quiet_on)
                refine flow_nil ?_
                intro W f hW hF
                clear hF
                simp only [fillW, Act.put, List.setIfInBounds_toArray, List.set_cons_succ, List.set_cons_zero]
                have Hr := Lib.hid (Hnext.out W hW)
                clear hW e0 e1 k3 ne
                go_wp2
                go_roundw
                case rel => exact ⟨k + 1, by go_num, Hr.out⟩
                case measure => simp [intOf]; omega
              · have hke : k = n := by omega
                have j1 : (n : Int) ≤ (k : Int) := by omega
                have hall : o.bl.take k = o.bl := List.take_of_length_le (by rw [← HN.out]; omega)
                rw [hall, ← Hraw.out]
                have hb := HB.out.trans (hS.1.mono HB.out.size)
                have HF := Lib.hid hb
                clear hall hb hS hke hlt hk
                go_wp2
                go_ret
                exact ⟨rfl, HF.out⟩
          · have hn0 : n = 0 := by omega
            have i6 : decide ((0 : Int) < (n : Int)) = false := by simp; omega
            have i7 : decide (0 < n) = false := by simpa using h
            have hraw : rawL o = L4 := by
              have h1 : bheadL n = [] := by unfold bheadL; rw [if_pos hn0]
              have h2 : o.bl = [] := List.eq_nil_of_length_eq_zero (by rw [← HN.out]; exact hn0)
              rw [HL4.out, HL3.out, HL2.out, HL1.out]
              unfold rawL
              rw [← HN.out, h1, h2]
              simp [blksL]
            have hb := HB.out.trans (HS.out.1.mono HB.out.size)
            have HF := Lib.hid hb
            have Hraw := Lib.hid hraw
            clear hb hn0 hraw
            go_wp2
            go_ret
            exact ⟨by rw [Hraw.out]; rfl, HF.out⟩
end Go.Proofs.Ytimepplfaaddeaa
