/- Layer 11 (ports): Take, where one is free. -/
import Derived.Test.YtjeckahbkepnpaaPortsD
import Derived.Test.YtjeckahbkepnpaaFlowUA
set_option linter.unusedVariables false
set_option linter.unusedSimpArgs false
namespace Go.Proofs.Ytjeckahbkepnpaa
open Go.RowKit Go.Maps Go.BigFrame

set_option maxRecDepth 100000 in
set_option maxHeartbeats 1000000 in
theorem take_ok {w : World} {b m1 m2 k : Nat} {s : Po} (h : PoAt w b m1 m2 s k) (t : Int) (ht : may t) (r : Nat) (hk : k ≤ 1000000) (hf : s.seek t (s.high + 1 - s.low) s.cur = some r) :
    Calls Try.prog 8 #[.pointer (some ⟨b, 0, none⟩), .int .i64 t] w fun e w' => e = .returned (.tuple #[.int .u16 (r : Int), .int .i64 0]) ∧ PoAt w' b m1 m2 (s.took r) (k + 1) ∧ Out (fun i => i = b ∨ i = m1 ∨ i = m2) w w' := by
  have hc0 := h.blk.cell 0
  have hc1 := h.blk.cell 1
  have hc2 := h.blk.cell 2
  have hc3 := h.blk.cell 3
  have hc4 := h.blk.cell 4
  simp [poCells] at hc0 hc1 hc2 hc3 hc4
  have hem := eq_map_p m1
  have hm := may_yes t ht.1 ht.2 w
  obtain ⟨q1, q2, q3, q4⟩ := h.lo
  obtain ⟨lo, hlo⟩ : ∃ x, x = s.low := ⟨_, rfl⟩
  obtain ⟨hi, hhi⟩ : ∃ x, x = s.high := ⟨_, rfl⟩
  obtain ⟨cu, hcu⟩ : ∃ x, x = s.cur := ⟨_, rfl⟩
  obtain ⟨R, hR⟩ : ∃ R : Option Nat, R = some r := ⟨_, rfl⟩
  rw [← hR] at hf
  rw [← hlo] at hc0 q1 q2 hf
  rw [← hhi] at hc1 q3 q4 hf
  rw [← hcu] at hc2 q2 q3 hf
  have H := Lib.hid h
  have HQ := Lib.hid hf
  clear h hf ht
  have Hlo := Lib.hid hlo
  clear hlo
  have Hhi := Lib.hid hhi
  clear hhi
  have Hcu := Lib.hid hcu
  clear hcu
  have HR := Lib.hid hR
  clear hR
  go_enter Try.func8, Try.ntmps8
  go_wp2
  go_step3
  go_wp2_with (go_at_call 11; with_reducible refine hm.mono ?_; rintro e w1 ⟨rfl, hw⟩; rw [hw]; clear hw)
  go_step3
  go_wp2
  go_quiet (fail)
  obtain ⟨W6, hW6⟩ : ∃ W6, W6 = w.drewN nq := ⟨_, rfl⟩
  have H6 : Hid (PoAt W6 b m1 m2 s k) := Lib.hid (by rw [hW6]; exact H.out.drewN nq)
  have d3 : W6.cell? ⟨b, 3, none⟩ = some (.map (some m1)) := by rw [hW6]; exact hc3
  have d4 : W6.cell? ⟨b, 4, none⟩ = some (.map (some m2)) := by rw [hW6]; exact hc4
  rw [← hW6]
  clear hc0 hc1 hc2 hc3 hc4
  have HW6 := Lib.hid hW6
  clear hW6
  go_wp2
  go_loopw [4, 5, 36] (fun v4 v5 v36 wr => ∃ (i p : Nat), v4 = .int .u16 p ∧ v5 = .int .i64 6 ∧ v36 = .int .i64 i ∧ lo ≤ p ∧ p ≤ hi ∧ i ≤ hi + 1 - lo ∧ wr = W6 ∧ Hid (s.seek t (hi + 1 - lo - i) p = R)) (fun _ _ v36 _ => hi + 1 - lo - (intOf v36).toNat)
  case atStart => exact ⟨0, cu, rfl, rfl, rfl, q2, q3, Nat.zero_le _, rfl, HQ⟩
  case round =>
    clear HQ
    obtain ⟨i, p, rfl, rfl, rfl, h1, h2, h3, rfl, HS⟩ := hrel
    have hp6 : p < 65536 := by omega
    by_cases hi3 : i < hi + 1 - lo
    · have hi3z : (i : Int) < (hi : Int) - (lo : Int) + 1 := by omega
      have hl1 := H6.out.look1 hp6
      have hl2 := H6.out.look2 hp6
      have hbh := behind_any H6.out.blk (by rw [← Hhi.out]; exact q4) p (by rw [← Hhi.out]; exact h2)
      have hn := nxt_in s (by rw [← Hlo.out, ← Hhi.out]; omega) p (by rw [← Hlo.out]; exact h1) (by rw [← Hhi.out]; exact h2)
      rw [← Hlo.out, ← Hhi.out] at hn
      have hst := seek_step s t (hi + 1 - lo - (i + 1)) p
      rw [show hi + 1 - lo - (i + 1) + 1 = hi + 1 - lo - i by omega, HS.out] at hst
      have hok : s.ok t p = (!s.L p && decide (s.U p ≤ t)) := rfl
      by_cases ho : s.ok t p = true
      · rw [if_pos ho, HR.out] at hst
        injection hst with hst
        subst hst
        rw [hok] at ho
        simp only [Bool.and_eq_true, Bool.not_eq_true', decide_eq_true_eq] at ho
        obtain ⟨hL, hut⟩ := ho
        rw [if_neg (by rw [hL]; decide)] at hl1
        obtain ⟨u, hu⟩ : ∃ u, u = s.U r := ⟨_, rfl⟩
        rw [← hu] at hl2 hut
        obtain ⟨x, hx⟩ : ∃ x, x = s.nxt r := ⟨_, rfl⟩
        rw [← hx] at hbh hn
        have HL := Lib.hid hL
        clear hL
        have Hx := Lib.hid hx
        clear hx
        have Hu := Lib.hid hu
        clear hu
        clear hok
        go_wp2
        obtain ⟨n1, M, hn1, hM, hML⟩ := H6.out.ml
        obtain ⟨n2, M2, hn2, hM2, hMU⟩ := H6.out.mu
        obtain ⟨nb1, nb2⟩ := H6.out.b_ne
        obtain ⟨q, st, hq⟩ := take_two (f := tkCells s m1 m2 x) (p := r) hM hM2.lt H6.out.ne nb1 hp6 (by rw [hML r hp6, if_neg (by rw [HL.out]; decide)]) (by simp only [maxLen]; omega)
        have hS0 : SThree q b 42 (tkCells s m1 m2 x) wr wr := ⟨Out.refl _ _, false, false, H6.out.blk⟩
        have ng1 : b ≠ q.b1 := by rw [hq.b1]; exact nb2
        have ng2 : b ≠ q.b2 := by rw [hq.b2]; exact nb1
        have ne : Nonempty (Cls (SThree q b 42 (tkCells s m1 m2 x) wr)) := ⟨⟨wr, hS0⟩⟩
        have k3 : ∀ y : Cls (SThree q b 42 (tkCells s m1 m2 x) wr), y.w.cell? ⟨b, 3, none⟩ = some (.map (some m1)) := fun y => by
          obtain ⟨b1, b2, hk⟩ := y.h.2
          have := hk.cell 3
          simpa [tkCells] using this
        have hbc : ∀ y : Cls (SThree q b 42 (tkCells s m1 m2 x) wr), Calls Try.prog 12 #[.pointer (some ⟨b, 0, none⟩), .int .u16 (r : Int)] y.w fun e w'' => e = .returned (.int .u16 (x : Int)) ∧ SThree q b 42 (tkCells s m1 m2 x) wr w'' ∧ RThree q b 42 (tkCells s m1 m2 x) 9 11 99999 14 8 y.w w'' := fun y => by
          obtain ⟨b1, b2, hk⟩ := y.h.2
          refine (behind_any (s := { s with cur := if b2 = true then x else s.cur }) hk (by rw [← Hhi.out]; exact q4) r (by rw [← Hhi.out]; exact h2)).mono ?_
          rintro e w'' ⟨rfl, rfl⟩
          exact ⟨by rw [Hx.out]; rfl, y.h, RThree.refl _ _⟩
        have cf : ∀ (vals : Array Value) (w : World), (callFunc 12 vals).run Try.prog w = .ok (.enter 12 vals) w := fun _ _ => by kernel_rfl
        have e9 := hq.e9
        have e11 := hq.e11
        have e14 := fun W (hS : SThree q b 42 (tkCells s m1 m2 x) wr W) => tkStore (fun _ => by kernel_rfl) hS
        have Hn2 := Lib.hid (And.intro ng1 ng2)
        have HMM := Lib.hid (And.intro hn1 hML)
        have E9 := Lib.hid e9
        clear e9
        have E11 := Lib.hid e11
        clear e11
        have E14 := Lib.hid e14
        clear e14
        have Hq := Lib.hid hq
        clear hq
        have HS0 := Lib.hid hS0
        clear hS0
        have Cf := Lib.hid cf
        clear cf
        have Hb := Lib.hid hbc
        clear hbc hM hML hn1 hM2 hMU hn2 ng1 ng2 nb1 nb2 hl1 hl2 hbh d3 d4
        refine wp_region_flowu 15 (SThree q b 42 (tkCells s m1 m2 x) wr) (RThree q b 42 (tkCells s m1 m2 x) 9 11 99999 14) (tkU q) (by kernel_rfl) (by kernel_rfl) (by kernel_rfl) RThree.refl (UThree.stays Hq.out.ok Hn2.out.1 Hn2.out.2 ⟨by decide, by decide⟩) Hq.out.u0 (HS0.out.below (below_n wr 1)) ?_
        simp only [List.take_succ_cons, List.take_zero, List.drop_succ_cons, List.drop_zero]
        repeat (first
          | (refine flowu_quiet RThree.refl rfl rfl rfl rfl ?_; intro K hK; go_big_quiet_op; go_big_quiet_on)
          | (refine flowu_nilCheck ⟨b, 0, none⟩ rfl RThree.refl rfl rfl rfl wr ?_; intro K hK; go_big_quiet_op; go_big_quiet_on)
          | (refine flowu_call Cf.out _ ?_ rfl rfl rfl _ Hb.out wr ?_; (focus (simp only [List.map_toArray, List.map_cons, List.map_nil]; rfl)); intro K hK; go_big_quiet_op; go_big_quiet_on))
        refine flowu_entry (.map (some m1)) (.int .u16 (r : Int)) rfl rfl (.tuple #[.int .i64 0, goInt st]) (F3 q) (F3.stays3 Hq.out.ok Hn2.out.1 Hn2.out.2) E9.out rfl rfl rfl wr ?_
        intro K hK; go_big_quiet_op; go_big_quiet_on
        refine flowu_quiet RThree.refl rfl rfl rfl rfl ?_; intro K hK; go_big_quiet_op; go_big_quiet_on
        refine flowu_entryStore [] (F4 q) (.map (some m1)) (goInt st) (fun f => .int .i64 1) (F4.stays3 Hq.out.ok Hn2.out.1 Hn2.out.2) (fun f => rfl) (fun f => rfl) (fun f => rfl) rfl (fun W f hS hN hut => by
          exact E11.out W hS (known_w hN 0 rfl rfl) hut) rfl rfl ?_
        repeat (first
          | (refine flowu_quiet RThree.refl rfl rfl rfl rfl ?_; intro K hK; go_big_quiet_op; go_big_quiet_on)
          | (refine flowu_nilCheck ⟨b, 0, none⟩ rfl RThree.refl rfl rfl rfl wr ?_; intro K hK; go_big_quiet_op; go_big_quiet_on))
        refine flowu_storeW (G2 b 42 (tkCells s m1 m2 x)) (.pointer (some ⟨b, 2, none⟩)) (.int .u16 (x : Int)) (G2.stays Hq.out.ok Hn2.out.1 Hn2.out.2 (tk_inj _ _ _ _)) (fun f => rfl) (fun f => rfl) (fun W hS _ => E14.out W hS) rfl rfl ?_
        refine flowu_nil ?_
        intro W f hW hF
        have h2 := hF _ (List.mem_cons_self)
        have h4 := hF _ (List.mem_cons_of_mem _ (List.mem_cons_self))
        clear hF
        simp only [List.map_nil] at h2 h4
        have hpost := take_end H6.out Hx.out ⟨by rw [← Hlo.out]; exact h1, by rw [← Hhi.out]; assumption⟩ HMM.out.1 HMM.out.2 hp6 Hq.out hW h4 h2
        have Hpost := Lib.hid hpost
        simp only [fillW, Act.put, List.setIfInBounds_toArray, List.set_cons_succ, List.set_cons_zero]
        clear hpost h2 h4 k3 ne hW
        go_wp2
        rw [Exit.noGoto_ret]
        go_ret2
        exact ⟨rfl, Hpost.out.1, Out.trans (Out.of_below (O := fun i => i = b ∨ i = m1 ∨ i = m2) (by rw [HW6.out]; exact below_drewN (Below.refl _ _) _)) Hpost.out.2 (fun _ _ e => e)⟩
      · rw [if_neg ho] at hst
        obtain ⟨x, hx⟩ : ∃ x, x = s.nxt p := ⟨_, rfl⟩
        rw [← hx] at hbh hn hst
        obtain ⟨u, hu⟩ : ∃ u, u = s.U p := ⟨_, rfl⟩
        rw [← hu] at hl2 hok
        cases hL : s.L p
        · rw [hL, if_neg (by decide)] at hl1
          rw [hL] at hok
          have hut : ¬ u ≤ t := fun h => ho (by rw [hok]; simp [h])
          clear ho hok
          have Hst := Lib.hid hst
          clear hst
          have Hx := Lib.hid hx
          clear hx
          have Hu := Lib.hid hu
          clear hu
          have HL := Lib.hid hL
          clear hL
          go_wp2_with (go_at_call 12; with_reducible refine hbh.mono ?_; rintro e w2 ⟨rfl, hw⟩; rw [hw]; clear hw)
          go_roundw
          case rel => exact ⟨i + 1, x, rfl, rfl, by go_num, hn.1, hn.2, by omega, by trivial, Lib.hid Hst.out.symm⟩
          case measure => simp [intOf]; omega
        · rw [hL, if_pos rfl] at hl1
          clear ho hok
          have Hst := Lib.hid hst
          clear hst
          have Hx := Lib.hid hx
          clear hx
          have Hu := Lib.hid hu
          clear hu
          have HL := Lib.hid hL
          clear hL
          go_wp2_with (go_at_call 12; with_reducible refine hbh.mono ?_; rintro e w2 ⟨rfl, hw⟩; rw [hw]; clear hw)
          go_roundw
          case rel => exact ⟨i + 1, x, rfl, rfl, by go_num, hn.1, hn.2, by omega, by trivial, Lib.hid Hst.out.symm⟩
          case measure => simp [intOf]; omega
    · exfalso
      have := HS.out
      rw [show hi + 1 - lo - i = 0 by omega, HR.out] at this
      cases this
end Go.Proofs.Ytjeckahbkepnpaa
