/- Contracts and plain lemmas: OptEach, OptDec, OptEnc, OptDecW. -/
import Derived.RangeFuncNested
import Derived.RangeFuncBound
import Derived.RangeFuncCalls
import Derived.RangeFuncLeaves
import Derived.RangeFuncBox
import Derived.Shelf.Abstract
import Derived.Shelf.RegionOpen
import Derived.OwnWalkIn
import Derived.TacticsInMore
import Derived.LoopNIn
import Derived.LoopIn
import Derived.Sort.CutIn
import Derived.Test.YtengegcnocdkoaaRc9
import Derived.Test.YtengegcnocdkoaaRc5
set_option linter.unusedVariables false
set_option linter.unusedSimpArgs false
set_option linter.unusedSectionVars false
section
set_option maxRecDepth 20000
namespace Go.Proofs.Ytengegcnocdkoaa
open Go.RowKit Go.BigFrame Go.Shelf
attribute [local go_sem] Oper.semAt_some
/-- what a round keeps: what lay below n₀, and each box of a string -/
def KeepsS (n₀ : Nat) (A B : World) : Prop := Below n₀ A B ∧ ∀ (i : Nat) (cs : Array Value), Blk A i 9 cs → Blk B i 9 cs
theorem KeepsS.trans {n₀ : Nat} {A B C : World} (h : KeepsS n₀ A B) (k : KeepsS n₀ B C) : KeepsS n₀ A C := ⟨h.1.trans k.1, fun i cs e => k.2 i cs (h.2 i cs e)⟩
theorem KeepsS.refl (n₀ : Nat) (A : World) : KeepsS n₀ A A := ⟨Below.refl _ _, fun i cs e => e⟩
theorem KeepsS.of_below {n₀ : Nat} {A B : World} (hn : n₀ ≤ A.heap.size) (h : Below A.heap.size A B) : KeepsS n₀ A B := ⟨h.mono hn, fun i cs e => e.below h e.lt⟩
theorem KeepsS.putObj {n₀ : Nat} {w : World} (hn : n₀ ≤ w.heap.size) (W : World) (l : Nat) (o o' : Obj) (hl : w.heap.size ≤ l) (h : W.heap[l]? = some o) (hc : o.isCells = false) (hw : o.isWalk = false) : KeepsS n₀ W (W.putObj l o') :=
  ⟨belowK_b hn W l o o' hl h hc hw, fun i cs e => (World.putObj_heap_other (by rintro rfl; unfold Blk at e; rw [h] at e; cases e; cases hc)).trans e⟩
/-- a place that the bytes have -/
def InP (L : List UInt8) (p : Nat × Nat) : Prop := p ∈ placesAt L 0
abbrev PV (L : List UInt8) := { p : Nat × Nat // OkP L p ∧ InP L p }
theorem each_in (s : ByteArray) (w : World) :
    CallsIn Fence.wide 2 Try.prog 75 #[.string s] w fun e w' => e = .returned (.func (.func 94) #[] #[.pointer (some ⟨w.heap.size, 0, none⟩)]) ∧ w' = w.alloc (.cells #[.string s] 9) := by
  refine callsIn_of_wp Try.func75 rfl trivial ?_ rfl
  simp only [Try.ntmps75, List.size_toArray, List.length_cons, List.length_nil, Nat.reduceAdd, Nat.reduceSub, Array.replicate_succ, Array.replicate_zero, List.push_toArray, List.append_toArray, List.nil_append, List.cons_append]
  have hmf : ∀ (fn : Fn) (first cap : Array Value) (w : World), (Instr.makeFunc fn first cap).run Try.prog w = .ok (.func fn first cap) w := fun _ _ _ _ => rfl
  gi_wp2
  go_ret
  exact ⟨rfl, rfl⟩
theorem index_at (x : ByteArray) (j : Nat) (h : j < x.data.toList.length) (W : World) : (Instr.index 9 (.string x) (.int .i64 (j : Int))).run Try.prog W = .ok (.int .u8 ((byteN x.data.toList j : Nat) : Int)) W := by
  have hl : j < x.size := by simpa using h
  rw [run_index_string W 9 x .i64 _ Try.underlying9, dif_pos ⟨by omega, by omega⟩]
  unfold byteN
  rw [List.getElem?_eq_getElem h, Option.getD_some]
  rfl
set_option maxRecDepth 100000 in
set_option maxHeartbeats 8000000 in
theorem each1_in (n₀ Bs : Nat) (x : ByteArray) (L : List UInt8) (hx : x.data.toList = L) (hm : L.length ≤ 1000) (l : Nat) (J Jx : List (PV L) → World → Prop)
    (W : World) (hW : n₀ ≤ W.heap.size) (hJ : AbidesFrom W.heap.size J)
    (hY : ∀ pre x W1, J pre W1 → pre.length < (placesAt L 0).length → YieldAt Fence.wide 1 Try.prog l #[.int .i64 (x.1.1 : Int), .int .i64 (x.1.2 : Int)] W1 fun e W' =>
      (e = .returned (.bool true) ∧ J (pre ++ [x]) W' ∧ KeepsS n₀ W1 W') ∨ (e = .returned (.bool false) ∧ Jx (pre ++ [x]) W'))
    (hBs : Blk W Bs 9 #[.string x]) (h0 : J [] W) :
    CallsIn Fence.wide 2 Try.prog 94 #[.func (.yield l) #[] #[], .pointer (some ⟨Bs, 0, none⟩)] W fun e W' => (∃ v, e = .returned v) ∧
      ((∃ ys : List (PV L), ys.map (·.1) = placesAt L 0 ∧ J ys W') ∨ (∃ pre : List (PV L), pre.map (·.1) <+: placesAt L 0 ∧ Jx pre W')) := by
  have hsz : x.size = L.length := by rw [← hx]; simp
  refine callsIn_of_wp Try.func94 rfl trivial ?_ rfl
  simp only [Try.ntmps94, List.size_toArray, List.length_cons, List.length_nil, Nat.reduceAdd, Nat.reduceSub, Array.replicate_succ, Array.replicate_zero, List.push_toArray, List.append_toArray, List.nil_append, List.cons_append]
  have Hx := Lib.hid hx
  have Hsz := Lib.hid hsz
  clear hx hsz
  gi_wp2
  gi_loopw [3, 4] (fun i m wr => ∃ (k : Nat) (pre : List (PV L)), k ≤ L.length ∧ i = .int .i64 (k : Int) ∧ pre.map (·.1) ++ placesAt L k = placesAt L 0 ∧ J pre wr ∧ KeepsS n₀ W wr)
    (fun i _ _ => L.length - (intOf i).toNat)
  case atStart => exact ⟨0, [], Nat.zero_le _, rfl, rfl, h0, KeepsS.refl _ _⟩
  case round =>
    obtain ⟨k, pre, hk, rfl, hp, hj, hb⟩ := hrel
    have hsz := Hsz.out
    have hbs := hb.2 _ _ hBs
    have cB := hbs.cell 0
    simp at cB
    have hle : n₀ ≤ wr.heap.size := Nat.le_trans hW hb.1.size
    have ne : Nonempty (Cls (Fresh wr)) := ⟨⟨wr, Below.refl _ _⟩⟩
    by_cases h1 : k < L.length
    · have j1 : (k : Int) < (L.length : Int) := by omega
      have hix := fun W => index_at x k (by rw [Hx.out]; exact h1) W
      rw [Hx.out] at hix
      obtain ⟨b, hbe⟩ : ∃ b, b = byteN L k := ⟨_, rfl⟩
      rw [← hbe] at hix
      have hb256 : b < 256 := by rw [hbe]; exact byteN_lt _ _
      by_cases hb0 : b = 0
      · have t1 : ((b : Int) != 0) = false := by rw [hb0]; rfl
        have t2 : ((b : Int) == 0) = true := by rw [hb0]; rfl
        have hpl : placesAt L k = [] := places_end (by rw [← hbe, hb0]; simp)
        rw [hpl, List.append_nil] at hp
        have Hp := Lib.hid hp
        clear hp
        have Hpl := Lib.hid hpl
        clear hpl
        have Hbe := Lib.hid hbe
        clear hbe
        have Hb0 := Lib.hid hb0
        clear hb0
        clear hY ne hb hbs hle
        gi_wp2
        first | go_end0 | refine bodyPost_ret (results_none rfl _ _ _) rfl ?_
        exact ⟨⟨_, rfl⟩, .inl ⟨pre, Hp.out, hj⟩⟩
      have t1 : ((b : Int) != 0) = true := by simp; omega
      have t0 : ((b : Int) == 0) = false := by simp; omega
      by_cases hb1 : b = 1
      · have t2 : ((b : Int) == 1) = true := by rw [hb1]; rfl
        have hpl : placesAt L k = placesAt L (k + 1) := places_one h1 (by rw [← hbe, hb1])
        rw [hpl] at hp
        have Hp := Lib.hid hp
        clear hp
        have Hpl := Lib.hid hpl
        clear hpl
        have Hbe := Lib.hid hbe
        clear hbe
        have Hb1 := Lib.hid hb1
        clear hb1
        have Hb0 := Lib.hid hb0
        clear hb0
        clear hY ne hbs hle
        gi_wp2
        go_roundw
        case rel => exact ⟨k + 1, pre, by omega, by go_num, Hp.out, hj, hb⟩
        case measure => simp [intOf]; omega
      have t2 : ((b : Int) == 1) = false := by simp; omega
      have hkb0 : byteN L k ≠ 0 := by rw [← hbe]; exact hb0
      have hkb1 : byteN L k ≠ 1 := by rw [← hbe]; exact hb1
      have kB : ∀ y : Cls (Fresh wr), y.w.cell? ⟨Bs, 0, none⟩ = some (.string x) := fun y => (by have := (hbs.below y.h hbs.lt).cell 0; simpa using this)
      have hS0 : Fresh wr wr := Below.refl _ _
      have cf : ∀ (vals : Array Value) (w : World), (callFunc 95 vals).run Try.prog w = .ok (.enter 95 vals) w := fun _ _ => by kernel_rfl
      obtain ⟨c, hce⟩ : ∃ c, c = byteN L (k + 1) := ⟨_, rfl⟩
      have hc256 : c < 256 := by rw [hce]; exact byteN_lt _ _
      have m1 : ∀ y : Cls (Fresh wr), Calls Try.prog 95 #[.int .u8 (b : Int), .int .i64 (c : Int)] y.w fun e w'' => e = .returned (.bool (longB b c)) ∧ Fresh wr w'' ∧ Below y.w.heap.size y.w w'' := fun y => (long_any b c y.w hb256).mono fun e w' ⟨he, hb⟩ => ⟨he, Fresh.below y.h hb, hb⟩
      by_cases hgood : stepN L k = 0
      · have hpl : placesAt L k = [(k, 0)] := places_bad h1 hkb0 hkb1 hgood
        have hok : OkP L (k, 0) ∧ InP L (k, 0) := ⟨⟨h1, hkb0, hkb1, hgood.symm⟩, by unfold InP; rw [← hp, hpl]; simp⟩
        have hlen : pre.length < (placesAt L 0).length := by rw [← hp, hpl]; simp
        have hbad : ¬ (k + 1 < L.length ∧ longB b c = true ∧ k + c ≤ L.length) := by
          rintro ⟨h2, h3, h4⟩
          have h5 := longB_two h3
          unfold stepN at hgood
          rw [← hbe, ← hce, if_pos ⟨h2, h3, h4⟩] at hgood
          omega
        by_cases h2 : k + 1 < L.length
        · have j2 : (k : Int) + 1 < (L.length : Int) := by omega
          have hix2 := fun W => index_at x (k + 1) (by rw [Hx.out]; exact h2) W
          rw [Hx.out, ← hce, show ((k + 1 : Nat) : Int) = (k : Int) + 1 by omega] at hix2
          cases h3 : longB b c with
          | false =>
            rw [h3] at m1
            have Cf := Lib.hid cf
            clear cf
            have M1 := Lib.hid m1
            clear m1
            have Hbe := Lib.hid hbe
            clear hbe
            have Hce := Lib.hid hce
            clear hce
            have Hb0 := Lib.hid hb0
            clear hb0
            have Hb1 := Lib.hid hb1
            clear hb1
            have Hkb0 := Lib.hid hkb0
            clear hkb0
            have Hkb1 := Lib.hid hkb1
            clear hkb1
            have Hgood := Lib.hid hgood
            clear hgood
            have Hbad := Lib.hid hbad
            clear hbad
            have H3 := Lib.hid h3
            clear h3
            gi_upto_region 5 with fail
            refine wpIn_wide.2 ?_
            refine wp_region_flow 28 (Fresh wr) (fun w w' => Below w.heap.size w w') (by kernel_rfl) (by kernel_rfl) (by kernel_rfl) (fun w => Below.refl _ _) (Fresh.below hS0 (Below.drew (Below.refl _ _))) ?_
            simp only [List.take_succ_cons, List.take_zero, List.drop_succ_cons, List.drop_zero]
            repeat (first
              | (refine flow_skip rfl rfl wr ?_; intro K hK; go_big_quiet_op; go_big_quiet_on)
              | (refine flow_quiet (fun w => Below.refl _ _) rfl rfl rfl rfl ?_; intro K hK; go_big_quiet_op; go_big_quiet_on)
              | (refine flow_call Cf.out _ ?_ rfl rfl rfl _ M1.out wr ?_; (focus (simp only [List.map_toArray, List.map_cons, List.map_nil]; rfl)); intro K hK; go_big_quiet_op; go_big_quiet_on))
            refine flow_nil ?_
            intro W5 ff hW5 hF5
            simp only [fillW]
            simp only [wpList, Exit.then]
            go_at_K
            clear hF5
            have hj5 : J pre W5 := hJ _ _ _ none hj (only_of_below hW5 none) (by simp)
            have hb5 : KeepsS n₀ W W5 := hb.trans (KeepsS.of_below hle hW5)
            have cB5 := (hbs.below hW5 hbs.lt).cell 0
            simp at cB5
            clear kB cB hj hb hbs hle ne hS0 hW5
            obtain ⟨fn, tmps, assign, body, hy, hR⟩ := hY pre ⟨(k, 0), hok⟩ W5 hj5 hlen
            dsimp only at hy
            rw [show ((0 : Nat) : Int) = 0 from rfl] at hy
            have HP := Lib.hid hp
            have HPL := Lib.hid hpl
            have HK := Lib.hid hb5
            clear hY hlen hp hpl hb5 hj5
            gi_wp2
            refine hR.mono ?_
            rintro e W3 (⟨rfl, hJ3, hk3⟩ | ⟨rfl, hJx3⟩)
            · clear hy hR
              gi_wp2
              first | go_end0 | refine bodyPost_ret (results_none rfl _ _ _) rfl ?_
              refine ⟨⟨_, rfl⟩, .inl ⟨_, ?_, hJ3⟩⟩
              rw [List.map_append, ← HP.out, HPL.out]
              rfl
            · clear hy hR
              gi_wp2
              first | go_end0 | refine bodyPost_ret (results_none rfl _ _ _) rfl ?_
              refine ⟨⟨_, rfl⟩, .inr ⟨_, ?_, hJx3⟩⟩
              rw [List.map_append, ← HP.out, HPL.out]
              exact List.prefix_rfl
          | true =>
            rw [h3] at m1
            have h4 : ¬ (k : Int) + (c : Int) ≤ (L.length : Int) := by
              intro h4
              exact hbad ⟨h2, h3, by omega⟩
            have Cf := Lib.hid cf
            clear cf
            have M1 := Lib.hid m1
            clear m1
            have Hbe := Lib.hid hbe
            clear hbe
            have Hce := Lib.hid hce
            clear hce
            have Hb0 := Lib.hid hb0
            clear hb0
            have Hb1 := Lib.hid hb1
            clear hb1
            have Hkb0 := Lib.hid hkb0
            clear hkb0
            have Hkb1 := Lib.hid hkb1
            clear hkb1
            have Hgood := Lib.hid hgood
            clear hgood
            have Hbad := Lib.hid hbad
            clear hbad
            have H3 := Lib.hid h3
            clear h3
            gi_upto_region 5 with fail
            refine wpIn_wide.2 ?_
            refine wp_region_flow 28 (Fresh wr) (fun w w' => Below w.heap.size w w') (by kernel_rfl) (by kernel_rfl) (by kernel_rfl) (fun w => Below.refl _ _) (Fresh.below hS0 (Below.drew (Below.refl _ _))) ?_
            simp only [List.take_succ_cons, List.take_zero, List.drop_succ_cons, List.drop_zero]
            repeat (first
              | (refine flow_skip rfl rfl wr ?_; intro K hK; go_big_quiet_op; go_big_quiet_on)
              | (refine flow_quiet (fun w => Below.refl _ _) rfl rfl rfl rfl ?_; intro K hK; go_big_quiet_op; go_big_quiet_on)
              | (refine flow_call Cf.out _ ?_ rfl rfl rfl _ M1.out wr ?_; (focus (simp only [List.map_toArray, List.map_cons, List.map_nil]; rfl)); intro K hK; go_big_quiet_op; go_big_quiet_on))
            refine flow_nil ?_
            intro W5 ff hW5 hF5
            simp only [fillW]
            simp only [wpList, Exit.then]
            go_at_K
            clear hF5
            have hj5 : J pre W5 := hJ _ _ _ none hj (only_of_below hW5 none) (by simp)
            have hb5 : KeepsS n₀ W W5 := hb.trans (KeepsS.of_below hle hW5)
            have cB5 := (hbs.below hW5 hbs.lt).cell 0
            simp at cB5
            clear kB cB hj hb hbs hle ne hS0 hW5
            obtain ⟨fn, tmps, assign, body, hy, hR⟩ := hY pre ⟨(k, 0), hok⟩ W5 hj5 hlen
            dsimp only at hy
            rw [show ((0 : Nat) : Int) = 0 from rfl] at hy
            have HP := Lib.hid hp
            have HPL := Lib.hid hpl
            have HK := Lib.hid hb5
            clear hY hlen hp hpl hb5 hj5
            gi_wp2
            refine hR.mono ?_
            rintro e W3 (⟨rfl, hJ3, hk3⟩ | ⟨rfl, hJx3⟩)
            · clear hy hR
              gi_wp2
              first | go_end0 | refine bodyPost_ret (results_none rfl _ _ _) rfl ?_
              refine ⟨⟨_, rfl⟩, .inl ⟨_, ?_, hJ3⟩⟩
              rw [List.map_append, ← HP.out, HPL.out]
              rfl
            · clear hy hR
              gi_wp2
              first | go_end0 | refine bodyPost_ret (results_none rfl _ _ _) rfl ?_
              refine ⟨⟨_, rfl⟩, .inr ⟨_, ?_, hJx3⟩⟩
              rw [List.map_append, ← HP.out, HPL.out]
              exact List.prefix_rfl
        · have j2 : ¬ (k : Int) + 1 < (L.length : Int) := by omega
          have Cf := Lib.hid cf
          clear cf
          have M1 := Lib.hid m1
          clear m1
          have Hbe := Lib.hid hbe
          clear hbe
          have Hce := Lib.hid hce
          clear hce
          have Hb0 := Lib.hid hb0
          clear hb0
          have Hb1 := Lib.hid hb1
          clear hb1
          have Hkb0 := Lib.hid hkb0
          clear hkb0
          have Hkb1 := Lib.hid hkb1
          clear hkb1
          have Hgood := Lib.hid hgood
          clear hgood
          have Hbad := Lib.hid hbad
          clear hbad
          gi_upto_region 5 with fail
          refine wpIn_wide.2 ?_
          refine wp_region_flow 28 (Fresh wr) (fun w w' => Below w.heap.size w w') (by kernel_rfl) (by kernel_rfl) (by kernel_rfl) (fun w => Below.refl _ _) (Fresh.below hS0 (Below.drew (Below.refl _ _))) ?_
          simp only [List.take_succ_cons, List.take_zero, List.drop_succ_cons, List.drop_zero]
          repeat (first
            | (refine flow_skip rfl rfl wr ?_; intro K hK; go_big_quiet_op; go_big_quiet_on)
            | (refine flow_quiet (fun w => Below.refl _ _) rfl rfl rfl rfl ?_; intro K hK; go_big_quiet_op; go_big_quiet_on)
            | (refine flow_call Cf.out _ ?_ rfl rfl rfl _ M1.out wr ?_; (focus (simp only [List.map_toArray, List.map_cons, List.map_nil]; rfl)); intro K hK; go_big_quiet_op; go_big_quiet_on))
          refine flow_nil ?_
          intro W5 ff hW5 hF5
          simp only [fillW]
          simp only [wpList, Exit.then]
          go_at_K
          clear hF5
          have hj5 : J pre W5 := hJ _ _ _ none hj (only_of_below hW5 none) (by simp)
          have hb5 : KeepsS n₀ W W5 := hb.trans (KeepsS.of_below hle hW5)
          have cB5 := (hbs.below hW5 hbs.lt).cell 0
          simp at cB5
          clear kB cB hj hb hbs hle ne hS0 hW5
          obtain ⟨fn, tmps, assign, body, hy, hR⟩ := hY pre ⟨(k, 0), hok⟩ W5 hj5 hlen
          dsimp only at hy
          rw [show ((0 : Nat) : Int) = 0 from rfl] at hy
          have HP := Lib.hid hp
          have HPL := Lib.hid hpl
          have HK := Lib.hid hb5
          clear hY hlen hp hpl hb5 hj5
          gi_wp2
          refine hR.mono ?_
          rintro e W3 (⟨rfl, hJ3, hk3⟩ | ⟨rfl, hJx3⟩)
          · clear hy hR
            gi_wp2
            first | go_end0 | refine bodyPost_ret (results_none rfl _ _ _) rfl ?_
            refine ⟨⟨_, rfl⟩, .inl ⟨_, ?_, hJ3⟩⟩
            rw [List.map_append, ← HP.out, HPL.out]
            rfl
          · clear hy hR
            gi_wp2
            first | go_end0 | refine bodyPost_ret (results_none rfl _ _ _) rfl ?_
            refine ⟨⟨_, rfl⟩, .inr ⟨_, ?_, hJx3⟩⟩
            rw [List.map_append, ← HP.out, HPL.out]
            exact List.prefix_rfl
      · obtain ⟨h2, h3, h4, h5, h6⟩ := stepN_pos hgood
        have hpl : placesAt L k = (k, c) :: placesAt L (k + c) := by
          have := places_cons h1 hkb0 hkb1 hgood
          rwa [h5, ← hce] at this
        have hok : OkP L (k, c) ∧ InP L (k, c) := ⟨⟨h1, hkb0, hkb1, by rw [hce, ← h5]⟩, by unfold InP; rw [← hp, hpl]; simp⟩
        have hlen : pre.length < (placesAt L 0).length := by rw [← hp, hpl]; simp
        rw [← hbe, ← hce] at h3
        rw [h5, ← hce] at h4
        rw [h5, ← hce] at h6
        rw [h3] at m1
        have j2 : (k : Int) + 1 < (L.length : Int) := by omega
        have j3 : (k : Int) + (c : Int) ≤ (L.length : Int) := by omega
        have hix2 := fun W => index_at x (k + 1) (by rw [Hx.out]; exact h2) W
        rw [Hx.out, ← hce, show ((k + 1 : Nat) : Int) = (k : Int) + 1 by omega] at hix2
        have t3 : ((c : Int) == 0) = false := by simp; omega
        have Cf := Lib.hid cf
        clear cf
        have M1 := Lib.hid m1
        clear m1
        have Hbe := Lib.hid hbe
        clear hbe
        have Hce := Lib.hid hce
        clear hce
        have Hb0 := Lib.hid hb0
        clear hb0
        have Hb1 := Lib.hid hb1
        clear hb1
        have Hkb0 := Lib.hid hkb0
        clear hkb0
        have Hkb1 := Lib.hid hkb1
        clear hkb1
        have Hgood := Lib.hid hgood
        clear hgood
        have H3 := Lib.hid h3
        clear h3
        have H5 := Lib.hid h5
        clear h5
        gi_upto_region 5 with fail
        refine wpIn_wide.2 ?_
        refine wp_region_flow 28 (Fresh wr) (fun w w' => Below w.heap.size w w') (by kernel_rfl) (by kernel_rfl) (by kernel_rfl) (fun w => Below.refl _ _) (Fresh.below hS0 (Below.drew (Below.refl _ _))) ?_
        simp only [List.take_succ_cons, List.take_zero, List.drop_succ_cons, List.drop_zero]
        repeat (first
          | (refine flow_skip rfl rfl wr ?_; intro K hK; go_big_quiet_op; go_big_quiet_on)
          | (refine flow_quiet (fun w => Below.refl _ _) rfl rfl rfl rfl ?_; intro K hK; go_big_quiet_op; go_big_quiet_on)
          | (refine flow_call Cf.out _ ?_ rfl rfl rfl _ M1.out wr ?_; (focus (simp only [List.map_toArray, List.map_cons, List.map_nil]; rfl)); intro K hK; go_big_quiet_op; go_big_quiet_on))
        refine flow_nil ?_
        intro W5 ff hW5 hF5
        simp only [fillW]
        simp only [wpList, Exit.then]
        go_at_K
        clear hF5
        have hj5 : J pre W5 := hJ _ _ _ none hj (only_of_below hW5 none) (by simp)
        have hb5 : KeepsS n₀ W W5 := hb.trans (KeepsS.of_below hle hW5)
        have cB5 := (hbs.below hW5 hbs.lt).cell 0
        simp at cB5
        clear kB cB hj hb hbs hle ne hS0 hW5
        obtain ⟨fn, tmps, assign, body, hy, hR⟩ := hY pre ⟨(k, c), hok⟩ W5 hj5 hlen
        dsimp only at hy
        have HP := Lib.hid hp
        have HPL := Lib.hid hpl
        have HK := Lib.hid hb5
        clear hY hlen hp hpl hb5 hj5
        gi_wp2
        refine hR.mono ?_
        rintro e W3 (⟨rfl, hJ3, hk3⟩ | ⟨rfl, hJx3⟩)
        · clear hy hR
          gi_wp2
          go_roundw
          case rel =>
            refine ⟨k + c, _, by omega, by go_num, ?_, hJ3, HK.out.trans hk3⟩
            rw [List.map_append, List.append_assoc, ← HP.out, HPL.out]
            rfl
          case measure => simp [intOf]; omega
        · clear hy hR
          gi_wp2
          first | go_end0 | refine bodyPost_ret (results_none rfl _ _ _) rfl ?_
          refine ⟨⟨_, rfl⟩, .inr ⟨_, ?_, hJx3⟩⟩
          rw [List.map_append, ← HP.out, HPL.out]
          exact ⟨placesAt L (k + c), by simp⟩
    · have hpl : placesAt L k = [] := places_end (by rintro ⟨h, _⟩; exact h1 h)
      have j1 : ¬ (k : Int) < (L.length : Int) := by omega
      rw [hpl, List.append_nil] at hp
      have Hp := Lib.hid hp
      clear hp
      have Hpl := Lib.hid hpl
      clear hpl
      clear hY ne hb hbs hle
      gi_wp2
      first | go_end0 | refine bodyPost_ret (results_none rfl _ _ _) rfl ?_
      exact ⟨⟨_, rfl⟩, .inl ⟨pre, Hp.out, hj⟩⟩
theorem each_stops (n₀ Bs : Nat) (x : ByteArray) (L : List UInt8) (hx : x.data.toList = L) (hm : L.length ≤ 1000) (w : World) (hw : n₀ ≤ w.heap.size) (hBs : Blk w Bs 9 #[.string x]) :
    SeqStopsK Fence.wide 2 Try.prog 94 #[.pointer (some ⟨Bs, 0, none⟩)] (fun x : PV L => #[Value.int .i64 (x.1.1 : Int), Value.int .i64 (x.1.2 : Int)]) (KeepsS n₀) (fun ys => ys.map (·.1) = placesAt L 0) (fun pre => pre.map (·.1) <+: placesAt L 0) (placesAt L 0).length w :=
  fun l J Jx W hW hJ _ hY h0 => by
    refine (each1_in n₀ Bs x L hx hm l J Jx W (Nat.le_trans hw hW.size) hJ hY (hBs.below hW hBs.lt) h0).mono ?_
    rintro e W' ⟨he, h | ⟨pre, hp, hx⟩⟩
    · exact ⟨he, .inl h⟩
    · exact ⟨he, .inr ⟨pre, hp, hx⟩⟩
end Go.Proofs.Ytengegcnocdkoaa
end
section
set_option maxRecDepth 20000
namespace Go.Proofs.Ytengegcnocdkoaa
open Go.RowKit Go.BigFrame Go.Shelf Go.Maps
theorem none_any (w : World) : Calls Try.prog 26 #[] w fun e w' => e = .returned (.agg #[.int .u16 0, .int .i64 (-1), .bool false, .slice none 0 0, .bool false, .int .u32 0, .int .u32 0]) ∧ Below w.heap.size w w' := by
  have hb0 : Below w.heap.size w w := Below.refl _ _
  have HB := Lib.hid hb0
  clear hb0
  go_enter Try.func26, Try.ntmps26
  go_upto_region 1 with fail
  have hr := Blk.new w 28 #[.int .u16 0, .int .i64 0, .bool false, .slice none 0 0, .bool false, .int .u32 0, .int .u32 0]
  have hB := HB.out.alloc HB.out.size (.cells #[.int .u16 0, .int .i64 0, .bool false, .slice none 0 0, .bool false, .int .u32 0, .int .u32 0] 28)
  clear HB
  obtain ⟨gr, hge⟩ : ∃ g, g = w.heap.size := ⟨_, rfl⟩
  rw [← hge] at hr ⊢
  have hle_r : w.heap.size ≤ gr := by omega
  clear hge
  generalize w.alloc _ = wn1 at *
  have Hr := Lib.hid hr
  clear hr
  have HB := Lib.hid hB
  clear hB
  have d0 := Hr.out.cell 0
  have d1 := Hr.out.cell 1
  have d2 := Hr.out.cell 2
  have d3 := Hr.out.cell 3
  have d4 := Hr.out.cell 4
  have d5 := Hr.out.cell 5
  have d6 := Hr.out.cell 6
  simp at d0 d1 d2 d3 d4 d5 d6
  have fr := Hr.out.frozen
  go_wp2
  generalize hWf : World.setCell _ _ _ = Wf
  have hf : Blk Wf gr 28 #[.int .u16 0, .int .i64 (-1), .bool false, .slice none 0 0, .bool false, .int .u32 0, .int .u32 0] := by
    rw [← hWf]
    have := ((((((Hr.out.set_ 0 (.int .u16 0)).set_ 1 (.int .i64 (-1))).set_ 2 (.bool false)).set_ 3 (.slice none 0 0)).set_ 4 (.bool false)).set_ 5 (.int .u32 0)).set_ 6 (.int .u32 0)
    simpa using this
  have hBf : Below w.heap.size w Wf := by
    rw [← hWf]
    repeat (refine Below.setCell ?_ hle_r _)
    exact HB.out
  clear hWf d0 d1 d2 d3 d4 d5 d6 fr
  have z0 := hf.cell 0
  have z1 := hf.cell 1
  have z2 := hf.cell 2
  have z3 := hf.cell 3
  have z4 := hf.cell 4
  have z5 := hf.cell 5
  have z6 := hf.cell 6
  simp at z0 z1 z2 z3 z4 z5 z6
  exact bodyPost_ret (v := .agg #[.int .u16 0, .int .i64 (-1), .bool false, .slice none 0 0, .bool false, .int .u32 0, .int .u32 0]) (by simp [results, Try.results26, go_sem, z0, z1, z2, z3, z4, z5, z6]) rfl ⟨rfl, hBf⟩
/-- which kinds were met -/
def metM (met : List Nat) : Lit → Option Value := fun kl => match kl with
  | .int .u8 i => if 0 ≤ i ∧ i.toNat ∈ met then some (.int .i64 1) else none
  | _ => none
theorem lawU8o : Keyed Try.prog 5 := int_keyed Try.underlying5
theorem keyU8o {n : Nat} (h : n < 256) : keyOf Try.prog 5 (.int .u8 (n : Int)) = some (.int .u8 (n : Int)) := keyOf_int_mk Try.underlying5 (by simp [Lit.wf, IntKind.min, IntKind.max, IntKind.signed, IntKind.bits]; omega)
theorem zeroInt (w : World) : (zeroValue 3).run Try.prog w = .ok (.int .i64 0) w := by kernel_rfl
theorem metM_at (met : List Nat) (n : Nat) : metM met (.int .u8 (n : Int)) = if n ∈ met then some (.int .i64 1) else none := by
  simp [metM]
theorem metM_upd (met : List Nat) (n : Nat) : updM (metM met) (.int .u8 (n : Int)) (some (.int .i64 1)) = metM (n :: met) := by
  funext kl
  by_cases h : kl = .int .u8 (n : Int)
  · subst h
    rw [updM_same, metM_at, if_pos List.mem_cons_self]
  · rw [updM_other _ _ h]
    cases kl with
    | int k i =>
      cases k with
      | u8 =>
        simp only [metM, List.mem_cons]
        by_cases hi : 0 ≤ i
        · have hne : i.toNat ≠ n := fun e => h (by rw [← e, Int.toNat_of_nonneg hi])
          simp [hi, hne]
        · simp [hi]
      | _ => rfl
    | _ => rfl
def blkC (p : Int × Int) : List Value := [.int .u32 p.1, .int .u32 p.2]
def optV (o : Op) (v : Value) : Array Value := #[.int .u16 (o.mss : Int), .int .i64 o.scale, .bool o.sack, v, .bool o.time, .int .u32 (o.val : Int), .int .u32 (o.echo : Int)]
/-- options in a block, their blocks in a row of the call's own -/
def OptAt (base go : Nat) (W : World) (o : Op) : Prop := ∃ v, W.ownsRow base 92 2 v o.bl.length (o.bl.flatMap blkC) ∧ Blk W go 28 (optV o v)
def DecI (w : World) (gs go ge gb gm : Nat) (x : ByteArray) (L : List UInt8) (pre : List (PV L)) (W : World) : Prop :=
  Below w.heap.size w W ∧ Blk W gs 9 #[.string x] ∧ Blk W ge 33 #[.int .i64 0] ∧ Blk W gb 107 #[.map (some gm)] ∧
    ∃ o met n, foldD L (pre.map (·.1)) (noneO, []) = some (o, met) ∧ OptAt w.heap.size go W o ∧ MapIs Try.prog 5 W gm n (metM met) ∧ n ≤ pre.length
def zeroV : Array Value := #[.int .u16 0, .int .i64 0, .bool false, .slice none 0 0, .bool false, .int .u32 0, .int .u32 0]
def DecX (w : World) (go ge : Nat) (L : List UInt8) (c : Code) (pre : List (PV L)) (W : World) : Prop :=
  c = .ret ∧ Below w.heap.size w W ∧ foldD L (pre.map (·.1)) (noneO, []) = none ∧ Blk W go 28 zeroV ∧ Blk W ge 33 #[.int .i64 70]
theorem blk_notrow {W W' : World} {row : Option Nat} {g : Nat} {t : TypeId} {cs : Array Value} (h : Blk W g t cs) (hg : W.grownBy W' row) (hr : ∀ r, row = some r → ∃ o : Obj, W.heap[r]? = some o ∧ o.isCells = false) : Blk W' g t cs :=
  h.grown hg (fun e => by
    obtain ⟨o, h1, h2⟩ := hr g e.symm
    rw [show W.heap[g]? = _ from h] at h1
    cases h1
    cases h2)
theorem own_notrow {W W' : World} {row : Option Nat} {base n size : Nat} {e : TypeId} {v : Value} {xs : List Value} (h : W.ownsRow base e size v n xs) (hg : W.grownBy W' row) (hr : ∀ r, row = some r → ∃ o : Obj, W.heap[r]? = some o ∧ o.isCells = false) : W'.ownsRow base e size v n xs := by
  refine h.kept hg ?_
  rcases h.2 with ⟨rfl, _⟩ | ⟨g, cap, cur, rfl, _, hgg, _⟩
  · exact .inl rfl
  · refine .inr (fun he => ?_)
    obtain ⟨o, h1, h2⟩ := hr g he.symm
    rw [hgg] at h1
    cases h1
    cases h2
theorem DecI.own {w w0 : World} {gs go ge gb gm : Nat} {x : ByteArray} {L : List UInt8} {B : Nat} (hw : w.heap.size ≤ B) (hgm : gm < B) : OwnFrom B (DecI w gs go ge gb gm x L) := by
  intro pre W W' row ⟨h1, h2, h3, h4, o, met, n, h5, ⟨v, h6, h7⟩, h8, h9⟩ hg hr
  have hr2 : ∀ r, row = some r → ∃ o : Obj, W.heap[r]? = some o ∧ o.isCells = false := fun r e => (hr r e).2
  refine ⟨ownFrom_below (Nat.le_refl _) hw pre W W' row h1 hg hr, blk_notrow h2 hg hr2, blk_notrow h3 hg hr2, blk_notrow h4 hg hr2, o, met, n, h5, ⟨v, own_notrow h6 hg hr2, blk_notrow h7 hg hr2⟩, h8.kept hg (fun e => ?_), h9⟩
  have := (hr gm e.symm).1
  omega
theorem DecX.own {w : World} {go ge : Nat} {L : List UInt8} {B : Nat} (hw : w.heap.size ≤ B) (c : Code) : OwnFrom B (DecX w go ge L c) := by
  intro pre W W' row ⟨h0, h1, h2, h3, h4⟩ hg hr
  have hr2 : ∀ r, row = some r → ∃ o : Obj, W.heap[r]? = some o ∧ o.isCells = false := fun r e => (hr r e).2
  exact ⟨h0, ownFrom_below (Nat.le_refl _) hw pre W W' row h1 hg hr, h2, blk_notrow h3 hg hr2, blk_notrow h4 hg hr2⟩
theorem keepsFrom_out {O : Nat → Prop} {B : Nat} {W W' : World} (h : Out O W W') (hO : ∀ i, O i → i < B ∨ ∃ cs t d, W.heap[i]? = some (.cells cs t d)) : KeepsFrom B W W' :=
  ⟨h.size, fun k o hB hk ho => (h.block k (Array.getElem?_eq_some_iff.1 hk).1 (fun hOk => by
    rcases hO k hOk with h1 | ⟨cs, t, d, h1⟩
    · omega
    · rw [hk] at h1; cases h1; cases ho)).trans hk⟩
theorem own_cells {W : World} {base n size : Nat} {e : TypeId} {v : Value} {xs : List Value} (h : W.ownsRow base e size v n xs) {i : Nat} (hi : v.ownBlock = some i) : base ≤ i ∧ ∃ cs, W.heap[i]? = some (.cells cs e (0, 0)) := by
  rcases h.2 with ⟨rfl, _⟩ | ⟨g, cap, cur, rfl, hb, hgg, _⟩
  · cases hi
  · cases hi
    exact ⟨hb, cur, hgg⟩
theorem map_not_blk {P : Program} {k : TypeId} {W : World} {b n g : Nat} {M : Lit → Option Value} {t : TypeId} {cs : Array Value} (h : MapIs P k W b n M) (hb : Blk W g t cs) : g ≠ b := by
  rintro rfl
  obtain ⟨es, cl, h1, _⟩ := h.size
  rw [show W.heap[g]? = _ from hb] at h1
  cases h1
/-- what a round may turn -/
def DecO (go gm : Nat) (v : Value) : Nat → Prop := fun i => i = go ∨ i = gm ∨ v.ownBlock = some i
theorem dec_next {w W W' : World} {gs go ge gb gm B n : Nat} {x : ByteArray} {L : List UInt8} {v : Value} {l : List (Int × Int)} {cs : Array Value} {M : Lit → Option Value} {pre' : List (PV L)}
    (hB : Below w.heap.size w W) (hs : Blk W gs 9 #[.string x]) (he : Blk W ge 33 #[.int .i64 0]) (hb : Blk W gb 107 #[.map (some gm)])
    (hv : W.ownsRow w.heap.size 92 2 v l.length (l.flatMap blkC)) (ho : Blk W go 28 cs) (hM : MapIs Try.prog 5 W gm n M)
    (h1 : w.heap.size ≤ go) (h2 : w.heap.size ≤ gm) (h3 : go < B) (h4 : gm < B) (hout : Out (DecO go gm v) W W')
    (hnew : ∃ o met n, foldD L (pre'.map (·.1)) (noneO, []) = some (o, met) ∧ OptAt w.heap.size go W' o ∧ MapIs Try.prog 5 W' gm n (metM met) ∧ n ≤ pre'.length) :
    KeepsFrom B W W' ∧ KeepsS w.heap.size W W' ∧ DecI w gs go ge gb gm x L pre' W' := by
  have hbase : ∀ i, DecO go gm v i → w.heap.size ≤ i := by
    rintro i (rfl | rfl | h)
    · exact h1
    · exact h2
    · exact (own_cells hv h).1
  have hty : ∀ {g : Nat} {t : TypeId} {cs' : Array Value}, Blk W g t cs' → t ≠ 28 → t ≠ 92 → Blk W' g t cs' := by
    intro g t cs' hg h5 h6
    refine (hout.block g hg.lt ?_).trans hg
    rintro (rfl | rfl | h)
    · have ho2 : W.heap[g]? = _ := ho
      rw [show W.heap[g]? = _ from hg] at ho2
      injection ho2 with e
      injection e with _ e
      exact h5 e
    · exact map_not_blk hM hg rfl
    · obtain ⟨_, c, hc⟩ := own_cells hv h
      rw [show W.heap[g]? = _ from hg] at hc
      injection hc with e
      injection e with _ e
      exact h6 e
  have hbw : Below w.heap.size W W' := hout.below hB.size (fun i hi h => by have := hbase i h; omega)
  refine ⟨keepsFrom_out hout ?_, ⟨hbw, fun i cs' hi => hty hi (by decide) (by decide)⟩, hB.trans hbw, hty hs (by decide) (by decide), hty he (by decide) (by decide), hty hb (by decide) (by decide), hnew⟩
  rintro i (rfl | rfl | h)
  · exact .inl h3
  · exact .inl h4
  · obtain ⟨_, c, hc⟩ := own_cells hv h
    exact .inr ⟨_, _, _, hc⟩
theorem dec_stop {w W W' : World} {go ge gm B : Nat} {L : List UInt8} {v : Value} {l : List (Int × Int)} {pre' : List (PV L)}
    (hB : Below w.heap.size w W) (hv : W.ownsRow w.heap.size 92 2 v l.length (l.flatMap blkC))
    (h1 : w.heap.size ≤ go) (h2 : w.heap.size ≤ gm) (h5 : w.heap.size ≤ ge) (h3 : go < B) (h4 : gm < B) (h6 : ge < B) (hout : Out (fun i => DecO go gm v i ∨ i = ge) W W')
    (hf : foldD L (pre'.map (·.1)) (noneO, []) = none) (ho : Blk W' go 28 zeroV) (he : Blk W' ge 33 #[.int .i64 70]) :
    KeepsFrom B W W' ∧ DecX w go ge L .ret pre' W' := by
  have hbase : ∀ i, (DecO go gm v i ∨ i = ge) → w.heap.size ≤ i := by
    rintro i ((rfl | rfl | h) | rfl)
    · exact h1
    · exact h2
    · exact (own_cells hv h).1
    · exact h5
  have hbw : Below w.heap.size W W' := hout.below hB.size (fun i hi h => by have := hbase i h; omega)
  refine ⟨keepsFrom_out hout ?_, rfl, hB.trans hbw, hf, ho, he⟩
  rintro i ((rfl | rfl | h) | rfl)
  · exact .inl h3
  · exact .inl h4
  · obtain ⟨_, c, hc⟩ := own_cells hv h
    exact .inr ⟨_, _, _, hc⟩
  · exact .inl h6
theorem places_len (L : List UInt8) : ∀ (f i : Nat), (placesF f L i).length ≤ f := by
  intro f
  induction f with
  | zero => intro i; simp [placesF]
  | succ f ih =>
    intro i
    simp only [placesF]
    split
    · split
      · have := ih (i + 1); omega
      · rw [List.length_cons]
        split
        · simp
        · have := ih (i + stepN L i); omega
    · simp
theorem blocksF_eq : ∀ (f g : Nat) (B : List UInt8), B.length ≤ f → B.length ≤ g → blocksF f B = blocksF g B := by
  intro f
  induction f with
  | zero =>
    intro g B h _
    have : B = [] := List.length_eq_zero_iff.1 (by omega)
    subst this
    cases g <;> simp [blocksF]
  | succ f ih =>
    intro g B hf hg
    cases g with
    | zero =>
      have : B = [] := List.length_eq_zero_iff.1 (by omega)
      subst this
      simp [blocksF]
    | succ g =>
      simp only [blocksF]
      by_cases hB : B = []
      · rw [if_pos hB, if_pos hB]
      · rw [if_neg hB, if_neg hB]
        have hl : 0 < B.length := List.length_pos_iff.2 hB
        rw [ih g (B.drop 8) (by rw [List.length_drop]; omega) (by rw [List.length_drop]; omega)]
def blocksL (B : List UInt8) : List (Int × Int) := blocksF B.length B
theorem blocksL_nil : blocksL [] = [] := rfl
theorem blocksL_step {B : List UInt8} (h : B ≠ []) : blocksL B = (((numL (B.take 4) : Nat) : Int), ((numL ((B.drop 4).take 4) : Nat) : Int)) :: blocksL (B.drop 8) := by
  have hl : 0 < B.length := List.length_pos_iff.2 h
  obtain ⟨n, hn⟩ : ∃ n, B.length = n + 1 := ⟨B.length - 1, by omega⟩
  unfold blocksL
  rw [hn]
  simp only [blocksF]
  rw [if_neg h]
  congr 1
  exact blocksF_eq _ _ _ (by rw [List.length_drop]; omega) (Nat.le_refl _)
theorem infoBo : (Try.prog.info? 92).map (fun i => (i.zero, i.size, i.bytes)) = some (some (.agg #[.int .u32 0, .int .u32 0]), 2, 8) := by kernel_rfl
theorem foldD_append (L : List UInt8) (l m : List (Nat × Nat)) (st : Op × List Nat) : foldD L (l ++ m) st = (foldD L l st).bind fun s => foldD L m s := by
  unfold foldD
  rw [List.foldlM_append]
  rfl
theorem blocksF_len : ∀ (f : Nat) (B : List UInt8), (blocksF f B).length ≤ f := by
  intro f
  induction f with
  | zero => intro B; simp [blocksF]
  | succ f ih =>
    intro B
    simp only [blocksF]
    split
    · simp
    · rw [List.length_cons]
      have := ih (B.drop 8)
      omega
theorem body_len (L : List UInt8) (p : Nat × Nat) : (bodyL L p).length ≤ L.length := by
  unfold bodyL
  rw [List.length_take, List.length_drop]
  omega
theorem takeP_bl {L : List UInt8} {o o2 : Op} {p : Nat × Nat} (h : takeP L o p = some o2) : o2.bl.length ≤ o.bl.length + L.length := by
  unfold takeP at h
  simp only at h
  split at h
  · split at h
    · cases h
    · cases h; simp
  split at h
  · cases h; simp
  split at h
  · cases h; simp
  split at h
  · cases h; simp
  split at h
  · cases h
    have h1 := blocksF_len (bodyL L p).length (bodyL L p)
    have h2 := body_len L p
    simp only [List.length_append]
    omega
  · cases h; simp
theorem fold_bl (L : List UInt8) : ∀ (l : List (Nat × Nat)) (st : Op × List Nat) (o : Op) (met : List Nat), foldD L l st = some (o, met) → o.bl.length ≤ st.1.bl.length + L.length * l.length := by
  intro l
  induction l with
  | nil =>
    intro st o met h
    have : some st = some (o, met) := h
    cases this
    simp
  | cons p l ih =>
    intro st o met h
    have h1 : (stepD L st p).bind (fun s => foldD L l s) = some (o, met) := by
      unfold foldD at h
      rw [List.foldlM_cons] at h
      exact h
    cases hs : stepD L st p with
    | none => rw [hs] at h1; cases h1
    | some s2 =>
      rw [hs] at h1
      have h2 := ih s2 o met h1
      unfold stepD at hs
      split at hs
      · cases hs
      · cases ht : takeP L st.1 p with
        | none => rw [ht] at hs; cases hs
        | some o2 =>
          rw [ht] at hs
          cases hs
          have h3 := takeP_bl ht
          simp only [List.length_cons] at *
          rw [Nat.mul_succ]
          omega
end Go.Proofs.Ytengegcnocdkoaa
end
section
set_option maxRecDepth 20000
namespace Go.Proofs.Ytengegcnocdkoaa
open Go.RowKit Go.BigFrame
def encR (o : Op) : ByteArray × Int := if mayB o = true then (⟨(rawL o).toArray⟩, 0) else (⟨#[]⟩, 2)
theorem mayB_parts {o : Op} (h : mayB o = true) : -1 ≤ o.scale ∧ o.scale ≤ 14 ∧ o.bl.length ≤ 4 ∧ (rawL o).length ≤ 40 := by
  unfold mayB at h
  simp only [Bool.and_eq_true, decide_eq_true_eq] at h
  exact ⟨h.1, h.2.1, h.2.2.1, h.2.2.2.2⟩
set_option maxHeartbeats 2000000 in
theorem enc_any (w : World) (o : Op) (A : Option Addr) (c : Nat) (ho : o.wf) (hr : BlR w A o.bl) (hn : o.bl.length ≤ 1000) :
    Calls Try.prog 27 #[.agg (optC o A c)] w fun e w' => e = .returned (.tuple #[.string (encR o).1, .int .i64 (encR o).2]) ∧ Below w.heap.size w w' := by
  have hmy := fun W (h : BlR W A o.bl) => may_any W o A c ho h hn
  have hrw := fun (h : mayB o = true) W (h2 : BlR W A o.bl) => raw_any W o A c (ho.ok (mayB_parts h).1 (mayB_parts h).2.1) h2 (mayB_parts h).2.2.1
  have hE : encR o = if mayB o = true then (⟨(rawL o).toArray⟩, 0) else (⟨#[]⟩, 2) := rfl
  generalize encR o = E at *
  obtain ⟨R, hR⟩ : ∃ R, R = (⟨(rawL o).toArray⟩ : ByteArray) := ⟨_, rfl⟩
  rw [← hR] at hE
  simp only [← hR] at hrw
  generalize mayB o = mb at *
  have hb0 : Below w.heap.size w w := Below.refl _ _
  have HB := Lib.hid hb0
  clear hb0 hn ho
  unfold optC at *
  generalize (o.mss : Int) = m at *
  generalize (o.val : Int) = vl at *
  generalize (o.echo : Int) = ec at *
  generalize o.scale = sc at *
  generalize o.sack = sk at *
  generalize o.time = tm at *
  generalize hl : o.bl = l at *
  generalize l.length = n at *
  clear hl
  have Hmy := Lib.hid hmy
  clear hmy
  have Hrw := Lib.hid hrw
  clear hrw
  have HE := Lib.hid hE
  clear hE
  have HR := Lib.hid hR
  clear hR
  have Hr := Lib.hid hr
  clear hr
  go_enter Try.func27, Try.ntmps27
  go_upto_region 1 with fail
  have hq := Blk.new w 28 #[.int .u16 m, .int .i64 sc, .bool sk, .slice A n c, .bool tm, .int .u32 vl, .int .u32 ec]
  have hB := HB.out.alloc HB.out.size (.cells #[.int .u16 m, .int .i64 sc, .bool sk, .slice A n c, .bool tm, .int .u32 vl, .int .u32 ec] 28)
  clear HB
  obtain ⟨gq, hge⟩ : ∃ g, g = w.heap.size := ⟨_, rfl⟩
  rw [← hge] at hq ⊢
  clear hge
  generalize w.alloc _ = w1 at *
  have Hq := Lib.hid hq
  clear hq
  have HB := Lib.hid hB
  clear hB
  have c0 := Hq.out.cell 0
  have c1 := Hq.out.cell 1
  have c2 := Hq.out.cell 2
  have c3 := Hq.out.cell 3
  have c4 := Hq.out.cell 4
  have c5 := Hq.out.cell 5
  have c6 := Hq.out.cell 6
  simp at c0 c1 c2 c3 c4 c5 c6
  go_wp2_with fail
  (with_reducible refine (Hmy.out _ (Hr.out.below HB.out)).mono ?_)
  rintro e w2 ⟨rfl, hbq⟩
  have hq := Hq.out.below hbq Hq.out.lt
  clear Hq
  have Hq := Lib.hid hq
  clear hq
  have hB := HB.out.trans (hbq.mono HB.out.size)
  clear HB
  have HB := Lib.hid hB
  clear hB
  clear hbq
  cases mb with
  | false =>
    go_wp2
    go_ret2
    have e : E = (⟨#[]⟩, 2) := HE.out
    rw [e]
    exact ⟨rfl, HB.out⟩
  | true =>
    clear c0 c1 c2 c3 c4 c5 c6
    have d0 := Hq.out.cell 0
    have d1 := Hq.out.cell 1
    have d2 := Hq.out.cell 2
    have d3 := Hq.out.cell 3
    have d4 := Hq.out.cell 4
    have d5 := Hq.out.cell 5
    have d6 := Hq.out.cell 6
    simp at d0 d1 d2 d3 d4 d5 d6
    go_wp2_with fail
    (with_reducible refine (Hrw.out trivial _ (Hr.out.below HB.out)).mono ?_)
    rintro e w3 ⟨rfl, hbq⟩
    have hq := Hq.out.below hbq Hq.out.lt
    clear Hq
    have Hq := Lib.hid hq
    clear hq
    have hB := HB.out.trans (hbq.mono HB.out.size)
    clear HB
    have HB := Lib.hid hB
    clear hB
    clear hbq
    go_wp2
    go_ret2
    have e : E = (R, 0) := HE.out
    rw [e]
    exact ⟨rfl, HB.out⟩
set_option maxHeartbeats 2000000 in
theorem oright_any (k n : Nat) (w : World) : Calls Try.prog 96 #[.int .i64 (k : Int), .int .i64 (n : Int)] w fun e w' => e = .returned (.bool (longB k n)) ∧ w = w' := by
  by_cases h2 : k = 2
  · subst h2
    have hv : longB 2 n = ((n : Int) == 4) := by
      rw [Bool.eq_iff_iff]
      simp [longB]
      omega
    have Hv := Lib.hid hv
    clear hv
    go_enter Try.func96, Try.ntmps96
    go_wp2
    go_ret
    exact ⟨ret_bool Hv.out.symm, rfl⟩
  by_cases h3 : k = 3
  · subst h3
    have hv : longB 3 n = ((n : Int) == 3) := by
      rw [Bool.eq_iff_iff]
      simp [longB]
      omega
    have Hv := Lib.hid hv
    clear hv
    go_enter Try.func96, Try.ntmps96
    go_wp2
    go_ret
    exact ⟨ret_bool Hv.out.symm, rfl⟩
  by_cases h4 : k = 4
  · subst h4
    have hv : longB 4 n = ((n : Int) == 2) := by
      rw [Bool.eq_iff_iff]
      simp [longB]
      omega
    have Hv := Lib.hid hv
    clear hv
    go_enter Try.func96, Try.ntmps96
    go_wp2
    go_ret
    exact ⟨ret_bool Hv.out.symm, rfl⟩
  by_cases h5 : k = 5
  · subst h5
    by_cases a0 : n = 10
    · have hv : longB 5 n = true := by rw [a0]; rfl
      have e0 : ((n : Int) == 10) = true := by simp; omega
      have Hv := Lib.hid hv
      clear hv
      clear a0
      go_enter Try.func96, Try.ntmps96
      go_wp2
      go_ret
      exact ⟨ret_bool Hv.out.symm, rfl⟩
    by_cases a1 : n = 18
    · have hv : longB 5 n = true := by rw [a1]; rfl
      have e1 : ((n : Int) == 18) = true := by simp; omega
      have f0 : ((n : Int) == 10) = false := by simp; omega
      have Hv := Lib.hid hv
      clear hv
      clear a0
      clear a1
      go_enter Try.func96, Try.ntmps96
      go_wp2
      go_ret
      exact ⟨ret_bool Hv.out.symm, rfl⟩
    by_cases a2 : n = 26
    · have hv : longB 5 n = true := by rw [a2]; rfl
      have e2 : ((n : Int) == 26) = true := by simp; omega
      have f0 : ((n : Int) == 10) = false := by simp; omega
      have f1 : ((n : Int) == 18) = false := by simp; omega
      have Hv := Lib.hid hv
      clear hv
      clear a0
      clear a1
      clear a2
      go_enter Try.func96, Try.ntmps96
      go_wp2
      go_ret
      exact ⟨ret_bool Hv.out.symm, rfl⟩
    have hv : longB 5 n = ((n : Int) == 34) := by
      rw [Bool.eq_iff_iff]
      simp [longB]
      omega
    have f0 : ((n : Int) == 10) = false := by simp; omega
    have f1 : ((n : Int) == 18) = false := by simp; omega
    have f2 : ((n : Int) == 26) = false := by simp; omega
    have Hv := Lib.hid hv
    clear hv
    clear a0 a1 a2
    go_enter Try.func96, Try.ntmps96
    go_wp2
    go_ret
    exact ⟨ret_bool Hv.out.symm, rfl⟩
  by_cases h8 : k = 8
  · subst h8
    have hv : longB 8 n = ((n : Int) == 10) := by
      rw [Bool.eq_iff_iff]
      simp [longB]
      omega
    have Hv := Lib.hid hv
    clear hv
    go_enter Try.func96, Try.ntmps96
    go_wp2
    go_ret
    exact ⟨ret_bool Hv.out.symm, rfl⟩
  have hv : longB k n = decide (2 ≤ (n : Int)) := by
    unfold longB
    rw [if_neg h2, if_neg h3, if_neg h4, if_neg h5, if_neg h8]
    simp
    omega
  have g2 : ((k : Int) == 2) = false := by simp; omega
  have g3 : ((k : Int) == 3) = false := by simp; omega
  have g4 : ((k : Int) == 4) = false := by simp; omega
  have g5 : ((k : Int) == 5) = false := by simp; omega
  have g8 : ((k : Int) == 8) = false := by simp; omega
  have Hv := Lib.hid hv
  clear hv
  clear h2 h3 h4 h5 h8
  go_enter Try.func96, Try.ntmps96
  go_wp2
  go_ret
  exact ⟨ret_bool Hv.out.symm, rfl⟩
end Go.Proofs.Ytengegcnocdkoaa
end
section
set_option maxRecDepth 20000
namespace Go.Proofs.Ytengegcnocdkoaa
open Go.RowKit Go.BigFrame Go.Shelf Go.Maps
attribute [local go_sem] Oper.semAt_some
def zeroO : Op := ⟨0, 0, false, [], false, 0, 0⟩
def decR (L : List UInt8) : Op × Int := if 40 < L.length then (zeroO, 4) else match decL L with
  | none => (zeroO, 70)
  | some o => (o, 0)
/-- a row that was not there before -/
def NewA (w : World) (A : Option Addr) : Prop := ∀ ad, A = some ad → w.heap.size ≤ ad.block
def DecPost (w : World) (L : List UInt8) (e : Ending) (w' : World) : Prop :=
  ∃ (r : Op) (A : Option Addr) (c : Nat) (code : Int), e = .returned (.tuple #[.agg (optC r A c), .int .i64 code]) ∧ (BlR w' A r.bl ∧ NewA w A) ∧ Below w.heap.size w w' ∧ (r, code) = decR L
theorem blkC_at (l : List (Int × Int)) : ∀ j p, l[j]? = some p → (l.flatMap blkC)[j * 2]? = some (.int .u32 p.1) ∧ (l.flatMap blkC)[j * 2 + 1]? = some (.int .u32 p.2) := by
  induction l with
  | nil => intro j p h; simp at h
  | cons q l ih =>
    intro j p h
    cases j with
    | zero => simp at h; subst h; simp [blkC]
    | succ j =>
      have h2 := ih j p (by simpa using h)
      rw [show (j + 1) * 2 = j * 2 + 1 + 1 by omega, show j * 2 + 1 + 1 + 1 = (j * 2 + 1) + 1 + 1 by omega]
      simpa [blkC] using h2
theorem own_newA {W : World} {base E k m n c : Nat} {A : Option Addr} {xs : List Value} (h : W.ownsRow base E k (.slice A n c) m xs) : ∀ ad, A = some ad → base ≤ ad.block := by
  rintro ad rfl
  exact (h.lt ad.block rfl).1
theorem own_blrC {w' : World} {base : Nat} {v : Value} {l : List (Int × Int)} (h : w'.ownsRow base 92 2 v l.length (l.flatMap blkC)) : ∃ A c, v = .slice A l.length c ∧ BlR w' A l := by
  rcases h.2 with ⟨h1, h2⟩ | ⟨g, cap, cur, h1, _, h2, _⟩
  · refine ⟨none, 0, ?_, .inl (List.length_eq_zero_iff.1 h2)⟩
    rw [h1, h2]
  · subst h1
    refine ⟨_, _, rfl, .inr ⟨g, 0, rfl, (Array.getElem?_eq_some_iff.1 h2).1, fun j p hj => ?_⟩⟩
    have hc := h.cells (g := g) rfl
    have had : ∀ k, (⟨g, 0, none⟩ : Addr).add k = ⟨g, 0 + k, none⟩ := by intro k; unfold Addr.add; split <;> simp_all
    obtain ⟨k1, k2⟩ := blkC_at l j p hj
    have a1 := hc _ _ k1
    have a2 := hc _ _ k2
    rw [had] at a1 a2
    exact ⟨a1, a2⟩
set_option maxRecDepth 100000 in
set_option maxHeartbeats 20000000 in
theorem dec_in (x : ByteArray) (L : List UInt8) (hx : x.data.toList = L) (hm : L.length ≤ 40) (w : World) :
    CallsIn Fence.wide 3 Try.prog 42 #[.string x] w (DecPost w L) := by
  have hsz : x.size = L.length := by rw [← hx]; simp
  have j1 : ¬ (40 : Int) < (L.length : Int) := by omega
  have hmk : ∀ W, (Instr.makeMap 107 none).run Try.prog W = .ok (.map (some W.heap.size)) (W.alloc (.map #[] 0)) := fun _ => by kernel_rfl
  refine callsIn_of_wp_marks Try.func42 rfl trivial ?_ rfl
  simp only [Try.ntmps42, List.size_toArray, List.length_cons, List.length_nil, Nat.reduceAdd, Nat.reduceSub, Array.replicate_succ, Array.replicate_zero, List.push_toArray, List.append_toArray, List.nil_append, List.cons_append]
  have hb0 : Below w.heap.size w w := Below.refl _ _
  have HB := Lib.hid hb0
  clear hb0
  gi_upto_region 3 with fail
  have hs := Blk.alloc (Blk.alloc (Blk.new w 9 #[.string x]) (.cells #[.int .u16 0, .int .i64 0, .bool false, .slice none 0 0, .bool false, .int .u32 0, .int .u32 0] 28)) (.cells #[.int .i64 0] 33)
  have ho := Blk.alloc (Blk.new (w.alloc (.cells #[.string x] 9)) 28 #[.int .u16 0, .int .i64 0, .bool false, .slice none 0 0, .bool false, .int .u32 0, .int .u32 0]) (.cells #[.int .i64 0] 33)
  rw [show (w.alloc (.cells #[.string x] 9)).heap.size = w.heap.size + 1 by simp] at ho
  have he := Blk.new ((w.alloc (.cells #[.string x] 9)).alloc (.cells #[.int .u16 0, .int .i64 0, .bool false, .slice none 0 0, .bool false, .int .u32 0, .int .u32 0] 28)) 33 #[.int .i64 0]
  rw [show ((w.alloc (.cells #[.string x] 9)).alloc (.cells #[.int .u16 0, .int .i64 0, .bool false, .slice none 0 0, .bool false, .int .u32 0, .int .u32 0] 28)).heap.size = w.heap.size + 2 by simp] at he
  have hB := Below.alloc (Below.alloc (Below.alloc (HB.out) (Nat.le_trans HB.out.size (by simp <;> omega)) (.cells #[.string x] 9)) (Nat.le_trans HB.out.size (by simp <;> omega)) (.cells #[.int .u16 0, .int .i64 0, .bool false, .slice none 0 0, .bool false, .int .u32 0, .int .u32 0] 28)) (Nat.le_trans HB.out.size (by simp <;> omega)) (.cells #[.int .i64 0] 33)
  clear HB
  obtain ⟨ge, hgee⟩ : ∃ g, g = w.heap.size + 2 := ⟨_, rfl⟩
  rw [← hgee] at he ⊢
  obtain ⟨go, hgeo⟩ : ∃ g, g = w.heap.size + 1 := ⟨_, rfl⟩
  rw [← hgeo] at ho ⊢
  obtain ⟨gs, hges⟩ : ∃ g, g = w.heap.size := ⟨_, rfl⟩
  rw [← hges] at hs ⊢
  have hne_s_o : gs ≠ go := by omega
  have hne_s_e : gs ≠ ge := by omega
  have hne_o_e : go ≠ ge := by omega
  have hle_s : w.heap.size ≤ gs := by omega
  have hle_o : w.heap.size ≤ go := by omega
  have hle_e : w.heap.size ≤ ge := by omega
  clear hges hgeo hgee
  generalize ((w.alloc _).alloc _).alloc _ = wn1 at *
  have Hs := Lib.hid hs
  clear hs
  have Ho := Lib.hid ho
  clear ho
  have He := Lib.hid he
  clear he
  have HB := Lib.hid hB
  clear hB
  gi_wp2_with fail
  refine ⟨trivial, ?_⟩
  refine (callsIn_wide.2 (none_any _)).mono ?_
  rintro e w1 ⟨rfl, hbq⟩
  have hs := Hs.out.below hbq Hs.out.lt
  clear Hs
  have Hs := Lib.hid hs
  clear hs
  have ho := Ho.out.below hbq Ho.out.lt
  clear Ho
  have Ho := Lib.hid ho
  clear ho
  have he := He.out.below hbq He.out.lt
  clear He
  have He := Lib.hid he
  clear he
  have hB := HB.out.trans (hbq.mono HB.out.size)
  clear HB
  have HB := Lib.hid hB
  clear hB
  clear hbq
  have d0 := Ho.out.cell 0
  have d1 := Ho.out.cell 1
  have d2 := Ho.out.cell 2
  have d3 := Ho.out.cell 3
  have d4 := Ho.out.cell 4
  have d5 := Ho.out.cell 5
  have d6 := Ho.out.cell 6
  simp at d0 d1 d2 d3 d4 d5 d6
  have fr := Ho.out.frozen
  gi_upto_region 4 with fail
  generalize hWf : World.setCell _ _ _ = W2
  have ho2 : Blk W2 go 28 #[.int .u16 0, .int .i64 (-1), .bool false, .slice none 0 0, .bool false, .int .u32 0, .int .u32 0] := by
    rw [← hWf]
    have := ((((((Ho.out.set_ 0 (.int .u16 0)).set_ 1 (.int .i64 (-1))).set_ 2 (.bool false)).set_ 3 (.slice none 0 0)).set_ 4 (.bool false)).set_ 5 (.int .u32 0)).set_ 6 (.int .u32 0)
    simpa using this
  have hg2 : w1.grownBy W2 (some go) := by
    rw [← hWf]
    repeat (refine only_set ?_ _ _)
    exact World.grownBy.refl _ _
  have hs2 := Hs.out.grown hg2 (fun e => hne_s_o (Option.some.inj e))
  have he2 := He.out.grown hg2 (fun e => hne_o_e (Option.some.inj e).symm)
  have hB2 := below_only HB.out hg2 hle_o HB.out.size
  clear d0 d1 d2 d3 d4 d5 d6 fr hWf hg2 Hs Ho He HB
  gi_upto_region 5 with fail
  have hM3 : MapIs Try.prog 5 ((W2.alloc (.map #[] 0)).alloc (.cells #[.map (some W2.heap.size)] 107)) W2.heap.size 0 (metM []) := ((MapIs.made Try.prog 5 W2).congr (by funext kl; cases kl with | int k i => cases k <;> simp [metM] | _ => rfl) rfl).alloc _
  have hb3 : Blk ((W2.alloc (.map #[] 0)).alloc (.cells #[.map (some W2.heap.size)] 107)) (W2.heap.size + 1) 107 #[.map (some W2.heap.size)] := by have := Blk.new (W2.alloc (.map #[] 0)) 107 #[.map (some W2.heap.size)]; rwa [World.size_alloc] at this
  have hs3 := Blk.alloc (Blk.alloc hs2 (.map #[] 0)) (.cells #[.map (some W2.heap.size)] 107)
  have ho3 := Blk.alloc (Blk.alloc ho2 (.map #[] 0)) (.cells #[.map (some W2.heap.size)] 107)
  have he3 := Blk.alloc (Blk.alloc he2 (.map #[] 0)) (.cells #[.map (some W2.heap.size)] 107)
  have hB3 := (hB2.alloc hB2.size (.map #[] 0)).alloc (Nat.le_trans hB2.size (by simp)) (.cells #[.map (some W2.heap.size)] 107)
  have hz3 : ((W2.alloc (.map #[] 0)).alloc (.cells #[.map (some W2.heap.size)] 107)).heap.size = W2.heap.size + 2 := by simp
  have hgs2 := hs2.lt
  have hgo2 := ho2.lt
  have hge2 := he2.lt
  have hwm : w.heap.size ≤ W2.heap.size := hB2.size
  obtain ⟨gm, hgm⟩ : ∃ g, g = W2.heap.size := ⟨_, rfl⟩
  obtain ⟨gb, hgb⟩ : ∃ g, g = W2.heap.size + 1 := ⟨_, rfl⟩
  clear hs2 ho2 he2 hB2
  rw [← hgb] at hb3 ⊢
  rw [← hgm] at hM3 hb3 hs3 ho3 he3 hB3 hz3 hgs2 hgo2 hge2 hwm hgb ⊢
  generalize (W2.alloc (.map #[] 0)).alloc _ = W3 at *
  clear hgm
  have cs3 := hs3.cell 0
  simp at cs3
  have HM3 := Lib.hid hM3
  clear hM3
  have Hb3 := Lib.hid hb3
  clear hb3
  have Hs3 := Lib.hid hs3
  clear hs3
  have Ho3 := Lib.hid ho3
  clear ho3
  have He3 := Lib.hid he3
  clear he3
  have HB3 := Lib.hid hB3
  clear hB3
  have Hgs2 := Lib.hid hgs2
  clear hgs2
  have Hgo2 := Lib.hid hgo2
  clear hgo2
  have Hge2 := Lib.hid hge2
  clear hge2
  have Hwm := Lib.hid hwm
  clear hwm
  have Hgb := Lib.hid hgb
  clear hgb
  have Hz3 := Lib.hid hz3
  clear hz3
  gi_wp2_with (refine ⟨trivial, ?_⟩; gi_at_call 75; refine (each_in _ _).mono ?_; rintro e w' ⟨rfl, rfl⟩)
  have hB4 := HB3.out.alloc HB3.out.size (.cells #[.string x] 9)
  have hz4 := Blk.new W3 9 #[.string x]
  have hs4 := Blk.alloc Hs3.out (.cells #[.string x] 9)
  have ho4 := Blk.alloc Ho3.out (.cells #[.string x] 9)
  have he4 := Blk.alloc He3.out (.cells #[.string x] 9)
  have hb4 := Blk.alloc Hb3.out (.cells #[.string x] 9)
  have hM4 := HM3.out.alloc (.cells #[.string x] 9)
  have hgz : W3.heap.size = gm + 2 := Hz3.out
  obtain ⟨gz, hgze⟩ : ∃ g, g = W3.heap.size := ⟨_, rfl⟩
  rw [← hgze] at hz4 hgz ⊢
  have hsz4 : (W3.alloc (.cells #[.string x] 9)).heap.size = gz + 1 := by rw [hgze]; simp
  clear Hz3 cs3 hgze
  generalize W3.alloc _ = W4 at *
  have hlg := hs4.lt
  have hlo := ho4.lt
  have hle := he4.lt
  have Hgz := Lib.hid hgz
  clear hgz
  have Hsz4 := Lib.hid hsz4
  clear hsz4
  refine wpIn_rangeFunc_ownG rfl (by omega) (gf := 94) (lb := #[.pointer (some ⟨gz, 0, none⟩)]) rfl trivial (enters_of Try.func94 (by kernel_rfl) rfl)
    (each_stops w.heap.size gz x L hx (by omega) _ hB4.size hz4) KeepsS.trans (KeepsS.putObj hB4.size) (Below.refl _ _) (fun _ => rfl)
    (DecI w gs go ge gb gm x L)
    (DecX w go ge L)
    (DecI.own (w0 := w) hB4.size (by have := Hgb.out; have := Hgz.out; have := Hsz4.out; omega)) (DecX.own hB4.size)
    ⟨hB4, hs4, he4, hb4, noneO, [], 0, rfl, ⟨.slice none 0 0, World.ownsRow_nil _ _ _ _, ho4⟩, hM4, Nat.le_refl _⟩
    (fun x1 => { tmps := #[.string x, .pointer (some ⟨gs, 0, none⟩), .pointer (some ⟨go, 0, none⟩), .pointer (some ⟨ge, 0, none⟩), .pointer (some ⟨gb, 0, none⟩), .int .i64 (x1.1.1 : Int), .int .i64 (x1.1.2 : Int), undef, undef, .string x, .int .i64 (L.length : Int), .bool false, undef, .agg #[.int .u16 0, .int .i64 (-1), .bool false, .slice none 0 0, .bool false, .int .u32 0, .int .u32 0], .map (some gm), .string x, .func (.func 94) #[] #[.pointer (some ⟨gz, 0, none⟩)], .int .i64 (x1.1.1 : Int), .int .i64 (x1.1.2 : Int), undef, undef, undef, undef, undef, undef, undef, undef, undef, undef, undef, undef, undef, undef, undef, undef, undef, undef, undef, undef, undef, undef, undef, undef, undef, undef, undef, undef, undef, undef, undef, undef, undef, undef, undef, undef, undef, undef, undef, undef, undef, undef, undef, undef, undef, undef, undef, undef, undef, undef, undef, undef, undef, undef, undef, undef, undef, undef, undef, undef, undef, undef, undef, undef, undef, undef, undef, undef, undef, undef, undef, undef, undef, undef, undef, undef, undef, undef, undef], defers := [] }) ?assign ?body ?done ?stop
  case assign =>
    intro l x1 W K hK
    gi_wp2
    exact hK

  case body =>
    rintro l pre ⟨⟨i, m⟩, ⟨hi, hk0, hk1, hst⟩, hin⟩ W ⟨hB, hs, he, hb, o, met, n, hf, ⟨v, hv, ho⟩, hM, hn⟩ hlt
    dsimp only at hi hk0 hk1 hst ⊢
    have hstep : foldD L ((pre ++ [(⟨(i, m), ⟨hi, hk0, hk1, hst⟩, hin⟩ : PV L)]).map (·.1)) (noneO, []) = stepD L (o, met) (i, m) := by
      rw [List.map_append, foldD_append, hf]
      simp [foldD, List.foldlM]
    obtain ⟨pre2, hpre⟩ : ∃ p, p = pre ++ [(⟨(i, m), ⟨hi, hk0, hk1, hst⟩, hin⟩ : PV L)] := ⟨_, rfl⟩
    have hpl : pre2.length = pre.length + 1 := by rw [hpre]; simp
    rw [← hpre] at hstep ⊢
    clear hpre hin
    have hpn : pre.length ≤ 41 := by
      have := places_len L (L.length - 0 + 1) 0
      unfold placesAt at hlt
      omega
    obtain ⟨b, hbe⟩ : ∃ b, b = byteN L i := ⟨_, rfl⟩
    have hb256 : b < 256 := by rw [hbe]; exact byteN_lt _ _
    have hix := fun W => index_at x i (by rw [hx]; exact hi) W
    rw [hx, ← hbe] at hix
    rw [← hbe] at hk0 hk1
    have cs0 := hs.cell 0
    have cb0 := hb.cell 0
    have ce0 := he.cell 0
    have fe := he.frozen 0
    try simp at cs0
    try simp at cb0
    try simp at ce0
    have ho' : Blk W go 28 (optV o v) := ho
    unfold optV at ho'
    have c0 := ho'.cell 0
    have c1 := ho'.cell 1
    have c2 := ho'.cell 2
    have c3 := ho'.cell 3
    have c4 := ho'.cell 4
    have c5 := ho'.cell 5
    have c6 := ho'.cell 6
    simp at c0 c1 c2 c3 c4 c5 c6
    have fr := ho'.frozen
    have hgmB : gm < W4.heap.size := by have := Hgz.out; have := Hsz4.out; omega
    have hB4s := hB4.size
    have hlg' : gs < W4.heap.size := hlg
    have Hf := Lib.hid hf
    clear hf
    have HB := Lib.hid hB
    clear hB
    have Hs := Lib.hid hs
    clear hs
    have He := Lib.hid he
    clear he
    have Hb := Lib.hid hb
    clear hb
    have Hv := Lib.hid hv
    clear hv
    have Ho := Lib.hid ho
    clear ho
    have HM := Lib.hid hM
    clear hM
    have Hn := Lib.hid hn
    clear hn
    have Hlt := Lib.hid hlt
    clear hlt
    have Hpl := Lib.hid hpl
    clear hpl
    have Hpn := Lib.hid hpn
    clear hpn
    have Hst := Lib.hid hst
    clear hst
    have Ho' := Lib.hid ho'
    clear ho'
    have HgmB := Lib.hid hgmB
    clear hgmB
    have HB4s := Lib.hid hB4s
    clear hB4s
    have Hstep := Lib.hid hstep
    clear hstep
    have Hbe := Lib.hid hbe
    clear hbe
    clear Hs3 Ho3 He3 Hb3 HM3 HB3 hlg'
    by_cases hm0 : m = 0
    · have t1 : ((m : Int) == 0) = true := by rw [hm0]; rfl
      have Hm0 := Lib.hid hm0
      clear hm0
      gi_wp2
      have hfin : foldD L (pre2.map (·.1)) (noneO, []) = none := Hstep.out.trans (by unfold stepD; rw [if_pos (.inl Hm0.out)])
      have hout0 : Out (DecO go gm v) W W := Out.refl _ _
      generalize hWf : World.setCell _ _ _ = Wf
      have hoF : Blk Wf go 28 zeroV := by
        rw [← hWf]
        have := (((((((Ho'.out.set_ 0 (.int .u16 0)).set_ 1 (.int .i64 0)).set_ 2 (.bool false)).set_ 3 (.slice none 0 0)).set_ 4 (.bool false)).set_ 5 (.int .u32 0)).set_ 6 (.int .u32 0)).far (p := ⟨ge, 0, none⟩) hne_o_e (.int .i64 70)
        simpa [zeroV] using this
      have heF : Blk Wf ge 33 #[.int .i64 70] := by
        rw [← hWf]
        have := (((((((He.out.far (p := ⟨go, 0, none⟩) (Ne.symm hne_o_e) (.int .u16 0)).far (p := ⟨go, 1, none⟩) (Ne.symm hne_o_e) (.int .i64 0)).far (p := ⟨go, 2, none⟩) (Ne.symm hne_o_e) (.bool false)).far (p := ⟨go, 3, none⟩) (Ne.symm hne_o_e) (.slice none 0 0)).far (p := ⟨go, 4, none⟩) (Ne.symm hne_o_e) (.bool false)).far (p := ⟨go, 5, none⟩) (Ne.symm hne_o_e) (.int .u32 0)).far (p := ⟨go, 6, none⟩) (Ne.symm hne_o_e) (.int .u32 0)).set_ 0 (.int .i64 70)
        simpa using this
      have hout : Out (fun i => DecO go gm v i ∨ i = ge) W Wf := by
        rw [← hWf]
        repeat (first | (refine Out.set_ ?_ (.inl (.inl rfl)) _ _) | (refine Out.set_ ?_ (.inr rfl) _ _))
        exact hout0.mono (fun _ _ h => .inl h)
      exact dec_stop HB.out Hv.out hle_o Hwm.out hle_e hlo HgmB.out hle hout hfin hoF heF
    have t1 : ((m : Int) == 0) = false := by simp; omega
    obtain ⟨h2, h3, h4, h5, h6⟩ := stepN_pos (L := L) (i := i) (by rw [← Hst.out]; exact hm0)
    rw [← Hst.out] at h4 h6
    have h7 : longB b m = true := by rw [Hst.out, h5, Hbe.out]; exact h3
    rw [← Hbe.out] at h3
    have hlk := HM.out.look lawU8o Try.underlying107 (zeroInt W) (keyU8o hb256)
    rw [metM_at] at hlk
    by_cases hmet : b ∈ met
    · rw [if_pos hmet] at hlk
      have hfin : foldD L (pre2.map (·.1)) (noneO, []) = none := Hstep.out.trans (by unfold stepD; rw [if_pos (.inr (by rw [← Hbe.out]; exact hmet))])
      have Hmet := Lib.hid hmet
      clear hmet
      have Hfin := Lib.hid hfin
      clear hfin
      have H7 := Lib.hid h7
      clear h7
      gi_wp2
      have hfin := Hfin.out
      have hout0 : Out (DecO go gm v) W W := Out.refl _ _
      generalize hWf : World.setCell _ _ _ = Wf
      have hoF : Blk Wf go 28 zeroV := by
        rw [← hWf]
        have := (((((((Ho'.out.set_ 0 (.int .u16 0)).set_ 1 (.int .i64 0)).set_ 2 (.bool false)).set_ 3 (.slice none 0 0)).set_ 4 (.bool false)).set_ 5 (.int .u32 0)).set_ 6 (.int .u32 0)).far (p := ⟨ge, 0, none⟩) hne_o_e (.int .i64 70)
        simpa [zeroV] using this
      have heF : Blk Wf ge 33 #[.int .i64 70] := by
        rw [← hWf]
        have := (((((((He.out.far (p := ⟨go, 0, none⟩) (Ne.symm hne_o_e) (.int .u16 0)).far (p := ⟨go, 1, none⟩) (Ne.symm hne_o_e) (.int .i64 0)).far (p := ⟨go, 2, none⟩) (Ne.symm hne_o_e) (.bool false)).far (p := ⟨go, 3, none⟩) (Ne.symm hne_o_e) (.slice none 0 0)).far (p := ⟨go, 4, none⟩) (Ne.symm hne_o_e) (.bool false)).far (p := ⟨go, 5, none⟩) (Ne.symm hne_o_e) (.int .u32 0)).far (p := ⟨go, 6, none⟩) (Ne.symm hne_o_e) (.int .u32 0)).set_ 0 (.int .i64 70)
        simpa using this
      have hout : Out (fun i => DecO go gm v i ∨ i = ge) W Wf := by
        rw [← hWf]
        repeat (first | (refine Out.set_ ?_ (.inl (.inl rfl)) _ _) | (refine Out.set_ ?_ (.inr rfl) _ _))
        exact hout0.mono (fun _ _ h => .inl h)
      exact dec_stop HB.out Hv.out hle_o Hwm.out hle_e hlo HgmB.out hle hout hfin hoF heF
    rw [if_neg hmet] at hlk
    have j2 : (0 : Int) ≤ (i : Int) + 2 := by omega
    have j3 : (i : Int) + 2 ≤ (i : Int) + (m : Int) := by omega
    have j4 : (i : Int) + (m : Int) ≤ (L.length : Int) := by omega
    have Hmet := Lib.hid hmet
    clear hmet
    have H2 := Lib.hid h2
    clear h2
    have H3 := Lib.hid h3
    clear h3
    have H5 := Lib.hid h5
    clear h5
    have H7 := Lib.hid h7
    clear h7
    gi_upto_region 12 with fail
    obtain ⟨S, hS⟩ : ∃ S, S = x.extract (i + 2) (i + m) := ⟨_, rfl⟩
    rw [← hS]
    have hSd : S.data.toList = bodyL L (i, m) := by
      rw [hS, ByteArray.data_extract]
      unfold bodyL
      simp only [Array.toList_extract, List.extract_eq_take_drop, hx]
      rw [show i + m - (i + 2) = m - 2 by omega]
    have hSz : S.size = m - 2 := by
      rw [hS]
      simp
      omega
    have hnot : ¬ ((m = 0) ∨ byteN L i ∈ met) := by
      rintro (h | h)
      · exact hm0 h
      · exact Hmet.out (by rw [Hbe.out]; exact h)
    have hstepD : stepD L (o, met) (i, m) = (takeP L o (i, m)).map fun o2 => (o2, if metB b = true then b :: met else met) := by
      unfold stepD
      rw [if_neg hnot, Hbe.out]
    have hfold := Hstep.out.trans hstepD
    have hbn : byteN L i = b := Hbe.out.symm
    clear hnot hstepD hix
    have HS := Lib.hid hS
    clear hS
    have HSd := Lib.hid hSd
    clear hSd
    have HSz := Lib.hid hSz
    clear hSz
    have Hfold := Lib.hid hfold
    clear hfold
    have Hbn := Lib.hid hbn
    clear hbn
    by_cases hmb : b ≤ 5 ∨ b = 8
    · have hmB : metB b = true := by unfold metB; rcases hmb with h | h <;> simp [h]
      obtain ⟨W1, hst1, hM1, ht1⟩ := HM.out.store lawU8o Try.underlying107 (by have := Hn.out; have := Hpn.out; simp only [maxLen]; omega) (keyU8o hb256) (val := .int .i64 1)
      rw [metM_upd] at hM1
      have hg1 := ht1.grown
      have hn1 : (if (metM met (.int .u8 (b : Int))).isSome then n else n + 1) ≤ pre2.length := by have := Hn.out; have := Hpl.out; split <;> omega
      have hgo := map_not_blk HM.out Ho'.out
      have hge := map_not_blk HM.out He.out
      have ho1 := Ho'.out.grown hg1 (fun e => hgo (Option.some.inj e))
      have he1 := He.out.grown hg1 (fun e => hge (Option.some.inj e))
      have hv1 := Hv.out.kept hg1 (.inr (fun e => by obtain ⟨_, c, hc⟩ := own_cells Hv.out e; obtain ⟨es, cl, h8, _⟩ := HM.out.size; rw [hc] at h8; cases h8))
      have hout1 : Out (DecO go gm v) W W1 := Out.grown hg1 (.inr (.inl rfl))
      clear c0 c1 c2 c3 c4 c5 c6 fr ht1 hg1 hgo hge
      have c0 := ho1.cell 0
      have c1 := ho1.cell 1
      have c2 := ho1.cell 2
      have c3 := ho1.cell 3
      have c4 := ho1.cell 4
      have c5 := ho1.cell 5
      have c6 := ho1.cell 6
      simp at c0 c1 c2 c3 c4 c5 c6
      have fr := ho1.frozen
      have ce1 := he1.cell 0
      try simp at ce1
      have fe1 := he1.frozen 0
      have HM1 := Lib.hid hM1
      clear hM1
      have Hn1 := Lib.hid hn1
      clear hn1
      have Ho1 := Lib.hid ho1
      clear ho1
      have He1 := Lib.hid he1
      clear he1
      have Hv1 := Lib.hid hv1
      clear hv1
      have Hout1 := Lib.hid hout1
      clear hout1
      have HmB := Lib.hid hmB
      clear hmB
      by_cases hb2 : b = 2
      · have v5 : (b : Int) ≤ 5 := by omega
        have u2 : ((b : Int) == 2) = true := by simp; omega
        have u3 : ((b : Int) == 3) = false := by simp; omega
        have u4 : ((b : Int) == 4) = false := by simp; omega
        have u5 : ((b : Int) == 5) = false := by simp; omega
        have u8 : ((b : Int) == 8) = false := by simp; omega
        clear hmb
        obtain ⟨q, hq⟩ : ∃ q, q = numL (bodyL L (i, m)) % 65536 := ⟨_, rfl⟩
        have hnum := number16 S W1 (by have := HSz.out; simp only [maxLen]; omega)
        rw [HSd.out, ← hq] at hnum
        by_cases hq0 : q = 0
        · have hk : takeP L o (i, m) = none := by
            unfold takeP
            simp only [Hbn.out, hb2, ← hq, hq0]
            rfl
          have hfin := Hfold.out
          rw [hk] at hfin
          have hfin : foldD L (pre2.map (·.1)) (noneO, []) = none := hfin
          have q1 : ((q : Int) == 0) = true := by rw [hq0]; rfl
          have Hfin := Lib.hid hfin
          clear hfin
          have Hq := Lib.hid hq
          clear hq
          have Hk := Lib.hid hk
          clear hk
          have Hb2 := Lib.hid hb2
          clear hb2
          have Hq0 := Lib.hid hq0
          clear hq0
          have Hnum := Lib.hid hnum
          clear hnum
          gi_wp2_with fail
          refine ⟨trivial, ?_⟩
          refine (CallsIn.inRound l (callsIn_wide.2 Hnum.out)).mono ?_
          rintro e w2 ⟨rfl, hbq⟩
          have hoA := Ho1.out.below hbq Ho1.out.lt
          have heA := He1.out.below hbq He1.out.lt
          have hv2 := Hv1.out.kept (only_of_below hbq none) (Classical.em _)
          have hM2 := HM1.out.below hbq HM1.out.lt
          have hout2 : Out (DecO go gm v) W w2 := Out.trans Hout1.out (Out.of_below (O := fun _ => False) hbq) (fun _ _ h => h.elim)
          clear c0 c1 c2 c3 c4 c5 c6 fr ce1 fe1 hbq
          have c0 := hoA.cell 0
          have c1 := hoA.cell 1
          have c2 := hoA.cell 2
          have c3 := hoA.cell 3
          have c4 := hoA.cell 4
          have c5 := hoA.cell 5
          have c6 := hoA.cell 6
          simp at c0 c1 c2 c3 c4 c5 c6
          have fr := hoA.frozen
          have ce1 := heA.cell 0
          try simp at ce1
          have fe1 := heA.frozen 0
          have HoA := Lib.hid hoA
          clear hoA
          have HeA := Lib.hid heA
          clear heA
          have Hv2 := Lib.hid hv2
          clear hv2
          have HM2 := Lib.hid hM2
          clear hM2
          have Hout2 := Lib.hid hout2
          clear hout2
          gi_wp2
          have hfin := Hfin.out
          have hout0 : Out (DecO go gm v) W w2 := Hout2.out
          have hoB := HoA.out.set_ 0 (.int .u16 (q : Int))
          have heB := HeA.out.far (p := ⟨go, 0, none⟩) (Ne.symm hne_o_e) (.int .u16 (q : Int))
          simp only [List.set_cons_zero, List.setIfInBounds_toArray] at hoB
          have HoB := Lib.hid hoB
          clear hoB
          have HeB := Lib.hid heB
          clear heB
          generalize hWf : World.setCell _ _ _ = Wf
          have hoF : Blk Wf go 28 zeroV := by
            rw [← hWf]
            have := (((((((HoB.out.set_ 0 (.int .u16 0)).set_ 1 (.int .i64 0)).set_ 2 (.bool false)).set_ 3 (.slice none 0 0)).set_ 4 (.bool false)).set_ 5 (.int .u32 0)).set_ 6 (.int .u32 0)).far (p := ⟨ge, 0, none⟩) hne_o_e (.int .i64 70)
            simpa [zeroV] using this
          have heF : Blk Wf ge 33 #[.int .i64 70] := by
            rw [← hWf]
            have := (((((((HeB.out.far (p := ⟨go, 0, none⟩) (Ne.symm hne_o_e) (.int .u16 0)).far (p := ⟨go, 1, none⟩) (Ne.symm hne_o_e) (.int .i64 0)).far (p := ⟨go, 2, none⟩) (Ne.symm hne_o_e) (.bool false)).far (p := ⟨go, 3, none⟩) (Ne.symm hne_o_e) (.slice none 0 0)).far (p := ⟨go, 4, none⟩) (Ne.symm hne_o_e) (.bool false)).far (p := ⟨go, 5, none⟩) (Ne.symm hne_o_e) (.int .u32 0)).far (p := ⟨go, 6, none⟩) (Ne.symm hne_o_e) (.int .u32 0)).set_ 0 (.int .i64 70)
            simpa using this
          have hout : Out (fun i => DecO go gm v i ∨ i = ge) W Wf := by
            rw [← hWf]
            repeat (first | (refine Out.set_ ?_ (.inl (.inl rfl)) _ _) | (refine Out.set_ ?_ (.inr rfl) _ _))
            exact hout0.mono (fun _ _ h => .inl h)
          exact dec_stop HB.out Hv.out hle_o Hwm.out hle_e hlo HgmB.out hle hout hfin hoF heF
        · have hk : takeP L o (i, m) = some { o with mss := q } := by
            unfold takeP
            simp only [Hbn.out, hb2, ← hq]
            rw [if_pos trivial, if_neg hq0]
          have hfold := Hfold.out
          rw [hk, Option.map_some, if_pos HmB.out] at hfold
          obtain ⟨o2, ho2⟩ : ∃ z, z = ({ o with mss := q } : Op) := ⟨_, rfl⟩
          rw [← ho2] at hfold
          have q1 : ((q : Int) == 0) = false := by simp; omega
          have Hfold := Lib.hid hfold
          clear hfold
          have Hq := Lib.hid hq
          clear hq
          have Hk := Lib.hid hk
          clear hk
          have Hb2 := Lib.hid hb2
          clear hb2
          have Ho2 := Lib.hid ho2
          clear ho2
          have Hnum := Lib.hid hnum
          clear hnum
          gi_wp2_with fail
          refine ⟨trivial, ?_⟩
          refine (CallsIn.inRound l (callsIn_wide.2 Hnum.out)).mono ?_
          rintro e w2 ⟨rfl, hbq⟩
          have hoA := Ho1.out.below hbq Ho1.out.lt
          have heA := He1.out.below hbq He1.out.lt
          have hv2 := Hv1.out.kept (only_of_below hbq none) (Classical.em _)
          have hM2 := HM1.out.below hbq HM1.out.lt
          have hout2 : Out (DecO go gm v) W w2 := Out.trans Hout1.out (Out.of_below (O := fun _ => False) hbq) (fun _ _ h => h.elim)
          clear c0 c1 c2 c3 c4 c5 c6 fr ce1 fe1 hbq
          have c0 := hoA.cell 0
          have c1 := hoA.cell 1
          have c2 := hoA.cell 2
          have c3 := hoA.cell 3
          have c4 := hoA.cell 4
          have c5 := hoA.cell 5
          have c6 := hoA.cell 6
          simp at c0 c1 c2 c3 c4 c5 c6
          have fr := hoA.frozen
          have ce1 := heA.cell 0
          try simp at ce1
          have fe1 := heA.frozen 0
          have HoA := Lib.hid hoA
          clear hoA
          have HeA := Lib.hid heA
          clear heA
          have Hv2 := Lib.hid hv2
          clear hv2
          have HM2 := Lib.hid hM2
          clear hM2
          have Hout2 := Lib.hid hout2
          clear hout2
          gi_wp2
          generalize hWf : World.setCell _ _ _ = Wf
          have hoF : Blk Wf go 28 (optV o2 v) := by
            rw [← hWf]
            have := HoA.out.set_ 0 (.int .u16 ((q : Nat) : Int))
            rw [Ho2.out]
            simpa [optV] using this
          have houtF : Out (DecO go gm v) W Wf := by
            rw [← hWf]
            repeat (refine Out.set_ ?_ (.inl rfl) _ _)
            exact Hout2.out
          have hgF : w2.grownBy Wf (some go) := by
            rw [← hWf]
            repeat (refine only_set ?_ _ _)
            exact World.grownBy.refl _ _
          have hgne := map_not_blk HM2.out HoA.out
          exact dec_next HB.out Hs.out He.out Hb.out Hv.out Ho'.out HM.out hle_o Hwm.out hlo HgmB.out houtF ⟨_, _, _, Hfold.out, ⟨v, (by rw [Ho2.out]; exact Hv2.out : w2.ownsRow w.heap.size 92 2 v o2.bl.length (o2.bl.flatMap blkC)).kept hgF (.inr (own_blk_ne Hv2.out HoA.out (by decide))), hoF⟩, HM2.out.kept hgF (fun e => hgne (Option.some.inj e).symm), Hn1.out⟩
      by_cases hb3 : b = 3
      · have v5 : (b : Int) ≤ 5 := by omega
        have u2 : ((b : Int) == 2) = false := by simp; omega
        have u3 : ((b : Int) == 3) = true := by simp; omega
        have u4 : ((b : Int) == 4) = false := by simp; omega
        have u5 : ((b : Int) == 5) = false := by simp; omega
        have u8 : ((b : Int) == 8) = false := by simp; omega
        clear hmb
        have hlen : S.size = 1 := by have h := H7.out; rw [hb3] at h; simp [longB] at h; rw [HSz.out, h]
        have hi0 : (Instr.index 9 (.string S) (.int .i64 0)).run Try.prog W1 = .ok (.int .u8 ((byteN (bodyL L (i, m)) 0 : Nat) : Int)) W1 := by
          have := index_at S 0 (by simp; omega) W1
          rw [HSd.out] at this
          exact this
        obtain ⟨q, hq⟩ : ∃ q, q = byteN (bodyL L (i, m)) 0 := ⟨_, rfl⟩
        have hq256 : q < 256 := by rw [hq]; exact byteN_lt _ _
        rw [← hq] at hi0
        have hk : takeP L o (i, m) = some { o with scale := min (q : Int) 14 } := by
          unfold takeP
          simp only [Hbn.out, hb3, ← hq]
          rfl
        have hfold := Hfold.out
        rw [hk, Option.map_some, if_pos HmB.out] at hfold
        obtain ⟨o2, ho2⟩ : ∃ z, z = ({ o with scale := min (q : Int) 14 } : Op) := ⟨_, rfl⟩
        rw [← ho2] at hfold
        have Hfold := Lib.hid hfold
        clear hfold
        have Hlen := Lib.hid hlen
        clear hlen
        have Hq := Lib.hid hq
        clear hq
        have Hk := Lib.hid hk
        clear hk
        have Hb3 := Lib.hid hb3
        clear hb3
        have Ho2 := Lib.hid ho2
        clear ho2
        gi_wp2
        generalize hWf : World.setCell _ _ _ = Wf
        have hoF : Blk Wf go 28 (optV o2 v) := by
          rw [← hWf]
          have := Ho1.out.set_ 1 (.int .i64 (min (q : Int) 14))
          rw [Ho2.out]
          simpa [optV] using this
        have houtF : Out (DecO go gm v) W Wf := by
          rw [← hWf]
          repeat (refine Out.set_ ?_ (.inl rfl) _ _)
          exact Hout1.out
        have hgF : W1.grownBy Wf (some go) := by
          rw [← hWf]
          repeat (refine only_set ?_ _ _)
          exact World.grownBy.refl _ _
        have hgne := map_not_blk HM1.out Ho1.out
        exact dec_next HB.out Hs.out He.out Hb.out Hv.out Ho'.out HM.out hle_o Hwm.out hlo HgmB.out houtF ⟨_, _, _, Hfold.out, ⟨v, (by rw [Ho2.out]; exact Hv1.out : W1.ownsRow w.heap.size 92 2 v o2.bl.length (o2.bl.flatMap blkC)).kept hgF (.inr (own_blk_ne Hv1.out Ho1.out (by decide))), hoF⟩, HM1.out.kept hgF (fun e => hgne (Option.some.inj e).symm), Hn1.out⟩
      by_cases hb4 : b = 4
      · have v5 : (b : Int) ≤ 5 := by omega
        have u2 : ((b : Int) == 2) = false := by simp; omega
        have u3 : ((b : Int) == 3) = false := by simp; omega
        have u4 : ((b : Int) == 4) = true := by simp; omega
        have u5 : ((b : Int) == 5) = false := by simp; omega
        have u8 : ((b : Int) == 8) = false := by simp; omega
        clear hmb
        have hk : takeP L o (i, m) = some { o with sack := true } := by
          unfold takeP
          simp only [Hbn.out, hb4]
          rfl
        have hfold := Hfold.out
        rw [hk, Option.map_some, if_pos HmB.out] at hfold
        obtain ⟨o2, ho2⟩ : ∃ z, z = ({ o with sack := true } : Op) := ⟨_, rfl⟩
        rw [← ho2] at hfold
        have Hfold := Lib.hid hfold
        clear hfold
        have Hk := Lib.hid hk
        clear hk
        have Hb4 := Lib.hid hb4
        clear hb4
        have Ho2 := Lib.hid ho2
        clear ho2
        gi_wp2
        generalize hWf : World.setCell _ _ _ = Wf
        have hoF : Blk Wf go 28 (optV o2 v) := by
          rw [← hWf]
          have := Ho1.out.set_ 2 (.bool true)
          rw [Ho2.out]
          simpa [optV] using this
        have houtF : Out (DecO go gm v) W Wf := by
          rw [← hWf]
          repeat (refine Out.set_ ?_ (.inl rfl) _ _)
          exact Hout1.out
        have hgF : W1.grownBy Wf (some go) := by
          rw [← hWf]
          repeat (refine only_set ?_ _ _)
          exact World.grownBy.refl _ _
        have hgne := map_not_blk HM1.out Ho1.out
        exact dec_next HB.out Hs.out He.out Hb.out Hv.out Ho'.out HM.out hle_o Hwm.out hlo HgmB.out houtF ⟨_, _, _, Hfold.out, ⟨v, (by rw [Ho2.out]; exact Hv1.out : W1.ownsRow w.heap.size 92 2 v o2.bl.length (o2.bl.flatMap blkC)).kept hgF (.inr (own_blk_ne Hv1.out Ho1.out (by decide))), hoF⟩, HM1.out.kept hgF (fun e => hgne (Option.some.inj e).symm), Hn1.out⟩
      by_cases hb8 : b = 8
      · have v5 : ¬ (b : Int) ≤ 5 := by omega
        have u2 : ((b : Int) == 2) = false := by simp; omega
        have u3 : ((b : Int) == 3) = false := by simp; omega
        have u4 : ((b : Int) == 4) = false := by simp; omega
        have u5 : ((b : Int) == 5) = false := by simp; omega
        have u8 : ((b : Int) == 8) = true := by simp; omega
        clear hmb
        have hS8 : S.size = 8 := by have h := H7.out; rw [hb8] at h; simp [longB] at h; rw [HSz.out, h]
        have hBl : (bodyL L (i, m)).length = 8 := by rw [← HSd.out]; simpa using hS8
        have e1 : (S.extract 0 4).data.toList = (bodyL L (i, m)).take 4 := by
          rw [ByteArray.data_extract, Array.toList_extract, List.extract_eq_take_drop, HSd.out]
          simp
        have e2 : (S.extract 4 8).data.toList = (bodyL L (i, m)).drop 4 := by
          rw [ByteArray.data_extract, Array.toList_extract, List.extract_eq_take_drop, HSd.out]
          exact List.take_of_length_le (by rw [List.length_drop, hBl]; omega)
        obtain ⟨q1, hq1⟩ : ∃ q, q = numL ((bodyL L (i, m)).take 4) := ⟨_, rfl⟩
        obtain ⟨q2, hq2⟩ : ∃ q, q = numL ((bodyL L (i, m)).drop 4) := ⟨_, rfl⟩
        have hS0 : Fresh W1 W1 := Below.refl _ _
        have ne : Nonempty (Cls (Fresh W1)) := ⟨⟨W1, hS0⟩⟩
        have n1 : ∀ y : Cls (Fresh W1), Calls Try.prog 77 #[.string (S.extract 0 4)] y.w fun e w'' => e = .returned (.int .u32 (q1 : Int)) ∧ Fresh W1 w'' ∧ Below y.w.heap.size y.w w'' := fun y => (number_any _ y.w (by simp [maxLen]; omega)).mono fun e w' ⟨he, hb⟩ => ⟨by rw [he, e1, hq1], Fresh.below y.h hb, hb⟩
        have n2 : ∀ y : Cls (Fresh W1), Calls Try.prog 77 #[.string (S.extract 4 8)] y.w fun e w'' => e = .returned (.int .u32 (q2 : Int)) ∧ Fresh W1 w'' ∧ Below y.w.heap.size y.w w'' := fun y => (number_any _ y.w (by simp [maxLen]; omega)).mono fun e w' ⟨he, hb⟩ => ⟨by rw [he, e2, hq2], Fresh.below y.h hb, hb⟩
        have cf : ∀ (vals : Array Value) (w : World), (callFunc 77 vals).run Try.prog w = .ok (.enter 77 vals) w := fun _ _ => by kernel_rfl
        have hk : takeP L o (i, m) = some { o with time := true, val := q1, echo := q2 } := by
          unfold takeP
          simp only [Hbn.out, hb8, ← hq1, ← hq2]
          rfl
        have hfold := Hfold.out
        rw [hk, Option.map_some, if_pos HmB.out] at hfold
        obtain ⟨o2, ho2⟩ : ∃ z, z = ({ o with time := true, val := q1, echo := q2 } : Op) := ⟨_, rfl⟩
        rw [← ho2] at hfold
        have Hfold := Lib.hid hfold
        clear hfold
        have Hk := Lib.hid hk
        clear hk
        have Hb8 := Lib.hid hb8
        clear hb8
        have Ho2 := Lib.hid ho2
        clear ho2
        have E1 := Lib.hid e1
        clear e1
        have E2 := Lib.hid e2
        clear e2
        have Hq1 := Lib.hid hq1
        clear hq1
        have Hq2 := Lib.hid hq2
        clear hq2
        have N1 := Lib.hid n1
        clear n1
        have N2 := Lib.hid n2
        clear n2
        have Cf := Lib.hid cf
        clear cf
        have HBl := Lib.hid hBl
        clear hBl
        gi_upto_region 24 with fail
        clear c0 c1 c2 c3 c4 c5 c6 fr ce1 fe1
        refine wpIn_region_flow 7 (Fresh W1) (fun w w' => Below w.heap.size w w') (by kernel_rfl) (by rintro ⟨_, _, h⟩; exact h) (by kernel_rfl) (by kernel_rfl) (by kernel_rfl) (fun w => Below.refl _ _) (Fresh.below hS0 (Below.drew (Below.refl _ _))) ?_
        simp only [List.take_succ_cons, List.take_zero, List.drop_succ_cons, List.drop_zero]
        repeat (first
          | (refine flow_quiet (fun w => Below.refl _ _) rfl rfl rfl rfl ?_; intro K hK; go_big_quiet_op; go_big_quiet_on)
          | (refine flow_call Cf.out _ ?_ rfl rfl rfl _ N1.out W1 ?_; (focus (simp only [List.map_toArray, List.map_cons, List.map_nil]; rfl)); intro K hK; go_big_quiet_op; go_big_quiet_on)
          | (refine flow_call Cf.out _ ?_ rfl rfl rfl _ N2.out W1 ?_; (focus (simp only [List.map_toArray, List.map_cons, List.map_nil]; rfl)); intro K hK; go_big_quiet_op; go_big_quiet_on))
        refine flow_nil ?_
        intro w2 ff hbq hF5
        simp only [fillW]
        clear hF5
        have hbq : Below W1.heap.size W1 w2 := hbq
        have hoA := Ho1.out.below hbq Ho1.out.lt
        have heA := He1.out.below hbq He1.out.lt
        have hv2 := Hv1.out.kept (only_of_below hbq none) (Classical.em _)
        have hM2 := HM1.out.below hbq HM1.out.lt
        have hout2 : Out (DecO go gm v) W w2 := Out.trans Hout1.out (Out.of_below (O := fun _ => False) hbq) (fun _ _ h => h.elim)
        have c0 := hoA.cell 0
        have c1 := hoA.cell 1
        have c2 := hoA.cell 2
        have c3 := hoA.cell 3
        have c4 := hoA.cell 4
        have c5 := hoA.cell 5
        have c6 := hoA.cell 6
        simp at c0 c1 c2 c3 c4 c5 c6
        have fr := hoA.frozen
        have HoA := Lib.hid hoA
        clear hoA
        have HeA := Lib.hid heA
        clear heA
        have Hv2 := Lib.hid hv2
        clear hv2
        have HM2 := Lib.hid hM2
        clear hM2
        have Hout2 := Lib.hid hout2
        clear hout2
        clear hbq ne hS0
        go_wp2_with fail
        generalize hWf : World.setCell _ _ _ = Wf
        have hoF : Blk Wf go 28 (optV o2 v) := by
          rw [← hWf]
          have := ((HoA.out.set_ 4 (.bool true)).set_ 5 (.int .u32 (q1 : Int))).set_ 6 (.int .u32 (q2 : Int))
          rw [Ho2.out]
          simpa [optV] using this
        have houtF : Out (DecO go gm v) W Wf := by
          rw [← hWf]
          repeat (refine Out.set_ ?_ (.inl rfl) _ _)
          exact Hout2.out
        have hgF : w2.grownBy Wf (some go) := by
          rw [← hWf]
          repeat (refine only_set ?_ _ _)
          exact World.grownBy.refl _ _
        have hgne := map_not_blk HM2.out HoA.out
        exact dec_next HB.out Hs.out He.out Hb.out Hv.out Ho'.out HM.out hle_o Hwm.out hlo HgmB.out houtF ⟨_, _, _, Hfold.out, ⟨v, (by rw [Ho2.out]; exact Hv2.out : w2.ownsRow w.heap.size 92 2 v o2.bl.length (o2.bl.flatMap blkC)).kept hgF (.inr (own_blk_ne Hv2.out HoA.out (by decide))), hoF⟩, HM2.out.kept hgF (fun e => hgne (Option.some.inj e).symm), Hn1.out⟩
      have hb5 : b = 5 := by omega
      have v5 : (b : Int) ≤ 5 := by omega
      have u2 : ((b : Int) == 2) = false := by simp; omega
      have u3 : ((b : Int) == 3) = false := by simp; omega
      have u4 : ((b : Int) == 4) = false := by simp; omega
      have u5 : ((b : Int) == 5) = true := by simp; omega
      have u8 : ((b : Int) == 8) = false := by simp; omega
      clear hmb
      have hSm : S.size % 8 = 0 ∧ S.size ≤ 32 := by
        have h := H7.out
        rw [hb5] at h
        simp [longB] at h
        rw [HSz.out]
        omega
      have hk : takeP L o (i, m) = some { o with bl := o.bl ++ blocksL (bodyL L (i, m)) } := by
        unfold takeP
        simp only [Hbn.out, hb5]
        rfl
      have hfold := Hfold.out
      rw [hk, Option.map_some, if_pos HmB.out] at hfold
      have Hfold := Lib.hid hfold
      clear hfold
      have Hk := Lib.hid hk
      clear hk
      have Hb5 := Lib.hid hb5
      clear hb5
      have HSm := Lib.hid hSm
      clear hSm
      clear hb2 hb3 hb4 hb8
      clear c0 c1 c2 c3 c4 c5 c6 fr ce1 fe1
      have hobl : o.bl.length ≤ 1640 := by
        have h := fold_bl L _ _ _ _ Hf.out
        rw [List.length_map] at h
        have h1 : L.length * pre.length ≤ 40 * 41 := Nat.mul_le_mul hm Hpn.out
        simp [noneO] at h
        omega
      gi_wp2_with fail
      gi_loopw [8] (fun s wr => ∃ (T : ByteArray) (bl2 : List (Int × Int)) (v2 : Value), s = .string T ∧ T.size % 8 = 0 ∧ T.size ≤ 32 ∧ bl2 ++ blocksL T.data.toList = o.bl ++ blocksL (bodyL L (i, m)) ∧ wr.ownsRow w.heap.size 92 2 v2 bl2.length (bl2.flatMap blkC) ∧ bl2.length + T.size ≤ o.bl.length + 32 ∧
        Blk wr go 28 (optV { o with bl := bl2 } v2) ∧ (v2.ownBlock = v.ownBlock ∨ ∃ g, W.heap.size ≤ g ∧ v2.ownBlock = some g) ∧ MapIs Try.prog 5 wr gm (if (metM met (.int .u8 (b : Int))).isSome then n else n + 1) (metM (b :: met)) ∧ Out (DecO go gm v) W wr)
        (fun s _ => match s with | .string t => t.size | _ => 0)
      case atStart => exact ⟨S, o.bl, v, rfl, HSm.out.1, HSm.out.2, by rw [HSd.out], Hv1.out, by have := HSm.out.2; omega, Ho1.out, .inl rfl, HM1.out, Hout1.out⟩
      case round =>
        obtain ⟨T, bl2, v2, rfl, hT8, hT32, hbl, hv2, hlen2, ho2, hrow2, hM2, hout2⟩ := hrel
        by_cases hT0 : T.size = 0
        · have hTe : T.toList.isEmpty = true := by
            rw [ByteArray.toList_eq]
            have : T.data.toList.length = 0 := by simpa using hT0
            rw [List.length_eq_zero_iff.1 this]
            rfl
          have hTn : T.data.toList = [] := List.length_eq_zero_iff.1 (by simpa using hT0)
          rw [hTn, blocksL_nil, List.append_nil] at hbl
          subst hbl
          have HTn := Lib.hid hTn
          clear hTn
          have Hv2 := Lib.hid hv2
          clear hv2
          have Hlen2 := Lib.hid hlen2
          clear hlen2
          have Ho2 := Lib.hid ho2
          clear ho2
          have Hrow2 := Lib.hid hrow2
          clear hrow2
          have HM2 := Lib.hid hM2
          clear hM2
          have Hout2 := Lib.hid hout2
          clear hout2
          gi_wp2
          exact dec_next HB.out Hs.out He.out Hb.out Hv.out Ho'.out HM.out hle_o Hwm.out hlo HgmB.out Hout2.out ⟨_, _, _, Hfold.out, ⟨v2, Hv2.out, Ho2.out⟩, HM2.out, Hn1.out⟩
        · have hTe : T.toList.isEmpty = false := by
            rw [ByteArray.toList_eq, List.isEmpty_eq_false_iff]
            intro h
            apply hT0
            have := congrArg List.length h
            simpa using this
          have hTn : T.data.toList ≠ [] := fun h => hT0 (by have := congrArg List.length h; simpa using this)
          obtain ⟨A0, k0, hv0, _⟩ := own_slice hv2
          subst hv0
          obtain ⟨row, hrw⟩ : ∃ row, (Value.slice A0 bl2.length k0).ownBlock = row := ⟨_, rfl⟩
          have t1 := own_blk_ne hv2 ho2 (by decide)
          rw [hrw] at t1
          have hT8' : 8 ≤ T.size := by omega
          have j5 : (8 : Int) ≤ (T.size : Int) := by omega
          have j6 : (4 : Int) ≤ (T.size : Int) := by omega
          obtain ⟨q1, hq1⟩ : ∃ q, q = numL (T.data.toList.take 4) := ⟨_, rfl⟩
          obtain ⟨q2, hq2⟩ : ∃ q, q = numL ((T.data.toList.drop 4).take 4) := ⟨_, rfl⟩
          have hstepB := blocksL_step hTn
          rw [← hq1, ← hq2] at hstepB
          have e1 : (T.extract 0 4).data.toList = T.data.toList.take 4 := by
            rw [ByteArray.data_extract, Array.toList_extract, List.extract_eq_take_drop]
            simp
          have e2 : (T.extract 4 8).data.toList = (T.data.toList.drop 4).take 4 := by
            rw [ByteArray.data_extract, Array.toList_extract, List.extract_eq_take_drop]
          have e3 : (T.extract 8 T.size).data.toList = T.data.toList.drop 8 := by
            rw [ByteArray.data_extract, Array.toList_extract, List.extract_eq_take_drop]
            exact List.take_of_length_le (by simp)
          have hS0 : Out (fun i => row = some i) wr wr.drew := Out.of_below (Below.drew (Below.refl _ _))
          have ne : Nonempty (Cls (fun W => Out (fun i => row = some i) wr W)) := ⟨⟨_, hS0⟩⟩
          have co : wr.cell? ⟨go, 3, none⟩ = some (.slice A0 bl2.length k0) := by simpa [optV] using ho2.cell 3
          have q3 : ∀ y : Cls (fun W => Out (fun i => row = some i) wr W), y.w.cell? ⟨go, 3, none⟩ = some (.slice A0 bl2.length k0) := fun y => (World.cell?_of_block (y.h.block go ho2.lt t1)).trans co
          have hSb : ∀ w w', Out (fun i => row = some i) wr w → Below w.heap.size w w' → Out (fun i => row = some i) wr w' := fun w w' h hb => Out.trans h (Out.of_below (O := fun _ => False) hb) (fun _ _ e => e.elim)
          have n1 : ∀ y : Cls (fun W => Out (fun i => row = some i) wr W), Calls Try.prog 77 #[.string (T.extract 0 4)] y.w fun e w'' => e = .returned (.int .u32 (q1 : Int)) ∧ Out (fun i => row = some i) wr w'' ∧ RApp 10 row 4 y.w w'' := fun y => (number_any _ y.w (by simp [maxLen]; omega)).mono fun e w' ⟨he, hb⟩ => ⟨by rw [he, e1, hq1], hSb _ _ y.h hb, RApp.of_below hb⟩
          have n2 : ∀ y : Cls (fun W => Out (fun i => row = some i) wr W), Calls Try.prog 77 #[.string (T.extract 4 8)] y.w fun e w'' => e = .returned (.int .u32 (q2 : Int)) ∧ Out (fun i => row = some i) wr w'' ∧ RApp 10 row 7 y.w w'' := fun y => (number_any _ y.w (by simp [maxLen]; omega)).mono fun e w' ⟨he, hb⟩ => ⟨by rw [he, e2, hq2], hSb _ _ y.h hb, RApp.of_below hb⟩
          have cf : ∀ (vals : Array Value) (w : World), (callFunc 77 vals).run Try.prog w = .ok (.enter 77 vals) w := fun _ _ => by kernel_rfl
          have rb1 : ∀ w : World, (Instr.buildSlice 26 1 #[(0, .agg #[.int .u32 (q1 : Int), .int .u32 (q2 : Int)])]).run Try.prog w = .ok (.slice (some ⟨w.heap.size, 0, none⟩) 1 1) (w.alloc (.cells #[.int .u32 (q1 : Int), .int .u32 (q2 : Int)] 92)) := fun _ => by kernel_rfl
          have hrl : ∀ q, row = some q → q < wr.heap.size := fun q hq => (hv2.lt q (hrw.trans hq)).2
          have hwle : w.heap.size ≤ wr.heap.size := Nat.le_trans HB.out.size hout2.size
          have hU0 : ∀ q ∈ ([(10, fun W => W.ownsRow w.heap.size 92 2 (.slice A0 bl2.length k0) bl2.length (bl2.flatMap blkC))] : List (Nat × (World → Prop))), q.2 wr.drew := by
            intro q hq
            obtain rfl := List.mem_singleton.1 hq
            exact hv2.kept (only_of_below (Below.drew (Below.refl _ _)) none) (Classical.em _)
          have hUs : ∀ q ∈ ([(10, fun W => W.ownsRow w.heap.size 92 2 (.slice A0 bl2.length k0) bl2.length (bl2.flatMap blkC))] : List (Nat × (World → Prop))), ∀ i w w', i ≠ q.1 → RApp 10 row i w w' → q.2 w → q.2 w' := by
            intro q hq i w w' hi hr hw
            obtain rfl := List.mem_singleton.1 hq
            exact hw.kept (only_of_below (hr.below hi) none) (Classical.em _)
          obtain ⟨i0, hi0, h0, h1, h22⟩ := info_parts_o infoBo
          have hnb60 : bl2.length ≤ 2000 := by omega
          have HTn := Lib.hid hTn
          clear hTn
          have Hv2 := Lib.hid hv2
          clear hv2
          have Hlen2 := Lib.hid hlen2
          clear hlen2
          have Ho2 := Lib.hid ho2
          clear ho2
          have Hrow2 := Lib.hid hrow2
          clear hrow2
          have HM2 := Lib.hid hM2
          clear hM2
          have Hout2 := Lib.hid hout2
          clear hout2
          have Hbl := Lib.hid hbl
          clear hbl
          have HstepB := Lib.hid hstepB
          clear hstepB
          have E1 := Lib.hid e1
          clear e1
          have E2 := Lib.hid e2
          clear e2
          have E3 := Lib.hid e3
          clear e3
          have Hq1 := Lib.hid hq1
          clear hq1
          have Hq2 := Lib.hid hq2
          clear hq2
          have N1 := Lib.hid n1
          clear n1
          have N2 := Lib.hid n2
          clear n2
          have Cf := Lib.hid cf
          clear cf
          have Rb1 := Lib.hid rb1
          clear rb1
          have Hrl := Lib.hid hrl
          clear hrl
          have Hwle := Lib.hid hwle
          clear hwle
          have HU0 := Lib.hid hU0
          clear hU0
          have HUs := Lib.hid hUs
          clear hUs
          have Hi0 := Lib.hid hi0
          clear hi0
          have H0 := Lib.hid h0
          clear h0
          have H1 := Lib.hid h1
          clear h1
          have H22 := Lib.hid h22
          clear h22
          have HS0 := Lib.hid hS0
          clear hS0
          have Hrw := Lib.hid hrw
          clear hrw
          have HSb := Lib.hid hSb
          clear hSb
          have T1 := Lib.hid t1
          clear t1
          gi_upto_region 28 with fail
          clear co
          refine wpIn_region_flowu 12 (fun W => Out (fun i => row = some i) wr W) (RApp 10 row) [(10, fun W => W.ownsRow w.heap.size 92 2 (.slice A0 bl2.length k0) bl2.length (bl2.flatMap blkC))] (by kernel_rfl) (by rintro ⟨_, _, h⟩; exact h) (by kernel_rfl) (by kernel_rfl) (by kernel_rfl) RApp.refl HUs.out HU0.out HS0.out ?_
          simp only [List.take_succ_cons, List.take_zero, List.drop_succ_cons, List.drop_zero]
          repeat (first
            | (refine flowu_quiet RApp.refl rfl rfl rfl rfl ?_; intro K hK; go_big_quiet_op; go_big_quiet_on)
            | (refine flowu_call Cf.out _ ?_ rfl rfl rfl _ N1.out wr ?_; (focus (simp only [List.map_toArray, List.map_cons, List.map_nil]; rfl)); intro K hK; go_big_quiet_op; go_big_quiet_on)
            | (refine flowu_call Cf.out _ ?_ rfl rfl rfl _ N2.out wr ?_; (focus (simp only [List.map_toArray, List.map_cons, List.map_nil]; rfl)); intro K hK; go_big_quiet_op; go_big_quiet_on))
          refine flowx_build wr.heap.size (E := 92) #[(0, .agg #[.int .u32 (q1 : Int), .int .u32 (q2 : Int)])] ?_ #[.int .u32 (q1 : Int), .int .u32 (q2 : Int)] Rb1.out HSb.out (fun w h => h.size) Hrl.out rfl rfl rfl wr ?_
          focus (simp only [List.map_toArray, List.map_cons, List.map_nil]; rfl)
          intro K hK; go_big_quiet_op; go_big_quiet_on
          refine flowx_append wr.heap.size w.heap.size i0 _ 2 8 Try.underlying26 Hi0.out H0.out H1.out H22.out rfl (by decide) (.slice A0 bl2.length k0) bl2.length (bl2.flatMap blkC) 1 #[.int .u32 (q1 : Int), .int .u32 (q2 : Int)] 0 rfl rfl rfl (of_decide_eq_true rfl) (fun f => rfl) Hrw.out rfl (fun w hw hut => hut _ List.mem_cons_self rfl) rfl (by intro u hu; simp at hu; rcases hu with rfl | rfl <;> rfl) (by simp only [maxLen]; omega) (by omega) (fun w h => Nat.le_trans Hwle.out h.size) (fun w h => h.size) (fun w w' h hg => Out.trans h (Out.mono (O := fun i => row = some i) ⟨hg.os, hg.tape, hg.output, hg.size, fun i hi hn => hg.block i hi (fun e => hn e.symm)⟩ (fun _ _ e => e)) (fun _ _ e => e)) rfl rfl wr ?_
          intro K hK; go_big_quiet_op; go_big_quiet_on
          repeat (refine flowu_quiet RApp.refl rfl rfl rfl rfl ?_; intro K hK; go_big_quiet_op; go_big_quiet_on)
          refine flowu_nil ?_
          intro W5 f hW5 hF5
          obtain ⟨v', hv', hrow5, hvb5⟩ := hF5 _ (List.mem_cons_self)
          clear hF5
          injection hv' with hv'
          simp only [fillW, Act.put, List.setIfInBounds_toArray, List.set_cons_succ, List.set_cons_zero]
          rw [hv']
          generalize f 94 = v94
          clear hv' q3 ne
          obtain ⟨A1, k1, hv1, _⟩ := own_slice hrow5
          subst hv1
          have hg5 : wr.grownBy W5 row := ⟨hW5.os, hW5.tape, hW5.output, hW5.size, fun i hi hn => hW5.block i hi (fun e => hn e.symm)⟩
          have hrm : some gm ≠ row := fun e => by
            obtain ⟨_, c, hc⟩ := own_cells Hv2.out (Hrw.out.trans e.symm)
            obtain ⟨es, cl, h8, _⟩ := HM2.out.size
            rw [hc] at h8
            cases h8
          have ho5 := Ho2.out.grown hg5 (fun e => T1.out e.symm)
          have hM5 := HM2.out.kept hg5 hrm
          have hgne := map_not_blk hM5 ho5
          have c3 := ho5.cell 3
          try simp [optV] at c3
          have fr3 := ho5.frozen 3
          have hv5 : W5.ownsRow w.heap.size 92 2 (.slice A1 (bl2.length + 1) k1) (bl2 ++ [((q1 : Int), (q2 : Int))]).length ((bl2 ++ [((q1 : Int), (q2 : Int))]).flatMap blkC) := by
            rw [List.length_append, List.flatMap_append]
            exact hrow5
          have hn5 := own_blk_ne hv5 ho5 (by decide)
          have ho6 : Blk (W5.setCell ⟨go, 3, none⟩ (.slice A1 (bl2.length + 1) k1)) go 28 (optV { o with bl := bl2 ++ [((q1 : Int), (q2 : Int))] } (.slice A1 (bl2.length + 1) k1)) := by
            have := ho5.set_ 3 (.slice A1 (bl2.length + 1) k1)
            simpa [optV] using this
          have hv6 := hv5.kept (only_set (World.grownBy.refl W5 (some go)) 3 (.slice A1 (bl2.length + 1) k1)) (.inr hn5)
          have hM6 := hM5.setCell (a := ⟨go, 3, none⟩) (fun e => hgne e.symm) (.slice A1 (bl2.length + 1) k1)
          have hout6 : Out (DecO go gm v) W (W5.setCell ⟨go, 3, none⟩ (.slice A1 (bl2.length + 1) k1)) := Out.set_ (Out.trans Hout2.out hW5 (fun i hi e => by
            rcases Hrow2.out with h | ⟨g, h1, h⟩
            · exact .inr (.inr (by rw [← h, Hrw.out]; exact e))
            · rw [Hrw.out, e] at h; injection h with h; omega)) (.inl rfl) 3 (.slice A1 (bl2.length + 1) k1)
          have hrow6 : (Value.slice A1 (bl2.length + 1) k1).ownBlock = v.ownBlock ∨ ∃ g, W.heap.size ≤ g ∧ (Value.slice A1 (bl2.length + 1) k1).ownBlock = some g := by
            rcases hvb5 with e | ⟨g, h1, e⟩
            · rw [e, ← Hrw.out]; exact Hrow2.out
            · exact .inr ⟨g, Nat.le_trans Hout2.out.size h1, e⟩
          have hbl6 : (bl2 ++ [((q1 : Int), (q2 : Int))]) ++ blocksL (T.extract 8 T.size).data.toList = o.bl ++ blocksL (bodyL L (i, m)) := by
            rw [E3.out, List.append_assoc, ← Hbl.out, HstepB.out]
            rfl
          have hT6 : (T.extract 8 T.size).size = T.size - 8 := by simp
          have hl6 : (bl2 ++ [((q1 : Int), (q2 : Int))]).length + (T.extract 8 T.size).size ≤ o.bl.length + 32 := by
            have := Hlen2.out
            rw [List.length_append, List.length_singleton, hT6]
            omega
          clear hrow5 hvb5 hW5 hg5 hrm ho5 hM5 hv5 hn5 hgne
          have Ho6 := Lib.hid ho6
          clear ho6
          have Hv6 := Lib.hid hv6
          clear hv6
          have HM6 := Lib.hid hM6
          clear hM6
          have Hout6 := Lib.hid hout6
          clear hout6
          have Hrow6 := Lib.hid hrow6
          clear hrow6
          have Hbl6 := Lib.hid hbl6
          clear hbl6
          have HT6 := Lib.hid hT6
          clear hT6
          have Hl6 := Lib.hid hl6
          clear hl6
          go_wp2_with fail
          gi_wp2
          go_roundw
          case rel => exact ⟨T.extract 8 T.size, bl2 ++ [((q1 : Int), (q2 : Int))], (.slice A1 (bl2.length + 1) k1), rfl, by rw [HT6.out]; omega, by rw [HT6.out]; omega, Hbl6.out, Hv6.out, Hl6.out, Ho6.out, Hrow6.out, HM6.out, Hout6.out⟩
          case measure => have := HT6.out; simp only []; omega
    · have hmB : metB b = false := by unfold metB; simp; omega
      have u1 : ¬ (b : Int) ≤ 5 := by omega
      have u2 : ((b : Int) == 2) = false := by simp; omega
      have u3 : ((b : Int) == 3) = false := by simp; omega
      have u4 : ((b : Int) == 4) = false := by simp; omega
      have u5 : ((b : Int) == 5) = false := by simp; omega
      have u8 : ((b : Int) == 8) = false := by simp; omega
      have hk : takeP L o (i, m) = some o := by
        unfold takeP
        simp only [Hbn.out]
        rw [if_neg (by omega), if_neg (by omega), if_neg (by omega), if_neg (by omega), if_neg (by omega)]
      have hfold := Hfold.out
      rw [hk, Option.map_some, hmB] at hfold
      have Hfold := Lib.hid hfold
      clear hfold
      have HmB := Lib.hid hmB
      clear hmB
      have Hk := Lib.hid hk
      clear hk
      clear hmb
      gi_wp2
      exact dec_next HB.out Hs.out He.out Hb.out Hv.out Ho'.out HM.out hle_o Hwm.out hlo HgmB.out (Out.refl _ _) ⟨o, met, n, Hfold.out, ⟨v, Hv.out, Ho'.out⟩, HM.out, by have := Hn.out; have := Hpl.out; omega⟩

  case done =>
    rintro D xs W hD hS ⟨hB, hs, he, hb, o, met, n, hf, ⟨v, hv, ho⟩, hM, hn⟩ hK
    obtain ⟨A, c, rfl, hbl⟩ := own_blrC hv
    have ho' : Blk W go 28 (optC o A c) := ho
    have hdec : decL L = some o := by
      unfold decL
      rw [← hS, hf]
      rfl
    unfold optC at ho'
    have c0 := ho'.cell 0
    have c1 := ho'.cell 1
    have c2 := ho'.cell 2
    have c3 := ho'.cell 3
    have c4 := ho'.cell 4
    have c5 := ho'.cell 5
    have c6 := ho'.cell 6
    simp at c0 c1 c2 c3 c4 c5 c6
    have fr := ho'.frozen
    have e0 := he.cell 0
    try simp at e0
    have fe := he.frozen 0
    clear Hs3 Ho3 He3 Hb3 HM3 HB3
    have Hf := Lib.hid hf
    clear hf
    have Hdec := Lib.hid hdec
    clear hdec
    have HM := Lib.hid hM
    clear hM
    have Hbl := Lib.hid hbl
    clear hbl
    have Hs := Lib.hid hs
    clear hs
    have Hb := Lib.hid hb
    clear hb
    have Ho := Lib.hid ho
    clear ho
    have HB := Lib.hid hB
    clear hB
    have He := Lib.hid he
    clear he
    have Ho' := Lib.hid ho'
    clear ho'
    have HS := Lib.hid hS
    clear hS
    have Hv := Lib.hid hv
    clear hv
    gi_wp2_with fail
    generalize hWf : World.setCell _ _ _ = Wf
    have hoF : Blk Wf go 28 #[.int .u16 (o.mss : Int), .int .i64 o.scale, .bool o.sack, .slice A o.bl.length c, .bool o.time, .int .u32 (o.val : Int), .int .u32 (o.echo : Int)] := by
      rw [← hWf]
      have := (((((((Ho'.out.set_ 0 (.int .u16 (o.mss : Int))).set_ 1 (.int .i64 o.scale)).set_ 2 (.bool o.sack)).set_ 3 (.slice A o.bl.length c)).set_ 4 (.bool o.time)).set_ 5 (.int .u32 (o.val : Int))).set_ 6 (.int .u32 (o.echo : Int))).far (p := ⟨ge, 0, none⟩) hne_o_e (.int .i64 0)
      simpa using this
    have heF : Blk Wf ge 33 #[.int .i64 0] := by
      rw [← hWf]
      have := ((((((((He.out.far (p := ⟨go, 0, none⟩) (Ne.symm hne_o_e) (.int .u16 (o.mss : Int))).far (p := ⟨go, 1, none⟩) (Ne.symm hne_o_e) (.int .i64 o.scale)).far (p := ⟨go, 2, none⟩) (Ne.symm hne_o_e) (.bool o.sack)).far (p := ⟨go, 3, none⟩) (Ne.symm hne_o_e) (.slice A o.bl.length c)).far (p := ⟨go, 4, none⟩) (Ne.symm hne_o_e) (.bool o.time)).far (p := ⟨go, 5, none⟩) (Ne.symm hne_o_e) (.int .u32 (o.val : Int))).far (p := ⟨go, 6, none⟩) (Ne.symm hne_o_e) (.int .u32 (o.echo : Int))).set_ 0 (.int .i64 0))
      simpa using this
    have hn1 := own_blk_ne Hv.out Ho'.out (by decide)
    have hn2 := own_blk_ne Hv.out He.out (by decide)
    have hvF : Wf.ownsRow w.heap.size 92 2 (.slice A o.bl.length c) o.bl.length (o.bl.flatMap blkC) := by
      rw [← hWf]
      refine World.ownsRow.kept (row := some ge) (World.ownsRow.kept (row := some go) Hv.out ?_ (.inr hn1)) (only_set (World.grownBy.refl _ _) _ _) (.inr hn2)
      repeat (refine only_set ?_ _ _)
      exact World.grownBy.refl _ _
    have hBF : Below w.heap.size w Wf := by
      rw [← hWf]
      repeat (first | (refine Below.setCell ?_ hle_e _) | (refine Below.setCell ?_ hle_o _))
      exact HB.out
    have hDo : D ≠ go := fun e => by subst e; have := Ho'.out; rw [show W.heap[D]? = _ from this] at hK; cases hK
    have hDe : D ≠ ge := fun e => by subst e; have := He.out; rw [show W.heap[D]? = _ from this] at hK; cases hK
    have hKF : Wf.heap[D]? = some (.deferred (some [])) := by
      rw [← hWf]
      rw [Below.heap_setCell _ _ _ D hDe, Below.heap_setCell _ _ _ D hDo, Below.heap_setCell _ _ _ D hDo, Below.heap_setCell _ _ _ D hDo, Below.heap_setCell _ _ _ D hDo, Below.heap_setCell _ _ _ D hDo, Below.heap_setCell _ _ _ D hDo, Below.heap_setCell _ _ _ D hDo]
      exact hK
    clear hWf
    have hg := grownBy_putObj' Wf D (.deferred none)
    have hnr : ∀ r, some D = some r → ∃ o : Obj, Wf.heap[r]? = some o ∧ o.isCells = false := fun r e => by cases e; exact ⟨_, hKF, rfl⟩
    have ho1 := blk_notrow hoF hg hnr
    have he1 := blk_notrow heF hg hnr
    have hv1 := own_notrow hvF hg hnr
    have hB1 := hBF.trans (belowK_b (w := w) (Nat.le_refl _) Wf D (.deferred (some [])) (.deferred none) (Nat.le_trans hB4.size hD) hKF rfl rfl)
    obtain ⟨A2, c2, hAc, hbl2⟩ := own_blrC hv1
    injection hAc with e1 _ e3
    subst e1 e3
    have z0 := ho1.cell 0
    have z1 := ho1.cell 1
    have z2 := ho1.cell 2
    have z3 := ho1.cell 3
    have z4 := ho1.cell 4
    have z5 := ho1.cell 5
    have z6 := ho1.cell 6
    simp at z0 z1 z2 z3 z4 z5 z6
    have y0 := he1.cell 0
    try simp at y0
    refine ⟨by simp, .inl ⟨_, _, rfl, run_takeDeferred hKF, ?_⟩⟩
    refine ⟨.tuple #[.agg (optC o A c), .int .i64 0], by simp [results, Try.results42, go_sem, optC, z0, z1, z2, z3, z4, z5, z6, y0], ?_⟩
    exact ⟨o, A, c, 0, rfl, ⟨hbl2, own_newA hv1⟩, hB1, by unfold decR; rw [if_neg (by omega), Hdec.out]⟩
  case stop =>
    rintro D c pre W hD hS ⟨rfl, hB, hf, ho, he⟩ hK
    gi_wp2_with fail
    have hg := grownBy_putObj' W D (.deferred none)
    have hnr : ∀ r, some D = some r → ∃ o : Obj, W.heap[r]? = some o ∧ o.isCells = false := fun r e => by cases e; exact ⟨_, hK, rfl⟩
    have ho1 := blk_notrow ho hg hnr
    have he1 := blk_notrow he hg hnr
    have hB1 := hB.trans (belowK_b (w := w) (Nat.le_refl _) W D (.deferred (some [])) (.deferred none) (Nat.le_trans hB4.size hD) hK rfl rfl)
    unfold zeroV at ho1
    have z0 := ho1.cell 0
    have z1 := ho1.cell 1
    have z2 := ho1.cell 2
    have z3 := ho1.cell 3
    have z4 := ho1.cell 4
    have z5 := ho1.cell 5
    have z6 := ho1.cell 6
    simp at z0 z1 z2 z3 z4 z5 z6
    have y0 := he1.cell 0
    try simp at y0
    have hdec : decL L = none := by
      obtain ⟨q, hq⟩ := hS
      unfold decL
      rw [← hq, foldD_append, hf]
      rfl
    refine ⟨by simp, .inl ⟨_, _, rfl, run_takeDeferred hK, ?_⟩⟩
    refine ⟨.tuple #[.agg #[.int .u16 0, .int .i64 0, .bool false, .slice none 0 0, .bool false, .int .u32 0, .int .u32 0], .int .i64 70], by simp [results, Try.results42, go_sem, z0, z1, z2, z3, z4, z5, z6, y0], ?_⟩
    exact ⟨zeroO, none, 0, 70, rfl, ⟨.inl rfl, fun _ e => by cases e⟩, hB1, by unfold decR; rw [if_neg (by omega), hdec]⟩
end Go.Proofs.Ytengegcnocdkoaa
end
