/- Layer 7 (opt): each, the iterator that tells where options stand. -/
import Derived.Test.YtimepplfaaddeaaOptLong
import Derived.Test.YtimepplfaaddeaaFence
import Derived.Test.YtimepplfaaddeaaFlowW
import Derived.RangeFuncNested
import Derived.RangeFuncBound
import Derived.RangeFuncCalls
import Derived.RangeFuncLeaves
import Derived.RangeFuncBox
import Derived.Shelf.Abstract
import Derived.Shelf.RegionOpen
import Derived.OwnWalkIn
import Derived.TacticsInMore
import Derived.LoopNIn
import Derived.LoopIn
import Derived.Sort.CutIn
set_option linter.unusedVariables false
set_option linter.unusedSimpArgs false
namespace Go.Proofs.Ytimepplfaaddeaa
open Go.RowKit Go.BigFrame Go.Shelf
attribute [local go_sem] Oper.semAt_some

/-- what a round keeps: what lay below n₀, and each box of a string -/
def KeepsS (n₀ : Nat) (A B : World) : Prop := Below n₀ A B ∧ ∀ (i : Nat) (cs : Array Value), Blk A i 9 cs → Blk B i 9 cs
theorem KeepsS.trans {n₀ : Nat} {A B C : World} (h : KeepsS n₀ A B) (k : KeepsS n₀ B C) : KeepsS n₀ A C := ⟨h.1.trans k.1, fun i cs e => k.2 i cs (h.2 i cs e)⟩
theorem KeepsS.refl (n₀ : Nat) (A : World) : KeepsS n₀ A A := ⟨Below.refl _ _, fun i cs e => e⟩
theorem KeepsS.of_below {n₀ : Nat} {A B : World} (hn : n₀ ≤ A.heap.size) (h : Below A.heap.size A B) : KeepsS n₀ A B := ⟨h.mono hn, fun i cs e => e.below h e.lt⟩
theorem KeepsS.putObj {n₀ : Nat} {w : World} (hn : n₀ ≤ w.heap.size) (W : World) (l : Nat) (o o' : Obj) (hl : w.heap.size ≤ l) (h : W.heap[l]? = some o) (hc : o.isCells = false) (hw : o.isWalk = false) : KeepsS n₀ W (W.putObj l o') :=
  ⟨belowK_b hn W l o o' hl h hc hw, fun i cs e => (World.putObj_heap_other (by rintro rfl; unfold Blk at e; rw [h] at e; cases e; cases hc)).trans e⟩
/-- a place that the bytes have -/
def InP (L : List UInt8) (p : Nat × Nat) : Prop := p ∈ placesAt L 0
abbrev PV (L : List UInt8) := { p : Nat × Nat // OkP L p ∧ InP L p }
theorem each_in (s : ByteArray) (w : World) :
    CallsIn Fence.wide 2 Try.prog 24 #[.string s] w fun e w' => e = .returned (.func (.func 36) #[] #[.pointer (some ⟨w.heap.size, 0, none⟩)]) ∧ w' = w.alloc (.cells #[.string s] 9) := by
  refine callsIn_of_wp Try.func24 rfl trivial ?_ rfl
  simp only [Try.ntmps24, List.size_toArray, List.length_cons, List.length_nil, Nat.reduceAdd, Nat.reduceSub, Array.replicate_succ, Array.replicate_zero, List.push_toArray, List.append_toArray, List.nil_append, List.cons_append]
  have hmf : ∀ (fn : Fn) (first cap : Array Value) (w : World), (Instr.makeFunc fn first cap).run Try.prog w = .ok (.func fn first cap) w := fun _ _ _ _ => rfl
  gi_wp2
  go_ret
  exact ⟨rfl, rfl⟩
theorem index_at (x : ByteArray) (j : Nat) (h : j < x.data.toList.length) (W : World) : (Instr.index 9 (.string x) (.int .i64 (j : Int))).run Try.prog W = .ok (.int .u8 ((byteN x.data.toList j : Nat) : Int)) W := by
  have hl : j < x.size := by simpa using h
  rw [run_index_string W 9 x .i64 _ Try.underlying9, dif_pos ⟨by omega, by omega⟩]
  unfold byteN
  rw [List.getElem?_eq_getElem h, Option.getD_some]
  rfl
set_option maxRecDepth 100000 in
set_option maxHeartbeats 8000000 in
theorem each1_in (n₀ Bs : Nat) (x : ByteArray) (L : List UInt8) (hx : x.data.toList = L) (hm : L.length ≤ 1000) (l : Nat) (J Jx : List (PV L) → World → Prop)
    (W : World) (hW : n₀ ≤ W.heap.size) (hJ : AbidesFrom W.heap.size J)
    (hY : ∀ pre x W1, J pre W1 → pre.length < (placesAt L 0).length → YieldAt Fence.wide 1 Try.prog l #[.int .i64 (x.1.1 : Int), .int .i64 (x.1.2 : Int)] W1 fun e W' =>
      (e = .returned (.bool true) ∧ J (pre ++ [x]) W' ∧ KeepsS n₀ W1 W') ∨ (e = .returned (.bool false) ∧ Jx (pre ++ [x]) W'))
    (hBs : Blk W Bs 9 #[.string x]) (h0 : J [] W) :
    CallsIn Fence.wide 2 Try.prog 36 #[.func (.yield l) #[] #[], .pointer (some ⟨Bs, 0, none⟩)] W fun e W' => (∃ v, e = .returned v) ∧
      ((∃ ys : List (PV L), ys.map (·.1) = placesAt L 0 ∧ J ys W') ∨ (∃ pre : List (PV L), pre.map (·.1) <+: placesAt L 0 ∧ Jx pre W')) := by
  have hsz : x.size = L.length := by rw [← hx]; simp
  refine callsIn_of_wp Try.func36 rfl trivial ?_ rfl
  simp only [Try.ntmps36, List.size_toArray, List.length_cons, List.length_nil, Nat.reduceAdd, Nat.reduceSub, Array.replicate_succ, Array.replicate_zero, List.push_toArray, List.append_toArray, List.nil_append, List.cons_append]
  have Hx := Lib.hid hx
  have Hsz := Lib.hid hsz
  clear hx hsz
  gi_wp2
  gi_loopw [3, 4] (fun i m wr => ∃ (k : Nat) (pre : List (PV L)), k ≤ L.length ∧ i = .int .i64 (k : Int) ∧ pre.map (·.1) ++ placesAt L k = placesAt L 0 ∧ J pre wr ∧ KeepsS n₀ W wr)
    (fun i _ _ => L.length - (intOf i).toNat)
  case atStart => exact ⟨0, [], Nat.zero_le _, rfl, rfl, h0, KeepsS.refl _ _⟩
  case round =>
    obtain ⟨k, pre, hk, rfl, hp, hj, hb⟩ := hrel
    have hsz := Hsz.out
    have hbs := hb.2 _ _ hBs
    have cB := hbs.cell 0
    simp at cB
    have hle : n₀ ≤ wr.heap.size := Nat.le_trans hW hb.1.size
    have ne : Nonempty (Cls (Fresh wr)) := ⟨⟨wr, Below.refl _ _⟩⟩
    by_cases h1 : k < L.length
    · have j1 : (k : Int) < (L.length : Int) := by omega
      have hix := fun W => index_at x k (by rw [Hx.out]; exact h1) W
      rw [Hx.out] at hix
      obtain ⟨b, hbe⟩ : ∃ b, b = byteN L k := ⟨_, rfl⟩
      rw [← hbe] at hix
      have hb256 : b < 256 := by rw [hbe]; exact byteN_lt _ _
      by_cases hb0 : b = 0
      · have t1 : ((b : Int) != 0) = false := by rw [hb0]; rfl
        have t2 : ((b : Int) == 0) = true := by rw [hb0]; rfl
        have hpl : placesAt L k = [] := places_end (by rw [← hbe, hb0]; simp)
        rw [hpl, List.append_nil] at hp
        have Hp := Lib.hid hp
        clear hp
        have Hpl := Lib.hid hpl
        clear hpl
        have Hbe := Lib.hid hbe
        clear hbe
        have Hb0 := Lib.hid hb0
        clear hb0
        clear hY ne hb hbs hle
        gi_wp2
        first | go_end0 | refine bodyPost_ret (results_none rfl _ _ _) rfl ?_
        exact ⟨⟨_, rfl⟩, .inl ⟨pre, Hp.out, hj⟩⟩
      have t1 : ((b : Int) != 0) = true := by simp; omega
      have t0 : ((b : Int) == 0) = false := by simp; omega
      by_cases hb1 : b = 1
      · have t2 : ((b : Int) == 1) = true := by rw [hb1]; rfl
        have hpl : placesAt L k = placesAt L (k + 1) := places_one h1 (by rw [← hbe, hb1])
        rw [hpl] at hp
        have Hp := Lib.hid hp
        clear hp
        have Hpl := Lib.hid hpl
        clear hpl
        have Hbe := Lib.hid hbe
        clear hbe
        have Hb1 := Lib.hid hb1
        clear hb1
        have Hb0 := Lib.hid hb0
        clear hb0
        clear hY ne hbs hle
        gi_wp2
        go_roundw
        case rel => exact ⟨k + 1, pre, by omega, by go_num, Hp.out, hj, hb⟩
        case measure => simp [intOf]; omega
      have t2 : ((b : Int) == 1) = false := by simp; omega
      have hkb0 : byteN L k ≠ 0 := by rw [← hbe]; exact hb0
      have hkb1 : byteN L k ≠ 1 := by rw [← hbe]; exact hb1
      have kB : ∀ y : Cls (Fresh wr), y.w.cell? ⟨Bs, 0, none⟩ = some (.string x) := fun y => (by have := (hbs.below y.h hbs.lt).cell 0; simpa using this)
      have hS0 : Fresh wr wr := Below.refl _ _
      have cf : ∀ (vals : Array Value) (w : World), (callFunc 37 vals).run Try.prog w = .ok (.enter 37 vals) w := fun _ _ => by kernel_rfl
      obtain ⟨c, hce⟩ : ∃ c, c = byteN L (k + 1) := ⟨_, rfl⟩
      have hc256 : c < 256 := by rw [hce]; exact byteN_lt _ _
      have m1 : ∀ y : Cls (Fresh wr), Calls Try.prog 37 #[.int .u8 (b : Int), .int .i64 (c : Int)] y.w fun e w'' => e = .returned (.bool (longB b c)) ∧ Fresh wr w'' ∧ Below y.w.heap.size y.w w'' := fun y => (long_any b c y.w hb256).mono fun e w' ⟨he, hb⟩ => ⟨he, Fresh.below y.h hb, hb⟩
      by_cases hgood : stepN L k = 0
      · have hpl : placesAt L k = [(k, 0)] := places_bad h1 hkb0 hkb1 hgood
        have hok : OkP L (k, 0) ∧ InP L (k, 0) := ⟨⟨h1, hkb0, hkb1, hgood.symm⟩, by unfold InP; rw [← hp, hpl]; simp⟩
        have hlen : pre.length < (placesAt L 0).length := by rw [← hp, hpl]; simp
        have hbad : ¬ (k + 1 < L.length ∧ longB b c = true ∧ k + c ≤ L.length) := by
          rintro ⟨h2, h3, h4⟩
          have h5 := longB_two h3
          unfold stepN at hgood
          rw [← hbe, ← hce, if_pos ⟨h2, h3, h4⟩] at hgood
          omega
        by_cases h2 : k + 1 < L.length
        · have j2 : (k : Int) + 1 < (L.length : Int) := by omega
          have hix2 := fun W => index_at x (k + 1) (by rw [Hx.out]; exact h2) W
          rw [Hx.out, ← hce, show ((k + 1 : Nat) : Int) = (k : Int) + 1 by omega] at hix2
          cases h3 : longB b c with
          | false =>
            rw [h3] at m1
            have Cf := Lib.hid cf
            clear cf
            have M1 := Lib.hid m1
            clear m1
            have Hbe := Lib.hid hbe
            clear hbe
            have Hce := Lib.hid hce
            clear hce
            have Hb0 := Lib.hid hb0
            clear hb0
            have Hb1 := Lib.hid hb1
            clear hb1
            have Hkb0 := Lib.hid hkb0
            clear hkb0
            have Hkb1 := Lib.hid hkb1
            clear hkb1
            have Hgood := Lib.hid hgood
            clear hgood
            have Hbad := Lib.hid hbad
            clear hbad
            have H3 := Lib.hid h3
            clear h3
            gi_upto_region 5 with fail
            refine wpIn_wide.2 ?_
            refine wp_region_flow 28 (Fresh wr) (fun w w' => Below w.heap.size w w') (by kernel_rfl) (by kernel_rfl) (by kernel_rfl) (fun w => Below.refl _ _) (Fresh.below hS0 (Below.drew (Below.refl _ _))) ?_
            simp only [List.take_succ_cons, List.take_zero, List.drop_succ_cons, List.drop_zero]
            repeat (first
              | (refine flow_skip rfl rfl wr ?_; intro K hK; go_big_quiet_op; go_big_quiet_on)
              | (refine flow_quiet (fun w => Below.refl _ _) rfl rfl rfl rfl ?_; intro K hK; go_big_quiet_op; go_big_quiet_on)
              | (refine flow_call Cf.out _ ?_ rfl rfl rfl _ M1.out wr ?_; (focus (simp only [List.map_toArray, List.map_cons, List.map_nil]; rfl)); intro K hK; go_big_quiet_op; go_big_quiet_on))
            refine flow_nil ?_
            intro W5 ff hW5 hF5
            simp only [fillW]
            simp only [wpList, Exit.then]
            go_at_K
            clear hF5
            have hj5 : J pre W5 := hJ _ _ _ none hj (only_of_below hW5 none) (by simp)
            have hb5 : KeepsS n₀ W W5 := hb.trans (KeepsS.of_below hle hW5)
            have cB5 := (hbs.below hW5 hbs.lt).cell 0
            simp at cB5
            clear kB cB hj hb hbs hle ne hS0 hW5
            obtain ⟨fn, tmps, assign, body, hy, hR⟩ := hY pre ⟨(k, 0), hok⟩ W5 hj5 hlen
            dsimp only at hy
            rw [show ((0 : Nat) : Int) = 0 from rfl] at hy
            have HP := Lib.hid hp
            have HPL := Lib.hid hpl
            have HK := Lib.hid hb5
            clear hY hlen hp hpl hb5 hj5
            gi_wp2
            refine hR.mono ?_
            rintro e W3 (⟨rfl, hJ3, hk3⟩ | ⟨rfl, hJx3⟩)
            · clear hy hR
              gi_wp2
              first | go_end0 | refine bodyPost_ret (results_none rfl _ _ _) rfl ?_
              refine ⟨⟨_, rfl⟩, .inl ⟨_, ?_, hJ3⟩⟩
              rw [List.map_append, ← HP.out, HPL.out]
              rfl
            · clear hy hR
              gi_wp2
              first | go_end0 | refine bodyPost_ret (results_none rfl _ _ _) rfl ?_
              refine ⟨⟨_, rfl⟩, .inr ⟨_, ?_, hJx3⟩⟩
              rw [List.map_append, ← HP.out, HPL.out]
              exact List.prefix_rfl
          | true =>
            rw [h3] at m1
            have h4 : ¬ (k : Int) + (c : Int) ≤ (L.length : Int) := by
              intro h4
              exact hbad ⟨h2, h3, by omega⟩
            have Cf := Lib.hid cf
            clear cf
            have M1 := Lib.hid m1
            clear m1
            have Hbe := Lib.hid hbe
            clear hbe
            have Hce := Lib.hid hce
            clear hce
            have Hb0 := Lib.hid hb0
            clear hb0
            have Hb1 := Lib.hid hb1
            clear hb1
            have Hkb0 := Lib.hid hkb0
            clear hkb0
            have Hkb1 := Lib.hid hkb1
            clear hkb1
            have Hgood := Lib.hid hgood
            clear hgood
            have Hbad := Lib.hid hbad
            clear hbad
            have H3 := Lib.hid h3
            clear h3
            gi_upto_region 5 with fail
            refine wpIn_wide.2 ?_
            refine wp_region_flow 28 (Fresh wr) (fun w w' => Below w.heap.size w w') (by kernel_rfl) (by kernel_rfl) (by kernel_rfl) (fun w => Below.refl _ _) (Fresh.below hS0 (Below.drew (Below.refl _ _))) ?_
            simp only [List.take_succ_cons, List.take_zero, List.drop_succ_cons, List.drop_zero]
            repeat (first
              | (refine flow_skip rfl rfl wr ?_; intro K hK; go_big_quiet_op; go_big_quiet_on)
              | (refine flow_quiet (fun w => Below.refl _ _) rfl rfl rfl rfl ?_; intro K hK; go_big_quiet_op; go_big_quiet_on)
              | (refine flow_call Cf.out _ ?_ rfl rfl rfl _ M1.out wr ?_; (focus (simp only [List.map_toArray, List.map_cons, List.map_nil]; rfl)); intro K hK; go_big_quiet_op; go_big_quiet_on))
            refine flow_nil ?_
            intro W5 ff hW5 hF5
            simp only [fillW]
            simp only [wpList, Exit.then]
            go_at_K
            clear hF5
            have hj5 : J pre W5 := hJ _ _ _ none hj (only_of_below hW5 none) (by simp)
            have hb5 : KeepsS n₀ W W5 := hb.trans (KeepsS.of_below hle hW5)
            have cB5 := (hbs.below hW5 hbs.lt).cell 0
            simp at cB5
            clear kB cB hj hb hbs hle ne hS0 hW5
            obtain ⟨fn, tmps, assign, body, hy, hR⟩ := hY pre ⟨(k, 0), hok⟩ W5 hj5 hlen
            dsimp only at hy
            rw [show ((0 : Nat) : Int) = 0 from rfl] at hy
            have HP := Lib.hid hp
            have HPL := Lib.hid hpl
            have HK := Lib.hid hb5
            clear hY hlen hp hpl hb5 hj5
            gi_wp2
            refine hR.mono ?_
            rintro e W3 (⟨rfl, hJ3, hk3⟩ | ⟨rfl, hJx3⟩)
            · clear hy hR
              gi_wp2
              first | go_end0 | refine bodyPost_ret (results_none rfl _ _ _) rfl ?_
              refine ⟨⟨_, rfl⟩, .inl ⟨_, ?_, hJ3⟩⟩
              rw [List.map_append, ← HP.out, HPL.out]
              rfl
            · clear hy hR
              gi_wp2
              first | go_end0 | refine bodyPost_ret (results_none rfl _ _ _) rfl ?_
              refine ⟨⟨_, rfl⟩, .inr ⟨_, ?_, hJx3⟩⟩
              rw [List.map_append, ← HP.out, HPL.out]
              exact List.prefix_rfl
        · have j2 : ¬ (k : Int) + 1 < (L.length : Int) := by omega
          have Cf := Lib.hid cf
          clear cf
          have M1 := Lib.hid m1
          clear m1
          have Hbe := Lib.hid hbe
          clear hbe
          have Hce := Lib.hid hce
          clear hce
          have Hb0 := Lib.hid hb0
          clear hb0
          have Hb1 := Lib.hid hb1
          clear hb1
          have Hkb0 := Lib.hid hkb0
          clear hkb0
          have Hkb1 := Lib.hid hkb1
          clear hkb1
          have Hgood := Lib.hid hgood
          clear hgood
          have Hbad := Lib.hid hbad
          clear hbad
          gi_upto_region 5 with fail
          refine wpIn_wide.2 ?_
          refine wp_region_flow 28 (Fresh wr) (fun w w' => Below w.heap.size w w') (by kernel_rfl) (by kernel_rfl) (by kernel_rfl) (fun w => Below.refl _ _) (Fresh.below hS0 (Below.drew (Below.refl _ _))) ?_
          simp only [List.take_succ_cons, List.take_zero, List.drop_succ_cons, List.drop_zero]
          repeat (first
            | (refine flow_skip rfl rfl wr ?_; intro K hK; go_big_quiet_op; go_big_quiet_on)
            | (refine flow_quiet (fun w => Below.refl _ _) rfl rfl rfl rfl ?_; intro K hK; go_big_quiet_op; go_big_quiet_on)
            | (refine flow_call Cf.out _ ?_ rfl rfl rfl _ M1.out wr ?_; (focus (simp only [List.map_toArray, List.map_cons, List.map_nil]; rfl)); intro K hK; go_big_quiet_op; go_big_quiet_on))
          refine flow_nil ?_
          intro W5 ff hW5 hF5
          simp only [fillW]
          simp only [wpList, Exit.then]
          go_at_K
          clear hF5
          have hj5 : J pre W5 := hJ _ _ _ none hj (only_of_below hW5 none) (by simp)
          have hb5 : KeepsS n₀ W W5 := hb.trans (KeepsS.of_below hle hW5)
          have cB5 := (hbs.below hW5 hbs.lt).cell 0
          simp at cB5
          clear kB cB hj hb hbs hle ne hS0 hW5
          obtain ⟨fn, tmps, assign, body, hy, hR⟩ := hY pre ⟨(k, 0), hok⟩ W5 hj5 hlen
          dsimp only at hy
          rw [show ((0 : Nat) : Int) = 0 from rfl] at hy
          have HP := Lib.hid hp
          have HPL := Lib.hid hpl
          have HK := Lib.hid hb5
          clear hY hlen hp hpl hb5 hj5
          gi_wp2
          refine hR.mono ?_
          rintro e W3 (⟨rfl, hJ3, hk3⟩ | ⟨rfl, hJx3⟩)
          · clear hy hR
            gi_wp2
            first | go_end0 | refine bodyPost_ret (results_none rfl _ _ _) rfl ?_
            refine ⟨⟨_, rfl⟩, .inl ⟨_, ?_, hJ3⟩⟩
            rw [List.map_append, ← HP.out, HPL.out]
            rfl
          · clear hy hR
            gi_wp2
            first | go_end0 | refine bodyPost_ret (results_none rfl _ _ _) rfl ?_
            refine ⟨⟨_, rfl⟩, .inr ⟨_, ?_, hJx3⟩⟩
            rw [List.map_append, ← HP.out, HPL.out]
            exact List.prefix_rfl
      · obtain ⟨h2, h3, h4, h5, h6⟩ := stepN_pos hgood
        have hpl : placesAt L k = (k, c) :: placesAt L (k + c) := by
          have := places_cons h1 hkb0 hkb1 hgood
          rwa [h5, ← hce] at this
        have hok : OkP L (k, c) ∧ InP L (k, c) := ⟨⟨h1, hkb0, hkb1, by rw [hce, ← h5]⟩, by unfold InP; rw [← hp, hpl]; simp⟩
        have hlen : pre.length < (placesAt L 0).length := by rw [← hp, hpl]; simp
        rw [← hbe, ← hce] at h3
        rw [h5, ← hce] at h4
        rw [h5, ← hce] at h6
        rw [h3] at m1
        have j2 : (k : Int) + 1 < (L.length : Int) := by omega
        have j3 : (k : Int) + (c : Int) ≤ (L.length : Int) := by omega
        have hix2 := fun W => index_at x (k + 1) (by rw [Hx.out]; exact h2) W
        rw [Hx.out, ← hce, show ((k + 1 : Nat) : Int) = (k : Int) + 1 by omega] at hix2
        have t3 : ((c : Int) == 0) = false := by simp; omega
        have Cf := Lib.hid cf
        clear cf
        have M1 := Lib.hid m1
        clear m1
        have Hbe := Lib.hid hbe
        clear hbe
        have Hce := Lib.hid hce
        clear hce
        have Hb0 := Lib.hid hb0
        clear hb0
        have Hb1 := Lib.hid hb1
        clear hb1
        have Hkb0 := Lib.hid hkb0
        clear hkb0
        have Hkb1 := Lib.hid hkb1
        clear hkb1
        have Hgood := Lib.hid hgood
        clear hgood
        have H3 := Lib.hid h3
        clear h3
        have H5 := Lib.hid h5
        clear h5
        gi_upto_region 5 with fail
        refine wpIn_wide.2 ?_
        refine wp_region_flow 28 (Fresh wr) (fun w w' => Below w.heap.size w w') (by kernel_rfl) (by kernel_rfl) (by kernel_rfl) (fun w => Below.refl _ _) (Fresh.below hS0 (Below.drew (Below.refl _ _))) ?_
        simp only [List.take_succ_cons, List.take_zero, List.drop_succ_cons, List.drop_zero]
        repeat (first
          | (refine flow_skip rfl rfl wr ?_; intro K hK; go_big_quiet_op; go_big_quiet_on)
          | (refine flow_quiet (fun w => Below.refl _ _) rfl rfl rfl rfl ?_; intro K hK; go_big_quiet_op; go_big_quiet_on)
          | (refine flow_call Cf.out _ ?_ rfl rfl rfl _ M1.out wr ?_; (focus (simp only [List.map_toArray, List.map_cons, List.map_nil]; rfl)); intro K hK; go_big_quiet_op; go_big_quiet_on))
        refine flow_nil ?_
        intro W5 ff hW5 hF5
        simp only [fillW]
        simp only [wpList, Exit.then]
        go_at_K
        clear hF5
        have hj5 : J pre W5 := hJ _ _ _ none hj (only_of_below hW5 none) (by simp)
        have hb5 : KeepsS n₀ W W5 := hb.trans (KeepsS.of_below hle hW5)
        have cB5 := (hbs.below hW5 hbs.lt).cell 0
        simp at cB5
        clear kB cB hj hb hbs hle ne hS0 hW5
        obtain ⟨fn, tmps, assign, body, hy, hR⟩ := hY pre ⟨(k, c), hok⟩ W5 hj5 hlen
        dsimp only at hy
        have HP := Lib.hid hp
        have HPL := Lib.hid hpl
        have HK := Lib.hid hb5
        clear hY hlen hp hpl hb5 hj5
        gi_wp2
        refine hR.mono ?_
        rintro e W3 (⟨rfl, hJ3, hk3⟩ | ⟨rfl, hJx3⟩)
        · clear hy hR
          gi_wp2
          go_roundw
          case rel =>
            refine ⟨k + c, _, by omega, by go_num, ?_, hJ3, HK.out.trans hk3⟩
            rw [List.map_append, List.append_assoc, ← HP.out, HPL.out]
            rfl
          case measure => simp [intOf]; omega
        · clear hy hR
          gi_wp2
          first | go_end0 | refine bodyPost_ret (results_none rfl _ _ _) rfl ?_
          refine ⟨⟨_, rfl⟩, .inr ⟨_, ?_, hJx3⟩⟩
          rw [List.map_append, ← HP.out, HPL.out]
          exact ⟨placesAt L (k + c), by simp⟩
    · have hpl : placesAt L k = [] := places_end (by rintro ⟨h, _⟩; exact h1 h)
      have j1 : ¬ (k : Int) < (L.length : Int) := by omega
      rw [hpl, List.append_nil] at hp
      have Hp := Lib.hid hp
      clear hp
      have Hpl := Lib.hid hpl
      clear hpl
      clear hY ne hb hbs hle
      gi_wp2
      first | go_end0 | refine bodyPost_ret (results_none rfl _ _ _) rfl ?_
      exact ⟨⟨_, rfl⟩, .inl ⟨pre, Hp.out, hj⟩⟩
theorem each_stops (n₀ Bs : Nat) (x : ByteArray) (L : List UInt8) (hx : x.data.toList = L) (hm : L.length ≤ 1000) (w : World) (hw : n₀ ≤ w.heap.size) (hBs : Blk w Bs 9 #[.string x]) :
    SeqStopsK Fence.wide 2 Try.prog 36 #[.pointer (some ⟨Bs, 0, none⟩)] (fun x : PV L => #[Value.int .i64 (x.1.1 : Int), Value.int .i64 (x.1.2 : Int)]) (KeepsS n₀) (fun ys => ys.map (·.1) = placesAt L 0) (fun pre => pre.map (·.1) <+: placesAt L 0) (placesAt L 0).length w :=
  fun l J Jx W hW hJ _ hY h0 => by
    refine (each1_in n₀ Bs x L hx hm l J Jx W (Nat.le_trans hw hW.size) hJ hY (hBs.below hW hBs.lt) h0).mono ?_
    rintro e W' ⟨he, h | ⟨pre, hp, hx⟩⟩
    · exact ⟨he, .inl h⟩
    · exact ⟨he, .inr ⟨pre, hp, hx⟩⟩
end Go.Proofs.Ytimepplfaaddeaa
