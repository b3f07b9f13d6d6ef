/- Contracts and plain lemmas: PktTurnS, OptRTurn, OptRep, OptTurnW, PktLay, PktRewP, PktWf. -/
import Derived.Laws.Bits64
import Derived.StillTailTactics
import Derived.Laws.CopyOwn
import Derived.Test.YtengegcnocdkoaaRe8
import Derived.Test.YtengegcnocdkoaaRe6
import Derived.Test.YtengegcnocdkoaaRe4
import Derived.Test.YtengegcnocdkoaaRe5
import Derived.Test.YtengegcnocdkoaaRe7
set_option linter.unusedVariables false
set_option linter.unusedSimpArgs false
set_option linter.unusedSectionVars false
section
set_option maxRecDepth 20000
namespace Go.Proofs.Ytengegcnocdkoaa
open Go.RowKit
/-- a shift -/
structure Sh where
  x0 : Nat
  x1 : Nat
  x2 : Nat
  x3 : Nat
  x4 : Nat
  x5 : Nat
  x6 : Nat
  x7 : Nat
  x8 : Int
  x9 : Int
structure Sh.wf (x : Sh) : Prop where
  b0 : x.x0 < 4294967296
  b1 : x.x1 < 65536
  b2 : x.x2 < 4294967296
  b3 : x.x3 < 65536
  b4 : x.x4 < 4294967296
  b5 : x.x5 < 4294967296
  b6 : x.x6 < 4294967296
  b7 : x.x7 < 4294967296
def Sh.c (x : Sh) : Array Value := #[.int .u32 (x.x0 : Int), .int .u16 (x.x1 : Int), .int .u32 (x.x2 : Int), .int .u16 (x.x3 : Int), .int .u32 (x.x4 : Int), .int .u32 (x.x5 : Int), .int .u32 (x.x6 : Int), .int .u32 (x.x7 : Int), .int .i64 x.x8, .int .i64 x.x9]
def ackB (f : Nat) : Bool := bits .and .u8 (f : Int) 16 != 0
def turnS (s : Sg) (x : Sh) : Sg := ⟨x.x0, x.x1, x.x2, x.x3, (s.s4 + x.x4) % 4294967296, if ackB s.f = true then (s.s5 + x.x5) % 4294967296 else s.s5, s.f, (winT s.s7 x.x8 x.x9).toNat, turnO x.x5 x.x6 x.x7 s.o, s.d⟩
theorem winT_nn (a : Nat) (u v : Int) : 0 ≤ winT a u v := by
  unfold winT
  have hp : (0 : Int) < 2 ^ scN u := Int.pow_pos (by decide)
  have hq : (0 : Int) < 2 ^ scN v := Int.pow_pos (by decide)
  have hm : (0 : Int) ≤ (a : Int) * 2 ^ scN u := Int.mul_nonneg (by omega) (by omega)
  have := Int.ediv_nonneg hm (Int.le_of_lt hq)
  omega
theorem cast_am (a b : Nat) : (((a + b) % 4294967296 : Nat) : Int) = ((a : Int) + (b : Int)) % 4294967296 := by omega
theorem cast_if (p : Prop) [Decidable p] (a b : Nat) : ((if p then a else b : Nat) : Int) = if p then (a : Int) else (b : Int) := by split <;> rfl
theorem turnedC_S (s : Sg) (x : Sh) (A : Option Addr) (c : Nat) : turnedC s.s4 s.s5 s.f s.s7 s.o.mss s.o.scale s.o.sack s.o.time s.o.val s.o.echo s.d x.x0 x.x1 x.x2 x.x3 x.x4 x.x5 x.x6 x.x7 x.x8 x.x9 (.slice A (turnS s x).o.bl.length c) = (turnS s x).c A c := by
  have hw : (((winT s.s7 x.x8 x.x9).toNat : Nat) : Int) = winT s.s7 x.x8 x.x9 := Int.toNat_of_nonneg (winT_nn _ _ _)
  unfold turnedC Sg.c segO turnS turnO ackB
  simp only [hw]
  congr 1
  simp only [cast_if, cast_am]
def TurnSP (s : Sg) (x : Sh) (w : World) (e : Ending) (w' : World) : Prop := ∃ A c, e = .returned (.agg ((turnS s x).c A c)) ∧ BlR w' A (turnS s x).o.bl ∧ Below w.heap.size w w'
theorem pturned_any (w : World) (s : Sg) (x : Sh) (A : Option Addr) (c : Nat) (hs : s.wf) (hr : BlR w A s.o.bl) (hn : s.o.bl.length ≤ 1000) : Calls Try.prog 23 #[.agg (s.c A c), .agg x.c] w (TurnSP s x w) := by
  have h := turned_any s.s0 s.s1 s.s2 s.s3 s.s4 s.s5 s.f s.s7 s.o.mss s.o.scale s.o.sack s.o.time A s.o.bl.length c s.o.val s.o.echo s.d x.x0 x.x1 x.x2 x.x3 x.x4 x.x5 x.x6 x.x7 x.x8 x.x9 s.o.bl w rfl hr (by omega) (by omega) (by have := hs.b7; omega)
  refine h.mono ?_
  rintro e w' ⟨A', c', _, rfl, ho, hb⟩
  refine ⟨A', c', ?_, ?_, hb⟩
  · have hl : (s.o.bl.map (turnB x.x5)).length = (turnS s x).o.bl.length := by
      show _ = (s.o.bl.map (tP x.x5)).length
      simp
    rw [hl, turnedC_S]
  · obtain ⟨A2, c2, e1, e2⟩ := own_blrC ho
    injection e1 with e1
    subst e1
    exact e2
end Go.Proofs.Ytengegcnocdkoaa
end
section
set_option maxRecDepth 20000
namespace Go.Proofs.Ytengegcnocdkoaa
open Go.RowKit Go.BigFrame
def turnR (bl va ec : Nat) (L : List UInt8) : List UInt8 × Int := if (decR L).2 = 0 then (turnT bl va ec L, 0) else ([], (decR L).2)
def TurnPost (bl va ec : Nat) (w : World) (L : List UInt8) (e : Ending) (w' : World) : Prop := e = .returned (.tuple #[.string ⟨(turnR bl va ec L).1.toArray⟩, .int .i64 (turnR bl va ec L).2]) ∧ Below w.heap.size w w'
theorem decR_ok {L : List UInt8} (h : (decR L).2 = 0) : L.length ≤ 40 ∧ ∃ o, decL L = some o ∧ decR L = (o, 0) := by
  unfold decR at h ⊢
  split at h
  · cases h
  · rename_i hl
    rw [if_neg hl]
    cases hd : decL L with
    | none => rw [hd] at h; cases h
    | some o => exact ⟨by omega, o, rfl, rfl⟩
end Go.Proofs.Ytengegcnocdkoaa
end
section
set_option maxRecDepth 20000
namespace Go.Proofs.Ytengegcnocdkoaa
open Go.RowKit Go.BigFrame
theorem mul64_2 (w : World) : Calls Try.prog 102 #[.int .u64 1, .int .u64 2] w fun e w' => e = .returned (.tuple #[.int .u64 0, .int .u64 2]) ∧ w = w' := by
  go_enter Try.func102, Try.ntmps102
  go_wp2
  go_ret2
  exact ⟨rfl, rfl⟩
theorem mulu_2 (w : World) : Calls Try.prog 99 #[.int .u64 1, .int .u64 2] w fun e w' => e = .returned (.tuple #[.int .u64 0, .int .u64 2]) ∧ w = w' := by
  have h := mul64_2
  have H := Lib.hid h
  clear h
  go_enter Try.func99, Try.ntmps99
  go_wp2_with fail
  with_reducible refine (H.out _).mono ?_
  rintro e w' ⟨rfl, rfl⟩
  go_wp2
  go_ret2
  exact ⟨rfl, rfl⟩
theorem mul64_4 (w : World) : Calls Try.prog 102 #[.int .u64 1, .int .u64 4] w fun e w' => e = .returned (.tuple #[.int .u64 0, .int .u64 4]) ∧ w = w' := by
  go_enter Try.func102, Try.ntmps102
  go_wp2
  go_ret2
  exact ⟨rfl, rfl⟩
theorem mulu_4 (w : World) : Calls Try.prog 99 #[.int .u64 1, .int .u64 4] w fun e w' => e = .returned (.tuple #[.int .u64 0, .int .u64 4]) ∧ w = w' := by
  have h := mul64_4
  have H := Lib.hid h
  clear h
  go_enter Try.func99, Try.ntmps99
  go_wp2_with fail
  with_reducible refine (H.out _).mono ?_
  rintro e w' ⟨rfl, rfl⟩
  go_wp2
  go_ret2
  exact ⟨rfl, rfl⟩
theorem mul64_6 (w : World) : Calls Try.prog 102 #[.int .u64 1, .int .u64 6] w fun e w' => e = .returned (.tuple #[.int .u64 0, .int .u64 6]) ∧ w = w' := by
  go_enter Try.func102, Try.ntmps102
  go_wp2
  go_ret2
  exact ⟨rfl, rfl⟩
theorem mulu_6 (w : World) : Calls Try.prog 99 #[.int .u64 1, .int .u64 6] w fun e w' => e = .returned (.tuple #[.int .u64 0, .int .u64 6]) ∧ w = w' := by
  have h := mul64_6
  have H := Lib.hid h
  clear h
  go_enter Try.func99, Try.ntmps99
  go_wp2_with fail
  with_reducible refine (H.out _).mono ?_
  rintro e w' ⟨rfl, rfl⟩
  go_wp2
  go_ret2
  exact ⟨rfl, rfl⟩
theorem mul64_8 (w : World) : Calls Try.prog 102 #[.int .u64 1, .int .u64 8] w fun e w' => e = .returned (.tuple #[.int .u64 0, .int .u64 8]) ∧ w = w' := by
  go_enter Try.func102, Try.ntmps102
  go_wp2
  go_ret2
  exact ⟨rfl, rfl⟩
theorem mulu_8 (w : World) : Calls Try.prog 99 #[.int .u64 1, .int .u64 8] w fun e w' => e = .returned (.tuple #[.int .u64 0, .int .u64 8]) ∧ w = w' := by
  have h := mul64_8
  have H := Lib.hid h
  clear h
  go_enter Try.func99, Try.ntmps99
  go_wp2_with fail
  with_reducible refine (H.out _).mono ?_
  rintro e w' ⟨rfl, rfl⟩
  go_wp2
  go_ret2
  exact ⟨rfl, rfl⟩
theorem infoU32r : (Try.prog.info? 22).map (·.size) = some 1 := by kernel_rfl
theorem makeU32 (m : Nat) (hm : m = 2 ∨ m = 4 ∨ m = 6 ∨ m = 8) (W : World) : (Instr.makeSlice 125 (.int .i64 (m : Int)) (.int .i64 (m : Int))).run Try.prog W = .ok (.slice (some ⟨W.heap.size, 0, none⟩) m m) (W.alloc (.cells ((List.replicate m (Value.int .u32 0)).toArray) 22)) := by
  rcases hm with rfl | rfl | rfl | rfl <;> kernel_rfl
set_option maxHeartbeats 2000000 in
theorem rep_any (w : World) (g c : Nat) (b : Int) (hB : Blk w g 22 #[.int .u32 b]) (m : Nat) (hm : m = 2 ∨ m = 4 ∨ m = 6 ∨ m = 8) :
    Calls Try.prog 85 #[.slice (some ⟨g, 0, none⟩) 1 c, .int .i64 (m : Int)] w fun e w' => ∃ r, e = .returned (.slice (some ⟨r, 0, none⟩) m m) ∧ Blk w' r 22 ((List.replicate m (Value.int .u32 b)).toArray) ∧ w.heap.size ≤ r ∧ Below w.heap.size w w' := by
  have hmul : ∀ w, Calls Try.prog 99 #[.int .u64 1, .int .u64 (m : Int)] w fun e w' => e = .returned (.tuple #[.int .u64 0, .int .u64 (m : Int)]) ∧ w = w' := by
    intro w
    rcases hm with rfl | rfl | rfl | rfl
    · exact mulu_2 w
    · exact mulu_4 w
    · exact mulu_6 w
    · exact mulu_8 w
  have hmk := makeU32 m hm
  have m0 : (0 : Int) ≤ (m : Int) := by omega
  have m8 : (m : Int) ≤ 8 := by omega
  have m2 : (2 : Int) ≤ (m : Int) := by omega
  have hb0 : Below w.heap.size w (w.alloc (.cells ((List.replicate m (Value.int .u32 0)).toArray) 22)) := (Below.refl _ _).alloc (Nat.le_refl _) _
  have hN := Blk.new w 22 ((List.replicate m (Value.int .u32 0)).toArray)
  have hB1 := hB.alloc (.cells ((List.replicate m (Value.int .u32 0)).toArray) 22)
  obtain ⟨r, hr⟩ : ∃ r, r = w.heap.size := ⟨_, rfl⟩
  have hrl : w.heap.size ≤ r := by omega
  have hgr : g ≠ r := by have := hB.lt; omega
  rw [← hr] at hN
  obtain ⟨Z, hZ⟩ : ∃ Z : List Value, Z = List.replicate m (Value.int .u32 0) := ⟨_, rfl⟩
  have hZl : Z.length = m := by rw [hZ, List.length_replicate]
  have hmk' : ∀ W : World, (Instr.makeSlice 125 (.int .i64 (m : Int)) (.int .i64 (m : Int))).run Try.prog W = .ok (.slice (some ⟨W.heap.size, 0, none⟩) m m) (W.alloc (.cells Z.toArray 22)) := by rw [hZ]; exact hmk
  clear hmk
  rw [← hZ] at hN hb0 hB1
  have hBc := hB1.cell 0
  simp at hBc
  obtain ⟨X1, hX1⟩ : ∃ X : List Value, X = [.int .u32 b] := ⟨_, rfl⟩
  have l1 : X1.length = 1 := by rw [hX1]; rfl
  have o1 : ∀ v ∈ X1, v.oneCell' = true := by rw [hX1]; intro v hv; simp at hv; subst hv; rfl
  have src1 : ∀ j v, X1[j]? = some v → (w.alloc (.cells Z.toArray 22)).cell? ((⟨g, 0, none⟩ : Addr).add j) = some v := by
    intro j v hv
    rw [hX1] at hv
    cases j with
    | zero => simp at hv; subst hv; exact hBc
    | succ j => simp at hv
  have hfin : ∀ n k : Nat, 1 ≤ n → n + k ≤ m → splice (List.replicate n (Value.int .u32 b) ++ List.replicate (m - n) (Value.int .u32 0)) n (List.replicate k (Value.int .u32 b)) = List.replicate (n + k) (Value.int .u32 b) ++ List.replicate (m - (n + k)) (Value.int .u32 0) := by
    intro n k _ h
    unfold splice
    rw [List.take_left' (by simp), List.length_replicate, ← List.append_assoc, List.replicate_append_replicate]
    congr 1
    rw [List.drop_append, List.drop_of_length_le (by simp), List.nil_append, List.length_replicate, Nat.add_sub_cancel_left, List.drop_replicate]
    congr 1
    omega
  have hst0 : splice Z 0 X1 = List.replicate 1 (Value.int .u32 b) ++ List.replicate (m - 1) (Value.int .u32 0) := by
    rw [hZ, hX1]
    unfold splice
    rw [List.take_zero, List.nil_append, List.drop_replicate]
    rfl
  have Hmul := Lib.hid hmul
  clear hmul
  have Hb0 := Lib.hid hb0
  clear hb0
  have HN := Lib.hid hN
  clear hN
  have HB1 := Lib.hid hB1
  clear hB1
  have Hm := Lib.hid hm
  clear hm
  have HB := Lib.hid hB
  clear hB
  have HZ := Lib.hid hZ
  clear hZ
  have HX1 := Lib.hid hX1
  clear hX1
  have L1 := Lib.hid l1
  clear l1
  have Hfin := Lib.hid hfin
  clear hfin
  have Hst0 := Lib.hid hst0
  clear hst0
  have Hr := Lib.hid hr
  clear hr
  have HZl := Lib.hid hZl
  clear hZl
  clear hBc
  go_enter Try.func85, Try.ntmps85
  go_wp2_with fail
  with_reducible refine (Hmul.out _).mono ?_
  rintro e w' ⟨rfl, rfl⟩
  go_upto_region 7 with fail
  rw [← Hr.out]
  generalize hW1 : w.alloc _ = W1 at *
  clear hW1
  have hcp := run_copy_row (P := Try.prog) W1 125 125 3 22 r 0 m m ⟨g, 0, none⟩ 1 c Z.toArray 22 X1 Try.underlying125 infoU32r HN.out (by rw [L1.out]; show 1 = min 1 m; omega) src1 (by rw [L1.out]; simp; have := HZl.out; omega) o1
  have hrow := setRow_heap W1 r _ ((Z.take 0 ++ X1 ++ Z.drop (0 + X1.length)).toArray) 22 (0, 0) HN.out
  have hbl := below_setRow Hb0.out hrl ((Z.take 0 ++ X1 ++ Z.drop (0 + X1.length)).toArray)
  simp only [List.toList_toArray] at hcp
  have hg2 : Blk (W1.setRow r ((Z.take 0 ++ X1 ++ Z.drop (0 + X1.length)).toArray)) r 22 ((List.replicate 1 (Value.int .u32 b) ++ List.replicate (m - 1) (Value.int .u32 0)).toArray) := by
    have h := Hst0.out
    unfold splice at h
    rw [← h, ← List.append_assoc]
    exact hrow
  rw [L1.out] at hcp
  have hcp : (Builtin.copy_ #[125, 125] 3 #[.slice (some ⟨r, 0, none⟩) m m, .slice (some ⟨g, 0, none⟩) 1 c]).run Try.prog W1 = .ok (.int .i64 1) (W1.setRow r ((Z.take 0 ++ X1 ++ Z.drop (0 + 1)).toArray)) := hcp
  rw [L1.out] at hg2 hbl
  generalize (W1.setRow r ((Z.take 0 ++ X1 ++ Z.drop (0 + 1)).toArray)) = w2 at *
  have hB2 : Below w.heap.size w w2 := hbl
  clear hrow hbl
  clear src1 o1
  have Hg2 := Lib.hid hg2
  clear hg2
  have HB2 := Lib.hid hB2
  clear hB2
  go_wp2_with fail
  go_loopw [8] (fun i wr => ∃ n : Nat, i = .int .i64 (n : Int) ∧ 1 ≤ n ∧ n ≤ m ∧ Blk wr r 22 ((List.replicate n (Value.int .u32 b) ++ List.replicate (m - n) (Value.int .u32 0)).toArray) ∧ Below w.heap.size w wr) (fun i _ => m - (intOf i).toNat)
  case atStart => exact ⟨1, rfl, Nat.le_refl _, by omega, Hg2.out, HB2.out⟩
  case round =>
    obtain ⟨n, rfl, hn1, hnm, hk, hb⟩ := hrel
    by_cases hn : n < m
    · have j1 : (n : Int) < (m : Int) := by omega
      have j2 : (0 : Int) ≤ (n : Int) := by omega
      have j3 : (n : Int) ≤ (m : Int) := by omega
      obtain ⟨k, hkk⟩ : ∃ k, k = min n (m - n) := ⟨_, rfl⟩
      have hk1 : n + k ≤ m := by omega
      have hk2 : 1 ≤ k := by omega
      have hk3 : (n : Int) + (k : Int) ≤ 8 := by omega
      obtain ⟨X2, hX2⟩ : ∃ X : List Value, X = List.replicate k (.int .u32 b) := ⟨_, rfl⟩
      have l2 : X2.length = k := by rw [hX2, List.length_replicate]
      have o2 : ∀ v ∈ X2, v.oneCell' = true := by rw [hX2]; intro v hv; rw [(List.mem_replicate.1 hv).2]; rfl
      obtain ⟨Y, hY⟩ : ∃ Y : List Value, Y = List.replicate n (Value.int .u32 b) ++ List.replicate (m - n) (Value.int .u32 0) := ⟨_, rfl⟩
      have hYl : Y.length = m := by rw [hY, List.length_append, List.length_replicate, List.length_replicate]; omega
      rw [← hY] at hk
      have hspl : splice Y n X2 = List.replicate (n + k) (Value.int .u32 b) ++ List.replicate (m - (n + k)) (Value.int .u32 0) := by rw [hY, hX2]; exact Hfin.out n k hn1 hk1
      have hS0 : Out (fun i => i = r) wr wr.drew := Out.of_below (Below.drew (Below.refl _ _))
      have ne : Nonempty (Cls (fun W => Out (fun i => i = r) wr W)) := ⟨⟨_, hS0⟩⟩
      have hU0 : ∀ q ∈ ([(7, fun W => Blk W r 22 Y.toArray)] : List (Nat × (World → Prop))), q.2 wr.drew := by
        intro q hq
        obtain rfl := List.mem_singleton.1 hq
        exact hk.drew
      have hUs : ∀ q ∈ ([(7, fun W => Blk W r 22 Y.toArray)] : List (Nat × (World → Prop))), ∀ i w w', i ≠ q.1 → RApp 7 (some r) i w w' → q.2 w → q.2 w' := by
        intro q hq i w w' hi hr hw
        obtain rfl := List.mem_singleton.1 hq
        exact Blk.below hw (hr.below hi) (Blk.lt hw)
      have hcopy : ∀ W, Out (fun i => i = r) wr W → untilU [(7, fun W => Blk W r 22 Y.toArray)] 7 W → ∃ W', (Builtin.copy_ #[125, 125] 3 #[.slice (some ⟨r, n, none⟩) (m - n) (m - n), .slice (some ⟨r, 0, none⟩) n m]).run Try.prog W = .ok (.int .i64 (k : Int)) W' ∧
          Blk W' r 22 ((List.replicate (n + k) (Value.int .u32 b) ++ List.replicate (m - (n + k)) (Value.int .u32 0)).toArray) ∧ Out (fun i => i = r) wr W' ∧ RApp 7 (some r) 7 W W' := by
        intro W hW hut
        have hkW : Blk W r 22 Y.toArray := hut _ List.mem_cons_self rfl
        have src2 : ∀ j v, X2[j]? = some v → W.cell? ((⟨r, 0, none⟩ : Addr).add j) = some v := by
          intro j v hv
          have hj : j < k := by
            rcases Nat.lt_or_ge j k with c | c
            · exact c
            · rw [List.getElem?_eq_none (by omega)] at hv; cases hv
          rw [add_plain, Nat.zero_add, hkW.cell j, ← hv, hX2, hY]
          simp only [List.getElem?_toArray]
          rw [List.getElem?_append_left (by rw [List.length_replicate]; omega), List.getElem?_replicate, List.getElem?_replicate, if_pos (by omega), if_pos hj]
        have hcp := run_copy_row (P := Try.prog) W 125 125 3 22 r n (m - n) (m - n) ⟨r, 0, none⟩ n m Y.toArray 22 X2 Try.underlying125 infoU32r hkW (by rw [l2, hkk]) src2 (by rw [l2]; simp only [List.size_toArray]; omega) o2
        simp only [List.toList_toArray] at hcp
        rw [l2] at hcp
        have hrow := setRow_heap W r _ ((Y.take n ++ X2 ++ Y.drop (n + k)).toArray) 22 (0, 0) hkW
        have hgr2 : W.grownBy (W.setRow r ((Y.take n ++ X2 ++ Y.drop (n + k)).toArray)) (some r) := ⟨rfl, rfl, rfl, by simp [World.setRow], fun i hi hne => setRow_other W r i _ (fun e => hne (by rw [e]))⟩
        refine ⟨_, hcp, ?_, Out.trans hW (Out.grown (O := fun i => i = r) hgr2 rfl) (fun _ _ e => e), hgr2⟩
        unfold splice at hspl
        rw [l2] at hspl
        rw [← hspl, ← List.append_assoc]
        exact hrow
      have Hk := Lib.hid hk
      clear hk
      have Hb := Lib.hid hb
      clear hb
      have Hkk := Lib.hid hkk
      clear hkk
      have HX2 := Lib.hid hX2
      clear hX2
      have L2 := Lib.hid l2
      clear l2
      have HY := Lib.hid hY
      clear hY
      have HYl := Lib.hid hYl
      clear hYl
      have Hspl := Lib.hid hspl
      clear hspl
      have HS0 := Lib.hid hS0
      clear hS0
      have HU0 := Lib.hid hU0
      clear hU0
      have HUs := Lib.hid hUs
      clear hUs
      have Hcopy := Lib.hid hcopy
      clear hcopy
      clear o2
      go_upto_region 9 with fail
      refine wp_region_flowu 10 (fun W => Out (fun i => i = r) wr W) (RApp 7 (some r)) [(7, fun W => Blk W r 22 Y.toArray)] (by kernel_rfl) (by kernel_rfl) (by kernel_rfl) RApp.refl HUs.out HU0.out HS0.out ?_
      simp only [List.take_succ_cons, List.take_zero, List.drop_succ_cons, List.drop_zero]
      repeat (refine flowu_quiet RApp.refl rfl rfl rfl rfl ?_; intro K hK; go_big_quiet_op; go_big_quiet_on)
      refine flowu_do (.int .i64 (k : Int)) (fun _ W => Blk W r 22 ((List.replicate (n + k) (Value.int .u32 b) ++ List.replicate (m - (n + k)) (Value.int .u32 0)).toArray)) (fun l i w w' hi hr h => Blk.below h (hr.below hi) (Blk.lt h)) (fun _ _ h => by cases h) rfl (fun W hW hut => by
        obtain ⟨W', h1, h2, h3, h4⟩ := Hcopy.out W hW hut
        refine ⟨W', ?_, h2, h3, h4⟩
        simp [execOp, resolve, invoke, builtin, Act.eval, h1, Result.andThen, show ¬ m = n by omega]) rfl rfl wr ?_
      intro K hK; go_big_quiet_op; go_big_quiet_on
      repeat (refine flowu_quiet RApp.refl rfl rfl rfl rfl ?_; intro K hK; go_big_quiet_op; go_big_quiet_on)
      refine flowu_nil ?_
      intro W5 f hW5 hF5
      have hk5 := hF5 _ (.head _)
      clear hF5
      have hk5 : Blk W5 r 22 ((List.replicate (n + k) (Value.int .u32 b) ++ List.replicate (m - (n + k)) (Value.int .u32 0)).toArray) := hk5
      have hb5 : Below w.heap.size w W5 := Hb.out.trans (Out.below hW5 Hb.out.size (fun i hi e => by omega))
      simp only [fillW]
      clear hW5 ne
      have Hk5 := Lib.hid hk5
      clear hk5
      have Hb5 := Lib.hid hb5
      clear hb5
      go_wp2_with fail
      go_roundw
      case rel => exact ⟨n + k, by go_num, by omega, hk1, Hk5.out, Hb5.out⟩
      case measure => simp [intOf]; omega
    · have j1 : ¬ (n : Int) < (m : Int) := by omega
      have hnm' : n = m := by omega
      have hk' : Blk wr r 22 ((List.replicate m (Value.int .u32 b)).toArray) := by
        rw [hnm', Nat.sub_self, List.replicate_zero, List.append_nil] at hk
        exact hk
      clear hk hnm'
      have Hk' := Lib.hid hk'
      clear hk'
      have Hb := Lib.hid hb
      clear hb
      go_wp2_with fail
      go_ret
      exact ⟨r, rfl, Hk'.out, hrl, Hb.out⟩
end Go.Proofs.Ytengegcnocdkoaa
end
section
set_option maxRecDepth 20000
namespace Go.Proofs.Ytengegcnocdkoaa
open Go.RowKit Go.BigFrame Go.Shelf
attribute [local go_sem] Oper.semAt_some
theorem RowB.ne_ {W : World} {g g' : Nat} {t : TypeId} {M : List UInt8} {cs : Array Value} (h : RowB W g M) (hb : Blk W g' t cs) (ht : t ≠ 5) : g' ≠ g := by
  rintro rfl
  obtain ⟨c, lo, hi, h1, _⟩ := h
  rw [show W.heap[g']? = _ from hb] at h1
  injection h1 with h1
  injection h1 with _ h1
  exact ht h1
/-- what a round holds -/
def TurnI (w : World) (gs gb gv gc gp gr cap : Nat) (x : ByteArray) (L : List UInt8) (bl va ec : Nat) (pre : List (PV L)) (W : World) : Prop :=
  Below w.heap.size w W ∧ Blk W gs 9 #[.string x] ∧ Blk W gb 22 #[.int .u32 (bl : Int)] ∧ Blk W gv 22 #[.int .u32 (va : Int)] ∧ Blk W gc 22 #[.int .u32 (ec : Int)] ∧
    Blk W gp 51 #[.slice (some ⟨gr, 0, none⟩) L.length cap] ∧ RowB W gr ((pre.map (·.1)).foldl (stepO L bl va ec) L)
theorem TurnI.own {w : World} {gs gb gv gc gp gr cap : Nat} {x : ByteArray} {L : List UInt8} {bl va ec B : Nat} (hw : w.heap.size ≤ B) : OwnFrom B (TurnI w gs gb gv gc gp gr cap x L bl va ec) := by
  intro pre W W' row ⟨h1, h2, h3, h4, h5, h6, h7⟩ hg hr
  have hr2 : ∀ r, row = some r → ∃ o : Obj, W.heap[r]? = some o ∧ o.isCells = false := fun r e => (hr r e).2
  refine ⟨ownFrom_below (Nat.le_refl _) hw pre W W' row h1 hg hr, blk_notrow h2 hg hr2, blk_notrow h3 hg hr2, blk_notrow h4 hg hr2, blk_notrow h5 hg hr2, blk_notrow h6 hg hr2, h7.grown hg (fun e => ?_)⟩
  obtain ⟨o, q1, q2⟩ := hr2 gr e.symm
  obtain ⟨c, lo, hi, q3, _⟩ := h7
  rw [q1] at q3
  cases q3
  cases q2
/-- .. and is kept by what turns the row alone -/
theorem TurnI.next {w W W' : World} {gs gb gv gc gp gr cap B : Nat} {x : ByteArray} {L : List UInt8} {bl va ec : Nat} {pre pre2 : List (PV L)} {M : List UInt8}
    (h : TurnI w gs gb gv gc gp gr cap x L bl va ec pre W) (ho : Out (fun i => i = gr) W W') (hr : RowB W' gr M) (hM : M = (pre2.map (·.1)).foldl (stepO L bl va ec) L) (hwr : w.heap.size ≤ gr) (hB : gr < B) :
    KeepsFrom B W W' ∧ KeepsS w.heap.size W W' ∧ TurnI w gs gb gv gc gp gr cap x L bl va ec pre2 W' := by
  obtain ⟨h1, h2, h3, h4, h5, h6, h7⟩ := h
  have hk : ∀ {g : Nat} {t : TypeId} {cs : Array Value}, Blk W g t cs → t ≠ 5 → Blk W' g t cs := fun {g t cs} hb ht => (ho.block g hb.lt (h7.ne_ hb ht)).trans hb
  have hbw : Below w.heap.size W W' := ho.below h1.size (fun i hi e => by omega)
  refine ⟨keepsFrom_out ho (fun i e => .inl (by omega)), ⟨hbw, fun i cs hi => hk hi (by decide)⟩, h1.trans hbw, hk h2 (by decide), hk h3 (by decide), hk h4 (by decide), hk h5 (by decide), hk h6 (by decide), ?_⟩
  rw [← hM]
  exact hr
set_option maxRecDepth 100000 in
set_option maxHeartbeats 8000000 in
theorem turn_yes (x : ByteArray) (L : List UInt8) (hx : x.data.toList = L) (hd : (decR L).2 = 0) (bl va ec : Nat) (hbl : bl < 4294967296) (hva : va < 4294967296) (hec : ec < 4294967296) (w : World) :
    CallsIn Fence.wide 3 Try.prog 50 #[.string x, .int .u32 (bl : Int), .int .u32 (va : Int), .int .u32 (ec : Int)] w (TurnPost bl va ec w L) := by
  have hdec := dec_any x
  rw [hx] at hdec
  obtain ⟨h40, o, hdl, hdo⟩ := decR_ok hd
  have hTR : turnR bl va ec L = (turnT bl va ec L, 0) := by unfold turnR; rw [if_pos hd]
  have hfine := places_fine hdl
  have hsz : x.size = L.length := by rw [← hx]; simp
  have hb0 : Below w.heap.size w w := Below.refl _ _
  have HB := Lib.hid hb0
  clear hb0
  have Hx := Lib.hid hx
  clear hx
  have Hd := Lib.hid hd
  clear hd
  have Hdec := Lib.hid hdec
  clear hdec
  have H40 := Lib.hid h40
  clear h40
  have Hdl := Lib.hid hdl
  clear hdl
  have Hdo := Lib.hid hdo
  clear hdo
  have HTR := Lib.hid hTR
  clear hTR
  have Hfine := Lib.hid hfine
  clear hfine
  have Hsz := Lib.hid hsz
  clear hsz
  refine callsIn_of_wp_marks Try.func50 rfl trivial ?_ rfl
  simp only [Try.ntmps50, List.size_toArray, List.length_cons, List.length_nil, Nat.reduceAdd, Nat.reduceSub, Array.replicate_succ, Array.replicate_zero, List.push_toArray, List.append_toArray, List.nil_append, List.cons_append]
  gi_upto_region 1 with fail
  have hs := Blk.alloc (Blk.alloc (Blk.alloc (Blk.new w 9 #[.string x]) (.cells #[.int .u32 (bl : Int)] 22)) (.cells #[.int .u32 (va : Int)] 22)) (.cells #[.int .u32 (ec : Int)] 22)
  have hb := Blk.alloc (Blk.alloc (Blk.new (w.alloc (.cells #[.string x] 9)) 22 #[.int .u32 (bl : Int)]) (.cells #[.int .u32 (va : Int)] 22)) (.cells #[.int .u32 (ec : Int)] 22)
  rw [show (w.alloc (.cells #[.string x] 9)).heap.size = w.heap.size + 1 by simp] at hb
  have hv := Blk.alloc (Blk.new ((w.alloc (.cells #[.string x] 9)).alloc (.cells #[.int .u32 (bl : Int)] 22)) 22 #[.int .u32 (va : Int)]) (.cells #[.int .u32 (ec : Int)] 22)
  rw [show ((w.alloc (.cells #[.string x] 9)).alloc (.cells #[.int .u32 (bl : Int)] 22)).heap.size = w.heap.size + 2 by simp] at hv
  have hc := Blk.new (((w.alloc (.cells #[.string x] 9)).alloc (.cells #[.int .u32 (bl : Int)] 22)).alloc (.cells #[.int .u32 (va : Int)] 22)) 22 #[.int .u32 (ec : Int)]
  rw [show (((w.alloc (.cells #[.string x] 9)).alloc (.cells #[.int .u32 (bl : Int)] 22)).alloc (.cells #[.int .u32 (va : Int)] 22)).heap.size = w.heap.size + 3 by simp] at hc
  have hB := Below.alloc (Below.alloc (Below.alloc (Below.alloc (HB.out) (Nat.le_trans HB.out.size (by simp <;> omega)) (.cells #[.string x] 9)) (Nat.le_trans HB.out.size (by simp <;> omega)) (.cells #[.int .u32 (bl : Int)] 22)) (Nat.le_trans HB.out.size (by simp <;> omega)) (.cells #[.int .u32 (va : Int)] 22)) (Nat.le_trans HB.out.size (by simp <;> omega)) (.cells #[.int .u32 (ec : Int)] 22)
  clear HB
  obtain ⟨gc, hgec⟩ : ∃ g, g = w.heap.size + 3 := ⟨_, rfl⟩
  rw [← hgec] at hc ⊢
  obtain ⟨gv, hgev⟩ : ∃ g, g = w.heap.size + 2 := ⟨_, rfl⟩
  rw [← hgev] at hv ⊢
  obtain ⟨gb, hgeb⟩ : ∃ g, g = w.heap.size + 1 := ⟨_, rfl⟩
  rw [← hgeb] at hb ⊢
  obtain ⟨gs, hges⟩ : ∃ g, g = w.heap.size := ⟨_, rfl⟩
  rw [← hges] at hs ⊢
  have hne_s_b : gs ≠ gb := by omega
  have hne_s_v : gs ≠ gv := by omega
  have hne_s_c : gs ≠ gc := by omega
  have hne_b_v : gb ≠ gv := by omega
  have hne_b_c : gb ≠ gc := by omega
  have hne_v_c : gv ≠ gc := by omega
  have hle_s : w.heap.size ≤ gs := by omega
  have hle_b : w.heap.size ≤ gb := by omega
  have hle_v : w.heap.size ≤ gv := by omega
  have hle_c : w.heap.size ≤ gc := by omega
  clear hges hgeb hgev hgec
  generalize (((w.alloc _).alloc _).alloc _).alloc _ = wn1 at *
  have Hs := Lib.hid hs
  clear hs
  have Hb := Lib.hid hb
  clear hb
  have Hv := Lib.hid hv
  clear hv
  have Hc := Lib.hid hc
  clear hc
  have HB := Lib.hid hB
  clear hB
  obtain ⟨W1, hW1⟩ : ∃ W, W = wn1 := ⟨_, rfl⟩
  rw [← hW1] at Hs Hb Hv Hc HB ⊢
  clear hW1
  have cs1 := Hs.out.cell 0
  try simp at cs1
  gi_wp2_with fail
  refine ⟨trivial, ?_⟩
  refine (callsIn_wide.2 (Hdec.out _)).mono ?_
  rintro e w2 ⟨r, A, c, code, rfl, ⟨hbr, _⟩, hbq, hre⟩
  have hs := Hs.out.below hbq Hs.out.lt
  clear Hs
  have Hs := Lib.hid hs
  clear hs
  have hb := Hb.out.below hbq Hb.out.lt
  clear Hb
  have Hb := Lib.hid hb
  clear hb
  have hv := Hv.out.below hbq Hv.out.lt
  clear Hv
  have Hv := Lib.hid hv
  clear hv
  have hc := Hc.out.below hbq Hc.out.lt
  clear Hc
  have Hc := Lib.hid hc
  clear hc
  have hB := HB.out.trans (hbq.mono HB.out.size)
  clear HB
  have HB := Lib.hid hB
  clear hB
  clear hbq hbr cs1
  unfold optC
  have hc0 : code = 0 := by have := Hd.out; rw [← hre] at this; exact this
  subst hc0
  clear hre
  gi_upto_region 4 with fail
  have hq := Blk.new w2 28 #[.int .u16 (r.mss : Int), .int .i64 r.scale, .bool r.sack, .slice A r.bl.length c, .bool r.time, .int .u32 (r.val : Int), .int .u32 (r.echo : Int)]
  have hs := Blk.alloc Hs.out (.cells #[.int .u16 (r.mss : Int), .int .i64 r.scale, .bool r.sack, .slice A r.bl.length c, .bool r.time, .int .u32 (r.val : Int), .int .u32 (r.echo : Int)] 28)
  clear Hs
  have hb := Blk.alloc Hb.out (.cells #[.int .u16 (r.mss : Int), .int .i64 r.scale, .bool r.sack, .slice A r.bl.length c, .bool r.time, .int .u32 (r.val : Int), .int .u32 (r.echo : Int)] 28)
  clear Hb
  have hv := Blk.alloc Hv.out (.cells #[.int .u16 (r.mss : Int), .int .i64 r.scale, .bool r.sack, .slice A r.bl.length c, .bool r.time, .int .u32 (r.val : Int), .int .u32 (r.echo : Int)] 28)
  clear Hv
  have hc := Blk.alloc Hc.out (.cells #[.int .u16 (r.mss : Int), .int .i64 r.scale, .bool r.sack, .slice A r.bl.length c, .bool r.time, .int .u32 (r.val : Int), .int .u32 (r.echo : Int)] 28)
  clear Hc
  have hB := HB.out.alloc HB.out.size (.cells #[.int .u16 (r.mss : Int), .int .i64 r.scale, .bool r.sack, .slice A r.bl.length c, .bool r.time, .int .u32 (r.val : Int), .int .u32 (r.echo : Int)] 28)
  clear HB
  obtain ⟨gq, hge⟩ : ∃ g, g = w2.heap.size := ⟨_, rfl⟩
  rw [← hge] at hq ⊢
  have hle_q : w2.heap.size ≤ gq := by omega
  clear hge
  generalize w2.alloc _ = wn2 at *
  have Hs := Lib.hid hs
  clear hs
  have Hb := Lib.hid hb
  clear hb
  have Hv := Lib.hid hv
  clear hv
  have Hc := Lib.hid hc
  clear hc
  have Hq := Lib.hid hq
  clear hq
  have HB := Lib.hid hB
  clear hB
  obtain ⟨W2, hW2⟩ : ∃ W, W = wn2 := ⟨_, rfl⟩
  rw [← hW2] at Hs Hb Hv Hc HB ⊢
  clear hW2 Hq
  have cs2 := Hs.out.cell 0
  try simp at cs2
  obtain ⟨W3, cap, hcv, hbq, hz3, hrow3, hcap⟩ := run_bytes_rowB W2 x L Hx.out
  obtain ⟨gr, hgr⟩ : ∃ g, g = W2.heap.size := ⟨_, rfl⟩
  rw [← hgr] at hcv hrow3 hz3
  have hwr : w.heap.size ≤ gr := by rw [hgr]; exact HB.out.size
  gi_upto_region 5 with fail
  rw [← hgr]
  generalize (Value.agg #[.int .u16 (r.mss : Int), .int .i64 r.scale, .bool r.sack, .slice A r.bl.length c, .bool r.time, .int .u32 (r.val : Int), .int .u32 (r.echo : Int)]) = ag
  have hs := Hs.out.below hbq Hs.out.lt
  clear Hs
  have Hs := Lib.hid hs
  clear hs
  have hb := Hb.out.below hbq Hb.out.lt
  clear Hb
  have Hb := Lib.hid hb
  clear hb
  have hv := Hv.out.below hbq Hv.out.lt
  clear Hv
  have Hv := Lib.hid hv
  clear hv
  have hc := Hc.out.below hbq Hc.out.lt
  clear Hc
  have Hc := Lib.hid hc
  clear hc
  have hB := HB.out.trans (hbq.mono HB.out.size)
  clear HB
  have HB := Lib.hid hB
  clear hB
  obtain ⟨gp, hgp⟩ : ∃ g, g = gr + 1 := ⟨_, rfl⟩
  rw [← hgp] at hz3 ⊢
  have hp4 := Blk.new W3 51 #[.slice (some ⟨gr, 0, none⟩) L.length cap]
  rw [hz3] at hp4
  have hal : Below W3.heap.size W3 (W3.alloc (.cells #[.slice (some ⟨gr, 0, none⟩) L.length cap] 51)) := (Below.refl _ _).alloc (Nat.le_refl _) _
  have hrow4 := hrow3.below hal hrow3.lt
  have hs := Hs.out.below hal Hs.out.lt
  clear Hs
  have Hs := Lib.hid hs
  clear hs
  have hb := Hb.out.below hal Hb.out.lt
  clear Hb
  have Hb := Lib.hid hb
  clear hb
  have hv := Hv.out.below hal Hv.out.lt
  clear Hv
  have Hv := Lib.hid hv
  clear hv
  have hc := Hc.out.below hal Hc.out.lt
  clear Hc
  have Hc := Lib.hid hc
  clear hc
  have hB := HB.out.trans (hal.mono HB.out.size)
  clear HB
  have HB := Lib.hid hB
  clear hB
  have hz4 : (W3.alloc (.cells #[.slice (some ⟨gr, 0, none⟩) L.length cap] 51)).heap.size = gp + 1 := by simp [hz3]
  clear hcv hbq hrow3 hal hz3 cs2
  generalize W3.alloc _ = W4 at *
  have cs4 := Hs.out.cell 0
  try simp at cs4
  have Hp4 := Lib.hid hp4
  clear hp4
  have Hrow4 := Lib.hid hrow4
  clear hrow4
  have Hz4 := Lib.hid hz4
  clear hz4
  have Hgr := Lib.hid hgr
  clear hgr
  have Hgp := Lib.hid hgp
  clear hgp
  have Hcap := Lib.hid hcap
  clear hcap
  gi_wp2_with (refine ⟨trivial, ?_⟩; gi_at_call 75; refine (each_in _ _).mono ?_; rintro e w' ⟨rfl, rfl⟩)
  have hB5 := HB.out.alloc HB.out.size (.cells #[.string x] 9)
  have hz5 := Blk.new W4 9 #[.string x]
  have hs5 := Blk.alloc Hs.out (.cells #[.string x] 9)
  have hb5 := Blk.alloc Hb.out (.cells #[.string x] 9)
  have hv5 := Blk.alloc Hv.out (.cells #[.string x] 9)
  have hc5 := Blk.alloc Hc.out (.cells #[.string x] 9)
  have hp5 := Blk.alloc Hp4.out (.cells #[.string x] 9)
  have hrow5 := Hrow4.out.grown (World.grownBy_alloc W4 (.cells #[.string x] 9) none) (by simp)
  have hgz : W4.heap.size = gp + 1 := Hz4.out
  obtain ⟨gz, hgze⟩ : ∃ g, g = W4.heap.size := ⟨_, rfl⟩
  rw [← hgze] at hz5 hgz ⊢
  have hsz5 : (W4.alloc (.cells #[.string x] 9)).heap.size = gz + 1 := by rw [hgze]; simp
  clear cs4 hgze Hz4
  generalize W4.alloc _ = W5 at *
  have hgrB : gr < W5.heap.size := by have := Hgp.out; omega
  clear Hs Hb Hv Hc Hp4 Hrow4 HB
  have hI0 : TurnI w gs gb gv gc gp gr cap x L bl va ec [] W5 := ⟨hB5, hs5, hb5, hv5, hc5, hp5, hrow5⟩
  have HI0 := Lib.hid hI0
  have hBs5 := hB5.size
  clear hI0 hs5 hb5 hv5 hc5 hp5 hrow5 hB5
  have Hgz := Lib.hid hgz
  clear hgz
  have Hsz5 := Lib.hid hsz5
  clear hsz5
  have HgrB := Lib.hid hgrB
  clear hgrB
  refine wpIn_rangeFunc_ownG rfl (by omega) (gf := 94) (lb := #[.pointer (some ⟨gz, 0, none⟩)]) rfl trivial (enters_of Try.func94 (by kernel_rfl) rfl)
    (each_stops w.heap.size gz x L Hx.out (by have := H40.out; omega) _ hBs5 hz5) KeepsS.trans (KeepsS.putObj hBs5) (Below.refl _ _) (fun _ => rfl)
    (TurnI w gs gb gv gc gp gr cap x L bl va ec)
    (fun _ _ _ => False)
    (TurnI.own hBs5) (fun _ _ _ _ _ hs _ _ => hs)
    HI0.out
    (fun x1 => { tmps := #[.string x, .int .u32 (bl : Int), .int .u32 (va : Int), .int .u32 (ec : Int), .pointer (some ⟨gs, 0, none⟩), .pointer (some ⟨gb, 0, none⟩), .pointer (some ⟨gv, 0, none⟩), .pointer (some ⟨gc, 0, none⟩), .string ⟨#[]⟩, .int .i64 0, .pointer (some ⟨gq, 0, none⟩), .int .i64 0, .pointer (some ⟨gp, 0, none⟩), .int .i64 (x1.1.1 : Int), .int .i64 (x1.1.2 : Int), undef, undef, undef, undef, .tuple #[ag, .int .i64 0], .string x, .tuple #[ag, .int .i64 0], ag, .int .i64 0, .int .i64 0, .bool false, undef, .string x, .slice (some ⟨gr, 0, none⟩) L.length cap, .string x, .func (.func 94) #[] #[.pointer (some ⟨gz, 0, none⟩)], .int .i64 (x1.1.1 : Int), .int .i64 (x1.1.2 : Int), undef, undef, undef, undef, undef, undef, undef, undef, undef, undef, undef, undef, undef, undef, undef, undef, undef, undef, undef, undef, undef, undef, undef, undef, undef, undef, undef, undef, undef, undef, undef, undef, undef, undef, undef, undef, undef, undef, undef, undef, undef, undef, undef, undef, undef], defers := [] }) ?assign ?body ?done ?stop
  case assign =>
    intro l x1 W K hK
    gi_wp2
    exact hK
  case body =>
    rintro l pre ⟨⟨i0, m⟩, ⟨hi, hk0, hk1, hst⟩, hin⟩ W hI hlt
    have hI' := hI
    obtain ⟨hB, hs, hb, hv, hc, hp, hrow⟩ := hI'
    dsimp only at hi hk0 hk1 hst ⊢
    have hm0 : m ≠ 0 := Hfine.out (i0, m) hin
    obtain ⟨r1, r2, r3, r4, r5⟩ := stepN_pos (L := L) (i := i0) (by rw [← hst]; exact hm0)
    rw [← hst] at r3 r4 r5
    obtain ⟨k, hk⟩ : ∃ k, k = byteN L i0 := ⟨_, rfl⟩
    rw [← hk, ← r4] at r2
    obtain ⟨M, hM⟩ : ∃ M, M = (pre.map (·.1)).foldl (stepO L bl va ec) L := ⟨_, rfl⟩
    rw [← hM] at hrow
    obtain ⟨pre2, hpre⟩ : ∃ p, p = pre ++ [(⟨(i0, m), ⟨hi, hk0, hk1, hst⟩, hin⟩ : PV L)] := ⟨_, rfl⟩
    have hnext : stepO L bl va ec M (i0, m) = (pre2.map (·.1)).foldl (stepO L bl va ec) L := by
      rw [hpre, List.map_append, List.foldl_append, ← hM]
      rfl
    rw [← hpre]
    clear hpre hin
    have hMl : M.length = L.length := by
      rw [hM]
      refine foldO_len bl va ec _ _ (fun p hp => ?_) rfl
      obtain ⟨y, hy, rfl⟩ := List.mem_map.1 hp
      exact ⟨y.2.1, Hfine.out y.1 y.2.2⟩
    have k256 : k < 256 := by rw [hk]; exact byteN_lt _ _
    have m256 : m < 256 := by rw [r4]; exact byteN_lt _ _
    have hix := fun W => index_at x i0 (by rw [Hx.out]; exact hi) W
    rw [Hx.out, ← hk] at hix
    have cs0 := hs.cell 0
    have cb0 := hb.cell 0
    have cv0 := hv.cell 0
    have cc0 := hc.cell 0
    have cp0 := hp.cell 0
    try simp at cs0
    try simp at cb0
    try simp at cv0
    try simp at cc0
    try simp at cp0
    have HI := Lib.hid hI
    clear hI
    have HB := Lib.hid hB
    clear hB
    have Hs := Lib.hid hs
    clear hs
    have Hb := Lib.hid hb
    clear hb
    have Hv := Lib.hid hv
    clear hv
    have Hc := Lib.hid hc
    clear hc
    have Hp := Lib.hid hp
    clear hp
    have Hrow := Lib.hid hrow
    clear hrow
    have HM := Lib.hid hM
    clear hM
    have Hnext := Lib.hid hnext
    clear hnext
    have HMl := Lib.hid hMl
    clear hMl
    have R1 := Lib.hid r1
    clear r1
    have R2 := Lib.hid r2
    clear r2
    have R3 := Lib.hid r3
    clear r3
    have R4 := Lib.hid r4
    clear r4
    have R5 := Lib.hid r5
    clear r5
    have Hk := Lib.hid hk
    clear hk
    have Hk0 := Lib.hid hk0
    clear hk0
    have Hk1 := Lib.hid hk1
    clear hk1
    have Hst := Lib.hid hst
    clear hst
    have Hi := Lib.hid hi
    clear hi
    have Hm0 := Lib.hid hm0
    clear hm0
    have Hlt := Lib.hid hlt
    clear hlt
    by_cases h8 : k = 8
    · have t8 : ((k : Int) == 8) = true := by rw [h8]; rfl
      have t5 : ((k : Int) == 5) = false := by rw [h8]; rfl
      have hm10 : m = 10 := by have := R2.out; rw [h8] at this; simpa [longB] using this
      have hst2' : stepO L bl va ec M (i0, m) = putsL L (fun j => if j = 0 then va else ec) 2 0 (i0 + 2) M := stepO_time (by rw [← Hk.out]; exact h8)
      clear h8
      gi_upto_region 14 with fail
      have hy := Blk.new W 22 #[.int .u32 (va : Int), .int .u32 (ec : Int)]
      have hal : Below W.heap.size W (W.alloc (.cells #[.int .u32 (va : Int), .int .u32 (ec : Int)] 22)) := (Below.refl _ _).alloc (Nat.le_refl _) _
      have hrow1 := Hrow.out.below hal Hrow.out.lt
      have hO1 : Out (fun i => i = gr) W (W.alloc (.cells #[.int .u32 (va : Int), .int .u32 (ec : Int)] 22)) := Out.of_below hal
      clear hal
      obtain ⟨gy, hgy⟩ : ∃ g, g = W.heap.size := ⟨_, rfl⟩
      rw [← hgy] at hy ⊢
      clear hgy
      generalize W.alloc _ = W1 at *
      obtain ⟨q, hq⟩ : ∃ q, q = 2 := ⟨_, rfl⟩
      rw [show Value.slice (some ⟨gy, 0, none⟩) 2 2 = Value.slice (some ⟨gy, 0, none⟩) q q by rw [hq]]
      obtain ⟨fby, hf⟩ : ∃ f : Nat → Nat, f = fun j => if j = 0 then va else ec := ⟨_, rfl⟩
      obtain ⟨cs, hcse⟩ : ∃ cs : Array Value, cs = #[.int .u32 (va : Int), .int .u32 (ec : Int)] := ⟨_, rfl⟩
      rw [← hcse] at hy
      have hst2 : stepO L bl va ec M (i0, m) = putsL L fby q 0 (i0 + 2) M := by rw [hf, hq]; exact hst2'
      clear hst2'
      have hcs : ∀ j, j < q → cs[j]? = some (.int .u32 ((fby j : Nat) : Int)) := by
        intro j hj
        rw [hcse, hf]
        have : j = 0 ∨ j = 1 := by omega
        rcases this with rfl | rfl <;> rfl
      have hfb : ∀ j, fby j < 4294967296 := by intro j; rw [hf]; simp only []; split <;> assumption
      have hq8 : q ≤ 8 := by omega
      have hqm : 2 + 4 * q ≤ m := by omega
      clear hq hf hcse hm10
      have hal2 := hO1
      have Hy := Lib.hid hy
      clear hy
      have HO1 := Lib.hid hO1
      clear hO1
      have Hrow1 := Lib.hid hrow1
      clear hrow1
      have Hcs := Lib.hid hcs
      clear hcs
      have Hfb := Lib.hid hfb
      clear hfb
      have Hst2 := Lib.hid hst2
      clear hst2
      have Hq8 := Lib.hid hq8
      clear hq8
      have Hqm := Lib.hid hqm
      clear hqm
      gi_wp2_with fail
      gi_loopw [51] (fun i wr => ∃ (j : Nat) (M' : List UInt8), i = .int .i64 (j : Int) ∧ j ≤ q ∧ M'.length = L.length ∧ putsL L fby (q - j) j (i0 + 2 + 4 * j) M' = stepO L bl va ec M (i0, m) ∧ RowB wr gr M' ∧ Out (fun i => i = gr) W wr ∧ Blk wr gy 22 cs) (fun i _ => q - (intOf i).toNat)
      case atStart => exact ⟨0, M, rfl, Nat.zero_le _, HMl.out, Hst2.out.symm, Hrow1.out, HO1.out, Hy.out⟩
      case round =>
        obtain ⟨j, M', rfl, hj, hM'l, hput, hrow', hO', hy'⟩ := hrel
        clear hal2
        by_cases hjq : j < q
        · have i1 : (j : Int) < (q : Int) := by omega
          have i8 : (j : Int) < 8 := by have := Hq8.out; omega
          obtain ⟨d, hd⟩ : ∃ d, d = fby j := ⟨_, rfl⟩
          have hyc : wr.cell? ⟨gy, j, none⟩ = some (.int .u32 (d : Int)) := by rw [hy'.cell j, Hcs.out j hjq, hd]
          obtain ⟨kk, hkk⟩ : ∃ kk, kk = i0 + 2 + 4 * j := ⟨_, rfl⟩
          have hkk4 : kk + 4 ≤ L.length := by have := Hqm.out; have := R3.out; omega
          have i3 : (i0 : Int) ≤ 40 := by have := H40.out; have := Hi.out; omega
          have kB : ∀ {g : Nat} {t : TypeId} {c : Array Value}, Blk W g t c → t ≠ 5 → Blk wr g t c := fun {g t c} h ht => (hO'.block g h.lt (Hrow.out.ne_ h ht)).trans h
          have hs' := kB Hs.out (by decide)
          have hp' := kB Hp.out (by decide)
          have hgn := hrow'.ne_ hy' (by decide)
          have hsn := hrow'.ne_ hs' (by decide)
          have hpn := hrow'.ne_ hp' (by decide)
          clear kB
          have hdlt : d < 4294967296 := by rw [hd]; exact Hfb.out j
          have j1 : (kk : Int) ≤ (L.length : Int) := by omega
          have j2 : (kk : Int) + 4 ≤ (L.length : Int) := by omega
          have j3 : (0 : Int) ≤ (kk : Int) + 4 := by omega
          have j4 : (kk : Int) ≤ (kk : Int) + 4 := by omega
          have j5 : (kk : Int) + 4 ≤ 100 := by have := H40.out; omega
          have j6 : (kk : Int) ≤ (cap : Int) := by have := Hcap.out; omega
          have hsz' : x.size = L.length := Hsz.out
          obtain ⟨z0, hz0⟩ : ∃ z, z = atL L kk := ⟨_, rfl⟩
          have hz0lt : z0 < 4294967296 := by rw [hz0]; exact numL_lt _
          obtain ⟨z, hz⟩ : ∃ z, z = (z0 + d) % 4294967296 := ⟨_, rfl⟩
          have hzlt : z < 4294967296 := by omega
          have hzi : ((z0 : Int) + (d : Int)) % 4294967296 = (z : Int) := by omega
          have e2 : (x.extract kk (kk + 4)).data.toList = (L.drop kk).take 4 := by rw [ext_list x L Hx.out, show kk + 4 - kk = 4 by omega]
          have hS0 : Out (fun i => i = gr) wr wr.drew := Out.of_below (Below.drew (Below.refl _ _))
          have ne : Nonempty (Cls (fun W => Out (fun i => i = gr) wr W)) := ⟨⟨_, hS0⟩⟩
          have hSb : ∀ w w', Out (fun i => i = gr) wr w → Below w.heap.size w w' → Out (fun i => i = gr) wr w' := fun w w' h hb => Out.trans h (Out.of_below (O := fun _ => False) hb) (fun _ _ e => e.elim)
          have qp : ∀ y : Cls (fun W => Out (fun i => i = gr) wr W), y.w.cell? ⟨gp, 0, none⟩ = some (.slice (some ⟨gr, 0, none⟩) L.length cap) := fun y => by
            have h : Blk y.w gp 51 #[.slice (some ⟨gr, 0, none⟩) L.length cap] := (y.h.block gp hp'.lt hpn).trans hp'
            have := h.cell 0
            simpa using this
          have qs : ∀ y : Cls (fun W => Out (fun i => i = gr) wr W), y.w.cell? ⟨gs, 0, none⟩ = some (.string x) := fun y => by
            have h : Blk y.w gs 9 #[.string x] := (y.h.block gs hs'.lt hsn).trans hs'
            have := h.cell 0
            simpa using this
          have n1 : ∀ y : Cls (fun W => Out (fun i => i = gr) wr W), Calls Try.prog 77 #[.string (x.extract kk (kk + 4))] y.w fun e w'' => e = .returned (.int .u32 (z0 : Int)) ∧ Out (fun i => i = gr) wr w'' ∧ RApp 13 (some gr) 8 y.w w'' := fun y => (number_any _ y.w (by simp [maxLen]; omega)).mono fun e w' ⟨he, hb⟩ => ⟨by rw [he, e2, hz0]; rfl, hSb _ _ y.h hb, RApp.of_below hb⟩
          have cf1 : ∀ (vals : Array Value) (w : World), (callFunc 77 vals).run Try.prog w = .ok (.enter 77 vals) w := fun _ _ => by kernel_rfl
          have cf2 : ∀ (vals : Array Value) (w : World), (callFunc 86 vals).run Try.prog w = .ok (.enter 86 vals) w := fun _ _ => by kernel_rfl
          have rb1 : ∀ w : World, (Instr.buildSlice 125 1 #[(0, .int .u32 (((z0 : Int) + (d : Int)) % 4294967296))]).run Try.prog w = .ok (.slice (some ⟨w.heap.size, 0, none⟩) 1 1) (w.alloc (.cells #[.int .u32 (((z0 : Int) + (d : Int)) % 4294967296)] 22)) := fun _ => by kernel_rfl
          have hhigh : ∀ (y : Cls (fun W => Out (fun i => i = gr) wr W)) (u : Value), rowAt wr.heap.size 22 #[.int .u32 (((z0 : Int) + (d : Int)) % 4294967296)] 1 [u] y.w → Calls Try.prog 86 #[.int .i64 4, u] y.w fun e w'' => e = .returned (.string ⟨(be4 z).toArray⟩) ∧ Out (fun i => i = gr) wr w'' ∧ RApp 13 (some gr) 12 y.w w'' := by
            rintro y u ⟨g', e, _, hkk2⟩
            injection e with e
            subst e
            rw [hzi] at hkk2
            refine (ohigh32 y.w g' [z] _ (by intro v hv; simp at hv; subst hv; exact hzlt) rfl hkk2 (by simp) (by simp)).mono ?_
            rintro e w'' ⟨rfl, hb⟩
            exact ⟨by simp, hSb _ _ y.h hb, RApp.of_below hb⟩
          have hcopy : ∀ W', Out (fun i => i = gr) wr W' → untilU [(13, fun W => RowB W gr M')] 13 W' → ∃ W'', (Builtin.copy_ #[51, 9] 3 #[.slice (some ⟨gr, kk, none⟩) (L.length - kk) (cap - kk), .string ⟨(be4 z).toArray⟩]).run Try.prog W' = .ok (.int .i64 4) W'' ∧ RowB W'' gr (putL M' kk z) ∧ Out (fun i => i = gr) wr W'' ∧ RApp 13 (some gr) 13 W' W'' := by
            intro W' hW' hut
            have hrw : RowB W' gr M' := hut _ List.mem_cons_self rfl
            obtain ⟨W'', c1, c2, c3⟩ := run_copy_rowB W' gr kk (L.length - kk) (cap - kk) ⟨(be4 z).toArray⟩ M' (be4 z) rfl hrw (by rw [be4_len]; omega) (by rw [be4_len, hM'l]; exact hkk4)
            exact ⟨W'', c1, c2, Out.trans hW' (Out.grown (O := fun i => i = gr) c3 rfl) (fun _ _ e => e), c3⟩
          have hU0 : ∀ q ∈ ([(13, fun W => RowB W gr M')] : List (Nat × (World → Prop))), q.2 wr.drew := by
            intro q hq
            obtain rfl := List.mem_singleton.1 hq
            exact hrow'
          have hUs : ∀ q ∈ ([(13, fun W => RowB W gr M')] : List (Nat × (World → Prop))), ∀ i w w', i ≠ q.1 → RApp 13 (some gr) i w w' → q.2 w → q.2 w' := by
            intro q hq i w w' hi hr hw
            obtain rfl := List.mem_singleton.1 hq
            exact RowB.below hw (hr.below hi) (RowB.lt hw)
          have hrl : ∀ q, some gr = some q → q < wr.heap.size := fun q hq => by injection hq with hq; rw [← hq]; exact hrow'.lt
          have hck : ¬ cap = kk := by have := Hcap.out; omega
          have hput' : putsL L fby (q - (j + 1)) (j + 1) (i0 + 2 + 4 * (j + 1)) (putL M' kk z) = stepO L bl va ec M (i0, m) := by
            rw [← hput, show q - j = q - (j + 1) + 1 by omega, putsL, ← hkk, ← hd, ← hz0, ← hz, show i0 + 2 + 4 * (j + 1) = kk + 4 by omega]
          have hlen' : (putL M' kk z).length = L.length := by rw [putL_len (by rw [hM'l]; exact hkk4), hM'l]
          have Hput := Lib.hid hput
          clear hput
          have Hrow' := Lib.hid hrow'
          clear hrow'
          have HO' := Lib.hid hO'
          clear hO'
          have Hy' := Lib.hid hy'
          clear hy'
          have Hd := Lib.hid hd
          clear hd
          have Hkk := Lib.hid hkk
          clear hkk
          have Hs' := Lib.hid hs'
          clear hs'
          have Hp' := Lib.hid hp'
          clear hp'
          have Hgn := Lib.hid hgn
          clear hgn
          have Hsn := Lib.hid hsn
          clear hsn
          have Hpn := Lib.hid hpn
          clear hpn
          have HM'l := Lib.hid hM'l
          clear hM'l
          have Hz0 := Lib.hid hz0
          clear hz0
          have Hz := Lib.hid hz
          clear hz
          have Hzi := Lib.hid hzi
          clear hzi
          have E2 := Lib.hid e2
          clear e2
          have HS0 := Lib.hid hS0
          clear hS0
          have HSb := Lib.hid hSb
          clear hSb
          have N1 := Lib.hid n1
          clear n1
          have Cf1 := Lib.hid cf1
          clear cf1
          have Cf2 := Lib.hid cf2
          clear cf2
          have Rb1 := Lib.hid rb1
          clear rb1
          have Hhigh := Lib.hid hhigh
          clear hhigh
          have Hcopy := Lib.hid hcopy
          clear hcopy
          have HU0 := Lib.hid hU0
          clear hU0
          have HUs := Lib.hid hUs
          clear hUs
          have Hrl := Lib.hid hrl
          clear hrl
          have Hput' := Lib.hid hput'
          clear hput'
          have Hlen' := Lib.hid hlen'
          clear hlen'
          have Hkk4 := Lib.hid hkk4
          clear hkk4
          have Hzlt := Lib.hid hzlt
          clear hzlt
          gi_upto_region 18 with fail
          rw [show ((i0 : Int) + 2 + 4 * (j : Int)) = ((kk : Nat) : Int) by rw [Hkk.out]; omega]
          clear hyc
          refine wpIn_region_flowu 14 (fun W => Out (fun i => i = gr) wr W) (RApp 13 (some gr)) [(13, fun W => RowB W gr M')] (by kernel_rfl) (by rintro ⟨_, _, h⟩; exact h) (by kernel_rfl) (by kernel_rfl) (by kernel_rfl) RApp.refl HUs.out HU0.out HS0.out ?_
          simp only [List.take_succ_cons, List.take_zero, List.drop_succ_cons, List.drop_zero]
          repeat (first
            | (refine flowu_quiet RApp.refl rfl rfl rfl rfl ?_; intro K hK; go_big_quiet_op; go_big_quiet_on)
            | (refine flowu_call Cf1.out _ ?_ rfl rfl rfl _ N1.out wr ?_; (focus (simp only [List.map_toArray, List.map_cons, List.map_nil]; rfl)); intro K hK; go_big_quiet_op; go_big_quiet_on))
          refine flowx_build wr.heap.size (E := 22) #[(0, .int .u32 (((z0 : Int) + (d : Int)) % 4294967296))] ?_ #[.int .u32 (((z0 : Int) + (d : Int)) % 4294967296)] Rb1.out HSb.out (fun w h => h.size) Hrl.out rfl rfl rfl wr ?_
          focus (simp only [List.map_toArray, List.map_cons, List.map_nil]; rfl)
          intro K hK; go_big_quiet_op; go_big_quiet_on
          refine flowu_callY Cf2.out (.string ⟨(be4 z).toArray⟩) (fun u => #[.int .i64 4, u]) 0 rfl rfl (fun f => by rfl) Hhigh.out rfl rfl wr ?_
          intro K hK; go_big_quiet_op; go_big_quiet_on
          refine flowu_do (.int .i64 4) (fun _ W => RowB W gr (putL M' kk z)) (fun l i w w' hi hr h => RowB.below h (hr.below hi) (RowB.lt h)) (fun _ _ h => by cases h) rfl (fun W hW hut => by
            obtain ⟨W', h1, h2, h3, h4⟩ := Hcopy.out W hW hut
            refine ⟨W', ?_, h2, h3, h4⟩
            simp [execOp, resolve, invoke, builtin, Act.eval, h1, Result.andThen, hck]) rfl rfl wr ?_
          intro K hK; go_big_quiet_op; go_big_quiet_on
          refine flowu_nil ?_
          intro W5 f hW5 hF5
          have hk5 : RowB W5 gr (putL M' kk z) := hF5 _ (.head _)
          clear hF5
          simp only [fillW]
          have hO5 : Out (fun i => i = gr) W W5 := Out.trans HO'.out hW5 (fun _ _ e => e)
          have hy5 := (hW5.block gy Hy'.out.lt Hgn.out).trans Hy'.out
          have hy5 : Blk W5 gy 22 cs := hy5
          generalize f 72 = v72
          clear hW5 ne qp qs
          have Hk5 := Lib.hid hk5
          clear hk5
          have HO5 := Lib.hid hO5
          clear hO5
          have Hy5 := Lib.hid hy5
          clear hy5
          simp only [Act.put, List.setIfInBounds_toArray, List.set_cons_succ, List.set_cons_zero]
          simp only [wpList, Exit.inBlock, Exit.then]
          go_at_K
          gi_wp2
          go_roundw
          case rel => exact ⟨j + 1, putL M' kk z, by go_num, by omega, Hlen'.out, Hput'.out, Hk5.out, HO5.out, Hy5.out⟩
          case measure => simp [intOf]; omega
        · have hje : j = q := by omega
          have hM' : M' = stepO L bl va ec M (i0, m) := by
            rw [← hput, hje, Nat.sub_self]
            rfl
          have i1 : ¬ (j : Int) < (q : Int) := by omega
          clear hput hje
          have Hrow' := Lib.hid hrow'
          clear hrow'
          have HO' := Lib.hid hO'
          clear hO'
          have Hy' := Lib.hid hy'
          clear hy'
          have HM' := Lib.hid hM'
          clear hM'
          have HM'l := Lib.hid hM'l
          clear hM'l
          gi_wp2
          exact TurnI.next HI.out HO'.out Hrow'.out (HM'.out.trans Hnext.out) hwr HgrB.out
    by_cases h5 : k = 5
    · have t8 : ((k : Int) == 8) = false := by simp; omega
      have t5 : ((k : Int) == 5) = true := by rw [h5]; rfl
      have hm4 : m = 10 ∨ m = 18 ∨ m = 26 ∨ m = 34 := by have := R2.out; rw [h5] at this; simp [longB] at this; omega
      have hst2' : stepO L bl va ec M (i0, m) = putsL L (fun _ => bl) ((m - 2) / 4) 0 (i0 + 2) M := stepO_blocks (by rw [← Hk.out]; exact h5)
      obtain ⟨q, hq⟩ : ∃ q, q = (m - 2) / 4 := ⟨_, rfl⟩
      obtain ⟨fby, hf⟩ : ∃ f : Nat → Nat, f = fun _ => bl := ⟨_, rfl⟩
      have hst2 : stepO L bl va ec M (i0, m) = putsL L fby q 0 (i0 + 2) M := by rw [hf, hq]; exact hst2'
      have hq8 : q ≤ 8 := by omega
      have hqm : 2 + 4 * q ≤ m := by omega
      have hqi : ((m : Int) - 2) / 4 = (q : Int) := by omega
      have hqq : q = 2 ∨ q = 4 ∨ q = 6 ∨ q = 8 := by omega
      have hm2 : (2 : Int) ≤ (m : Int) := by omega
      have hrep := rep_any (W.alloc (.cells #[.int .u32 (bl : Int)] 22)) W.heap.size 1 (bl : Int) (Blk.new _ _ _) q hqq
      rw [← hqi] at hrep
      have hal : Below W.heap.size W (W.alloc (.cells #[.int .u32 (bl : Int)] 22)) := (Below.refl _ _).alloc (Nat.le_refl _) _
      clear hst2' h5 hqi
      have Hrep := Lib.hid hrep
      clear hrep
      have Hal := Lib.hid hal
      clear hal
      have Hst2 := Lib.hid hst2
      clear hst2
      have Hq := Lib.hid hq
      clear hq
      have Hf := Lib.hid hf
      clear hf
      have Hm4 := Lib.hid hm4
      clear hm4
      have Hqq := Lib.hid hqq
      clear hqq
      gi_wp2_with fail
      refine ⟨trivial, ?_⟩
      refine (CallsIn.inRound l (callsIn_wide.2 Hrep.out)).mono ?_
      rintro e W1 ⟨gy, rfl, hy, _, hbq⟩
      have hbw : Below W.heap.size W W1 := Hal.out.trans (hbq.mono Hal.out.size)
      have hrow1 := Hrow.out.below hbw Hrow.out.lt
      have hO1 : Out (fun i => i = gr) W W1 := Out.of_below hbw
      obtain ⟨cs, hcse⟩ : ∃ cs : Array Value, cs = (List.replicate q (Value.int .u32 (bl : Int))).toArray := ⟨_, rfl⟩
      rw [← hcse] at hy
      have hcs : ∀ j, j < q → cs[j]? = some (.int .u32 ((fby j : Nat) : Int)) := by
        intro j hj
        rw [hcse, Hf.out]
        simp [hj]
      have hfb : ∀ j, fby j < 4294967296 := by intro j; rw [Hf.out]; exact hbl
      have hst2 := Hst2.out
      clear Hst2 hbq hbw hcse
      gi_upto_region 14 with fail
      have hal2 := hO1
      have Hy := Lib.hid hy
      clear hy
      have HO1 := Lib.hid hO1
      clear hO1
      have Hrow1 := Lib.hid hrow1
      clear hrow1
      have Hcs := Lib.hid hcs
      clear hcs
      have Hfb := Lib.hid hfb
      clear hfb
      have Hst2 := Lib.hid hst2
      clear hst2
      have Hq8 := Lib.hid hq8
      clear hq8
      have Hqm := Lib.hid hqm
      clear hqm
      gi_wp2_with fail
      gi_loopw [51] (fun i wr => ∃ (j : Nat) (M' : List UInt8), i = .int .i64 (j : Int) ∧ j ≤ q ∧ M'.length = L.length ∧ putsL L fby (q - j) j (i0 + 2 + 4 * j) M' = stepO L bl va ec M (i0, m) ∧ RowB wr gr M' ∧ Out (fun i => i = gr) W wr ∧ Blk wr gy 22 cs) (fun i _ => q - (intOf i).toNat)
      case atStart => exact ⟨0, M, rfl, Nat.zero_le _, HMl.out, Hst2.out.symm, Hrow1.out, HO1.out, Hy.out⟩
      case round =>
        obtain ⟨j, M', rfl, hj, hM'l, hput, hrow', hO', hy'⟩ := hrel
        clear hal2
        by_cases hjq : j < q
        · have i1 : (j : Int) < (q : Int) := by omega
          have i8 : (j : Int) < 8 := by have := Hq8.out; omega
          obtain ⟨d, hd⟩ : ∃ d, d = fby j := ⟨_, rfl⟩
          have hyc : wr.cell? ⟨gy, j, none⟩ = some (.int .u32 (d : Int)) := by rw [hy'.cell j, Hcs.out j hjq, hd]
          obtain ⟨kk, hkk⟩ : ∃ kk, kk = i0 + 2 + 4 * j := ⟨_, rfl⟩
          have hkk4 : kk + 4 ≤ L.length := by have := Hqm.out; have := R3.out; omega
          have i3 : (i0 : Int) ≤ 40 := by have := H40.out; have := Hi.out; omega
          have kB : ∀ {g : Nat} {t : TypeId} {c : Array Value}, Blk W g t c → t ≠ 5 → Blk wr g t c := fun {g t c} h ht => (hO'.block g h.lt (Hrow.out.ne_ h ht)).trans h
          have hs' := kB Hs.out (by decide)
          have hp' := kB Hp.out (by decide)
          have hgn := hrow'.ne_ hy' (by decide)
          have hsn := hrow'.ne_ hs' (by decide)
          have hpn := hrow'.ne_ hp' (by decide)
          clear kB
          have hdlt : d < 4294967296 := by rw [hd]; exact Hfb.out j
          have j1 : (kk : Int) ≤ (L.length : Int) := by omega
          have j2 : (kk : Int) + 4 ≤ (L.length : Int) := by omega
          have j3 : (0 : Int) ≤ (kk : Int) + 4 := by omega
          have j4 : (kk : Int) ≤ (kk : Int) + 4 := by omega
          have j5 : (kk : Int) + 4 ≤ 100 := by have := H40.out; omega
          have j6 : (kk : Int) ≤ (cap : Int) := by have := Hcap.out; omega
          have hsz' : x.size = L.length := Hsz.out
          obtain ⟨z0, hz0⟩ : ∃ z, z = atL L kk := ⟨_, rfl⟩
          have hz0lt : z0 < 4294967296 := by rw [hz0]; exact numL_lt _
          obtain ⟨z, hz⟩ : ∃ z, z = (z0 + d) % 4294967296 := ⟨_, rfl⟩
          have hzlt : z < 4294967296 := by omega
          have hzi : ((z0 : Int) + (d : Int)) % 4294967296 = (z : Int) := by omega
          have e2 : (x.extract kk (kk + 4)).data.toList = (L.drop kk).take 4 := by rw [ext_list x L Hx.out, show kk + 4 - kk = 4 by omega]
          have hS0 : Out (fun i => i = gr) wr wr.drew := Out.of_below (Below.drew (Below.refl _ _))
          have ne : Nonempty (Cls (fun W => Out (fun i => i = gr) wr W)) := ⟨⟨_, hS0⟩⟩
          have hSb : ∀ w w', Out (fun i => i = gr) wr w → Below w.heap.size w w' → Out (fun i => i = gr) wr w' := fun w w' h hb => Out.trans h (Out.of_below (O := fun _ => False) hb) (fun _ _ e => e.elim)
          have qp : ∀ y : Cls (fun W => Out (fun i => i = gr) wr W), y.w.cell? ⟨gp, 0, none⟩ = some (.slice (some ⟨gr, 0, none⟩) L.length cap) := fun y => by
            have h : Blk y.w gp 51 #[.slice (some ⟨gr, 0, none⟩) L.length cap] := (y.h.block gp hp'.lt hpn).trans hp'
            have := h.cell 0
            simpa using this
          have qs : ∀ y : Cls (fun W => Out (fun i => i = gr) wr W), y.w.cell? ⟨gs, 0, none⟩ = some (.string x) := fun y => by
            have h : Blk y.w gs 9 #[.string x] := (y.h.block gs hs'.lt hsn).trans hs'
            have := h.cell 0
            simpa using this
          have n1 : ∀ y : Cls (fun W => Out (fun i => i = gr) wr W), Calls Try.prog 77 #[.string (x.extract kk (kk + 4))] y.w fun e w'' => e = .returned (.int .u32 (z0 : Int)) ∧ Out (fun i => i = gr) wr w'' ∧ RApp 13 (some gr) 8 y.w w'' := fun y => (number_any _ y.w (by simp [maxLen]; omega)).mono fun e w' ⟨he, hb⟩ => ⟨by rw [he, e2, hz0]; rfl, hSb _ _ y.h hb, RApp.of_below hb⟩
          have cf1 : ∀ (vals : Array Value) (w : World), (callFunc 77 vals).run Try.prog w = .ok (.enter 77 vals) w := fun _ _ => by kernel_rfl
          have cf2 : ∀ (vals : Array Value) (w : World), (callFunc 86 vals).run Try.prog w = .ok (.enter 86 vals) w := fun _ _ => by kernel_rfl
          have rb1 : ∀ w : World, (Instr.buildSlice 125 1 #[(0, .int .u32 (((z0 : Int) + (d : Int)) % 4294967296))]).run Try.prog w = .ok (.slice (some ⟨w.heap.size, 0, none⟩) 1 1) (w.alloc (.cells #[.int .u32 (((z0 : Int) + (d : Int)) % 4294967296)] 22)) := fun _ => by kernel_rfl
          have hhigh : ∀ (y : Cls (fun W => Out (fun i => i = gr) wr W)) (u : Value), rowAt wr.heap.size 22 #[.int .u32 (((z0 : Int) + (d : Int)) % 4294967296)] 1 [u] y.w → Calls Try.prog 86 #[.int .i64 4, u] y.w fun e w'' => e = .returned (.string ⟨(be4 z).toArray⟩) ∧ Out (fun i => i = gr) wr w'' ∧ RApp 13 (some gr) 12 y.w w'' := by
            rintro y u ⟨g', e, _, hkk2⟩
            injection e with e
            subst e
            rw [hzi] at hkk2
            refine (ohigh32 y.w g' [z] _ (by intro v hv; simp at hv; subst hv; exact hzlt) rfl hkk2 (by simp) (by simp)).mono ?_
            rintro e w'' ⟨rfl, hb⟩
            exact ⟨by simp, hSb _ _ y.h hb, RApp.of_below hb⟩
          have hcopy : ∀ W', Out (fun i => i = gr) wr W' → untilU [(13, fun W => RowB W gr M')] 13 W' → ∃ W'', (Builtin.copy_ #[51, 9] 3 #[.slice (some ⟨gr, kk, none⟩) (L.length - kk) (cap - kk), .string ⟨(be4 z).toArray⟩]).run Try.prog W' = .ok (.int .i64 4) W'' ∧ RowB W'' gr (putL M' kk z) ∧ Out (fun i => i = gr) wr W'' ∧ RApp 13 (some gr) 13 W' W'' := by
            intro W' hW' hut
            have hrw : RowB W' gr M' := hut _ List.mem_cons_self rfl
            obtain ⟨W'', c1, c2, c3⟩ := run_copy_rowB W' gr kk (L.length - kk) (cap - kk) ⟨(be4 z).toArray⟩ M' (be4 z) rfl hrw (by rw [be4_len]; omega) (by rw [be4_len, hM'l]; exact hkk4)
            exact ⟨W'', c1, c2, Out.trans hW' (Out.grown (O := fun i => i = gr) c3 rfl) (fun _ _ e => e), c3⟩
          have hU0 : ∀ q ∈ ([(13, fun W => RowB W gr M')] : List (Nat × (World → Prop))), q.2 wr.drew := by
            intro q hq
            obtain rfl := List.mem_singleton.1 hq
            exact hrow'
          have hUs : ∀ q ∈ ([(13, fun W => RowB W gr M')] : List (Nat × (World → Prop))), ∀ i w w', i ≠ q.1 → RApp 13 (some gr) i w w' → q.2 w → q.2 w' := by
            intro q hq i w w' hi hr hw
            obtain rfl := List.mem_singleton.1 hq
            exact RowB.below hw (hr.below hi) (RowB.lt hw)
          have hrl : ∀ q, some gr = some q → q < wr.heap.size := fun q hq => by injection hq with hq; rw [← hq]; exact hrow'.lt
          have hck : ¬ cap = kk := by have := Hcap.out; omega
          have hput' : putsL L fby (q - (j + 1)) (j + 1) (i0 + 2 + 4 * (j + 1)) (putL M' kk z) = stepO L bl va ec M (i0, m) := by
            rw [← hput, show q - j = q - (j + 1) + 1 by omega, putsL, ← hkk, ← hd, ← hz0, ← hz, show i0 + 2 + 4 * (j + 1) = kk + 4 by omega]
          have hlen' : (putL M' kk z).length = L.length := by rw [putL_len (by rw [hM'l]; exact hkk4), hM'l]
          have Hput := Lib.hid hput
          clear hput
          have Hrow' := Lib.hid hrow'
          clear hrow'
          have HO' := Lib.hid hO'
          clear hO'
          have Hy' := Lib.hid hy'
          clear hy'
          have Hd := Lib.hid hd
          clear hd
          have Hkk := Lib.hid hkk
          clear hkk
          have Hs' := Lib.hid hs'
          clear hs'
          have Hp' := Lib.hid hp'
          clear hp'
          have Hgn := Lib.hid hgn
          clear hgn
          have Hsn := Lib.hid hsn
          clear hsn
          have Hpn := Lib.hid hpn
          clear hpn
          have HM'l := Lib.hid hM'l
          clear hM'l
          have Hz0 := Lib.hid hz0
          clear hz0
          have Hz := Lib.hid hz
          clear hz
          have Hzi := Lib.hid hzi
          clear hzi
          have E2 := Lib.hid e2
          clear e2
          have HS0 := Lib.hid hS0
          clear hS0
          have HSb := Lib.hid hSb
          clear hSb
          have N1 := Lib.hid n1
          clear n1
          have Cf1 := Lib.hid cf1
          clear cf1
          have Cf2 := Lib.hid cf2
          clear cf2
          have Rb1 := Lib.hid rb1
          clear rb1
          have Hhigh := Lib.hid hhigh
          clear hhigh
          have Hcopy := Lib.hid hcopy
          clear hcopy
          have HU0 := Lib.hid hU0
          clear hU0
          have HUs := Lib.hid hUs
          clear hUs
          have Hrl := Lib.hid hrl
          clear hrl
          have Hput' := Lib.hid hput'
          clear hput'
          have Hlen' := Lib.hid hlen'
          clear hlen'
          have Hkk4 := Lib.hid hkk4
          clear hkk4
          have Hzlt := Lib.hid hzlt
          clear hzlt
          gi_upto_region 18 with fail
          rw [show ((i0 : Int) + 2 + 4 * (j : Int)) = ((kk : Nat) : Int) by rw [Hkk.out]; omega]
          clear hyc
          refine wpIn_region_flowu 14 (fun W => Out (fun i => i = gr) wr W) (RApp 13 (some gr)) [(13, fun W => RowB W gr M')] (by kernel_rfl) (by rintro ⟨_, _, h⟩; exact h) (by kernel_rfl) (by kernel_rfl) (by kernel_rfl) RApp.refl HUs.out HU0.out HS0.out ?_
          simp only [List.take_succ_cons, List.take_zero, List.drop_succ_cons, List.drop_zero]
          repeat (first
            | (refine flowu_quiet RApp.refl rfl rfl rfl rfl ?_; intro K hK; go_big_quiet_op; go_big_quiet_on)
            | (refine flowu_call Cf1.out _ ?_ rfl rfl rfl _ N1.out wr ?_; (focus (simp only [List.map_toArray, List.map_cons, List.map_nil]; rfl)); intro K hK; go_big_quiet_op; go_big_quiet_on))
          refine flowx_build wr.heap.size (E := 22) #[(0, .int .u32 (((z0 : Int) + (d : Int)) % 4294967296))] ?_ #[.int .u32 (((z0 : Int) + (d : Int)) % 4294967296)] Rb1.out HSb.out (fun w h => h.size) Hrl.out rfl rfl rfl wr ?_
          focus (simp only [List.map_toArray, List.map_cons, List.map_nil]; rfl)
          intro K hK; go_big_quiet_op; go_big_quiet_on
          refine flowu_callY Cf2.out (.string ⟨(be4 z).toArray⟩) (fun u => #[.int .i64 4, u]) 0 rfl rfl (fun f => by rfl) Hhigh.out rfl rfl wr ?_
          intro K hK; go_big_quiet_op; go_big_quiet_on
          refine flowu_do (.int .i64 4) (fun _ W => RowB W gr (putL M' kk z)) (fun l i w w' hi hr h => RowB.below h (hr.below hi) (RowB.lt h)) (fun _ _ h => by cases h) rfl (fun W hW hut => by
            obtain ⟨W', h1, h2, h3, h4⟩ := Hcopy.out W hW hut
            refine ⟨W', ?_, h2, h3, h4⟩
            simp [execOp, resolve, invoke, builtin, Act.eval, h1, Result.andThen, hck]) rfl rfl wr ?_
          intro K hK; go_big_quiet_op; go_big_quiet_on
          refine flowu_nil ?_
          intro W5 f hW5 hF5
          have hk5 : RowB W5 gr (putL M' kk z) := hF5 _ (.head _)
          clear hF5
          simp only [fillW]
          have hO5 : Out (fun i => i = gr) W W5 := Out.trans HO'.out hW5 (fun _ _ e => e)
          have hy5 := (hW5.block gy Hy'.out.lt Hgn.out).trans Hy'.out
          have hy5 : Blk W5 gy 22 cs := hy5
          generalize f 72 = v72
          clear hW5 ne qp qs
          have Hk5 := Lib.hid hk5
          clear hk5
          have HO5 := Lib.hid hO5
          clear hO5
          have Hy5 := Lib.hid hy5
          clear hy5
          simp only [Act.put, List.setIfInBounds_toArray, List.set_cons_succ, List.set_cons_zero]
          simp only [wpList, Exit.inBlock, Exit.then]
          go_at_K
          gi_wp2
          go_roundw
          case rel => exact ⟨j + 1, putL M' kk z, by go_num, by omega, Hlen'.out, Hput'.out, Hk5.out, HO5.out, Hy5.out⟩
          case measure => simp [intOf]; omega
        · have hje : j = q := by omega
          have hM' : M' = stepO L bl va ec M (i0, m) := by
            rw [← hput, hje, Nat.sub_self]
            rfl
          have i1 : ¬ (j : Int) < (q : Int) := by omega
          clear hput hje
          have Hrow' := Lib.hid hrow'
          clear hrow'
          have HO' := Lib.hid hO'
          clear hO'
          have Hy' := Lib.hid hy'
          clear hy'
          have HM' := Lib.hid hM'
          clear hM'
          have HM'l := Lib.hid hM'l
          clear hM'l
          gi_wp2
          exact TurnI.next HI.out HO'.out Hrow'.out (HM'.out.trans Hnext.out) hwr HgrB.out
    have t8 : ((k : Int) == 8) = false := by simp; omega
    have t5 : ((k : Int) == 5) = false := by simp; omega
    have hst2 : stepO L bl va ec M (i0, m) = M := stepO_other (by rw [← Hk.out]; exact h8) (by rw [← Hk.out]; exact h5)
    clear h8 h5
    have Hst2 := Lib.hid hst2
    clear hst2
    gi_wp2_with fail
    gi_loopw [51] (fun i wr => i = .int .i64 0 ∧ wr = W) (fun i _ => 0)
    case atStart => exact ⟨rfl, rfl⟩
    case round =>
      obtain ⟨rfl, rfl⟩ := hrel
      gi_wp2_with fail
      gi_wp2
      exact TurnI.next HI.out (Out.refl _ _) Hrow.out (Hst2.out.symm.trans Hnext.out) hwr HgrB.out
  case done =>
    rintro D xs W hD hS ⟨hB, hs, hb, hv, hc, hp, hrow⟩ hK
    rw [hS, stepsO L bl va ec Hfine.out] at hrow
    have hlen := turnL_len bl va ec L
    obtain ⟨M, hM⟩ : ∃ M, M = turnT bl va ec L := ⟨_, rfl⟩
    rw [← hM] at hrow hlen
    have hbk := run_bytes_back W ⟨gr, 0, none⟩ L.length cap M hlen.symm (by
      intro j hj
      rw [add_plain, Nat.zero_add, hrow.cell (List.getElem?_eq_getElem hj)]
      rfl)
    have cp0 := hp.cell 0
    try simp at cp0
    have HB := Lib.hid hB
    clear hB
    have Hs := Lib.hid hs
    clear hs
    have Hb := Lib.hid hb
    clear hb
    have Hv := Lib.hid hv
    clear hv
    have Hc := Lib.hid hc
    clear hc
    have Hp := Lib.hid hp
    clear hp
    have Hrow := Lib.hid hrow
    clear hrow
    have Hlen := Lib.hid hlen
    clear hlen
    have HM := Lib.hid hM
    clear hM
    have HS := Lib.hid hS
    clear hS
    gi_wp2_with fail
    gi_wp2
    refine ⟨by simp, .inl ⟨_, _, rfl, run_takeDeferred hK, ?_⟩⟩
    refine ⟨.tuple #[.string ⟨M.toArray⟩, .int .i64 0], by simp [results, Try.results50, go_sem], ?_⟩
    unfold TurnPost
    rw [HTR.out, ← HM.out]
    exact ⟨rfl, HB.out.trans (belowK_b (w := w) (Nat.le_refl _) W D _ _ (Nat.le_trans hBs5 hD) hK rfl rfl)⟩
  case stop =>
    rintro D c pre W _ _ h _
    exact h.elim
set_option maxHeartbeats 4000000 in
theorem turn_no (x : ByteArray) (L : List UInt8) (hx : x.data.toList = L) (hd : (decR L).2 ≠ 0) (bl va ec : Nat) (w : World) :
    Calls Try.prog 50 #[.string x, .int .u32 (bl : Int), .int .u32 (va : Int), .int .u32 (ec : Int)] w (TurnPost bl va ec w L) := by
  have hdec := dec_any x
  rw [hx] at hdec
  have hb0 : Below w.heap.size w w := Below.refl _ _
  have HB := Lib.hid hb0
  clear hb0
  have Hx := Lib.hid hx
  clear hx
  have Hd := Lib.hid hd
  clear hd
  have Hdec := Lib.hid hdec
  clear hdec
  go_enter Try.func50, Try.ntmps50
  go_upto_region 1 with fail
  have hs := Blk.alloc (Blk.alloc (Blk.alloc (Blk.new w 9 #[.string x]) (.cells #[.int .u32 (bl : Int)] 22)) (.cells #[.int .u32 (va : Int)] 22)) (.cells #[.int .u32 (ec : Int)] 22)
  have hb := Blk.alloc (Blk.alloc (Blk.new (w.alloc (.cells #[.string x] 9)) 22 #[.int .u32 (bl : Int)]) (.cells #[.int .u32 (va : Int)] 22)) (.cells #[.int .u32 (ec : Int)] 22)
  rw [show (w.alloc (.cells #[.string x] 9)).heap.size = w.heap.size + 1 by simp] at hb
  have hv := Blk.alloc (Blk.new ((w.alloc (.cells #[.string x] 9)).alloc (.cells #[.int .u32 (bl : Int)] 22)) 22 #[.int .u32 (va : Int)]) (.cells #[.int .u32 (ec : Int)] 22)
  rw [show ((w.alloc (.cells #[.string x] 9)).alloc (.cells #[.int .u32 (bl : Int)] 22)).heap.size = w.heap.size + 2 by simp] at hv
  have hc := Blk.new (((w.alloc (.cells #[.string x] 9)).alloc (.cells #[.int .u32 (bl : Int)] 22)).alloc (.cells #[.int .u32 (va : Int)] 22)) 22 #[.int .u32 (ec : Int)]
  rw [show (((w.alloc (.cells #[.string x] 9)).alloc (.cells #[.int .u32 (bl : Int)] 22)).alloc (.cells #[.int .u32 (va : Int)] 22)).heap.size = w.heap.size + 3 by simp] at hc
  have hB := Below.alloc (Below.alloc (Below.alloc (Below.alloc (HB.out) (Nat.le_trans HB.out.size (by simp <;> omega)) (.cells #[.string x] 9)) (Nat.le_trans HB.out.size (by simp <;> omega)) (.cells #[.int .u32 (bl : Int)] 22)) (Nat.le_trans HB.out.size (by simp <;> omega)) (.cells #[.int .u32 (va : Int)] 22)) (Nat.le_trans HB.out.size (by simp <;> omega)) (.cells #[.int .u32 (ec : Int)] 22)
  clear HB
  obtain ⟨gc, hgec⟩ : ∃ g, g = w.heap.size + 3 := ⟨_, rfl⟩
  rw [← hgec] at hc ⊢
  obtain ⟨gv, hgev⟩ : ∃ g, g = w.heap.size + 2 := ⟨_, rfl⟩
  rw [← hgev] at hv ⊢
  obtain ⟨gb, hgeb⟩ : ∃ g, g = w.heap.size + 1 := ⟨_, rfl⟩
  rw [← hgeb] at hb ⊢
  obtain ⟨gs, hges⟩ : ∃ g, g = w.heap.size := ⟨_, rfl⟩
  rw [← hges] at hs ⊢
  have hne_s_b : gs ≠ gb := by omega
  have hne_s_v : gs ≠ gv := by omega
  have hne_s_c : gs ≠ gc := by omega
  have hne_b_v : gb ≠ gv := by omega
  have hne_b_c : gb ≠ gc := by omega
  have hne_v_c : gv ≠ gc := by omega
  have hle_s : w.heap.size ≤ gs := by omega
  have hle_b : w.heap.size ≤ gb := by omega
  have hle_v : w.heap.size ≤ gv := by omega
  have hle_c : w.heap.size ≤ gc := by omega
  clear hges hgeb hgev hgec
  generalize (((w.alloc _).alloc _).alloc _).alloc _ = wn3 at *
  have Hs := Lib.hid hs
  clear hs
  have Hb := Lib.hid hb
  clear hb
  have Hv := Lib.hid hv
  clear hv
  have Hc := Lib.hid hc
  clear hc
  have HB := Lib.hid hB
  clear hB
  obtain ⟨W1, hW1⟩ : ∃ W, W = wn3 := ⟨_, rfl⟩
  rw [← hW1] at Hs Hb Hv Hc HB ⊢
  clear hW1
  have cs1 := Hs.out.cell 0
  try simp at cs1
  go_wp2_with fail
  with_reducible refine (Hdec.out _).mono ?_
  rintro e w2 ⟨r, A, c, code, rfl, ⟨hbr, _⟩, hbq, hre⟩
  have hs := Hs.out.below hbq Hs.out.lt
  clear Hs
  have Hs := Lib.hid hs
  clear hs
  have hb := Hb.out.below hbq Hb.out.lt
  clear Hb
  have Hb := Lib.hid hb
  clear hb
  have hv := Hv.out.below hbq Hv.out.lt
  clear Hv
  have Hv := Lib.hid hv
  clear hv
  have hc := Hc.out.below hbq Hc.out.lt
  clear Hc
  have Hc := Lib.hid hc
  clear hc
  have hB := HB.out.trans (hbq.mono HB.out.size)
  clear HB
  have HB := Lib.hid hB
  clear hB
  clear hbq hbr cs1
  unfold optC
  have hc0 : ¬ code = 0 := by have := Hd.out; rw [← hre] at this; exact this
  have hc1 : (code != 0) = true := by simp [hc0]
  have hTR : turnR bl va ec L = ([], code) := by
    have : (decR L).2 = code := by rw [← hre]
    unfold turnR
    rw [this, if_neg hc0]
  have HTR := Lib.hid hTR
  clear hTR
  clear hc0 hre
  go_upto_region 2 with fail
  have hq := Blk.new w2 28 #[.int .u16 (r.mss : Int), .int .i64 r.scale, .bool r.sack, .slice A r.bl.length c, .bool r.time, .int .u32 (r.val : Int), .int .u32 (r.echo : Int)]
  have hs := Blk.alloc Hs.out (.cells #[.int .u16 (r.mss : Int), .int .i64 r.scale, .bool r.sack, .slice A r.bl.length c, .bool r.time, .int .u32 (r.val : Int), .int .u32 (r.echo : Int)] 28)
  clear Hs
  have hb := Blk.alloc Hb.out (.cells #[.int .u16 (r.mss : Int), .int .i64 r.scale, .bool r.sack, .slice A r.bl.length c, .bool r.time, .int .u32 (r.val : Int), .int .u32 (r.echo : Int)] 28)
  clear Hb
  have hv := Blk.alloc Hv.out (.cells #[.int .u16 (r.mss : Int), .int .i64 r.scale, .bool r.sack, .slice A r.bl.length c, .bool r.time, .int .u32 (r.val : Int), .int .u32 (r.echo : Int)] 28)
  clear Hv
  have hc := Blk.alloc Hc.out (.cells #[.int .u16 (r.mss : Int), .int .i64 r.scale, .bool r.sack, .slice A r.bl.length c, .bool r.time, .int .u32 (r.val : Int), .int .u32 (r.echo : Int)] 28)
  clear Hc
  have hB := HB.out.alloc HB.out.size (.cells #[.int .u16 (r.mss : Int), .int .i64 r.scale, .bool r.sack, .slice A r.bl.length c, .bool r.time, .int .u32 (r.val : Int), .int .u32 (r.echo : Int)] 28)
  clear HB
  obtain ⟨gq, hge⟩ : ∃ g, g = w2.heap.size := ⟨_, rfl⟩
  rw [← hge] at hq ⊢
  have hle_q : w2.heap.size ≤ gq := by omega
  clear hge
  generalize w2.alloc _ = wn4 at *
  have Hs := Lib.hid hs
  clear hs
  have Hb := Lib.hid hb
  clear hb
  have Hv := Lib.hid hv
  clear hv
  have Hc := Lib.hid hc
  clear hc
  have Hq := Lib.hid hq
  clear hq
  have HB := Lib.hid hB
  clear hB
  go_wp2_with fail
  go_ret2
  unfold TurnPost
  rw [HTR.out]
  exact ⟨rfl, HB.out⟩
theorem oturn_any (x : ByteArray) (L : List UInt8) (hx : x.data.toList = L) (bl va ec : Nat) (hbl : bl < 4294967296) (hva : va < 4294967296) (hec : ec < 4294967296) (w : World) :
    Calls Try.prog 50 #[.string x, .int .u32 (bl : Int), .int .u32 (va : Int), .int .u32 (ec : Int)] w (TurnPost bl va ec w L) := by
  by_cases h : (decR L).2 = 0
  · exact callsIn_wide.1 (turn_yes x L hx h bl va ec hbl hva hec w)
  · exact turn_no x L hx h bl va ec w
end Go.Proofs.Ytengegcnocdkoaa
end
section
set_option maxRecDepth 20000
namespace Go.Proofs.Ytengegcnocdkoaa
open Go.RowKit Go.BigFrame
/-- a text is laid at i -/
def layM (M : List UInt8) (i : Nat) (t : List UInt8) : List UInt8 := M.take i ++ t ++ M.drop (i + t.length)
theorem layM_len {M : List UInt8} {i : Nat} {t : List UInt8} (h : i + t.length ≤ M.length) : (layM M i t).length = M.length := by
  unfold layM
  simp
  omega
def sumT (s : Nat) (old now : List UInt8) : Nat := turnsL s ((wordsL old).zip (wordsL now))
/-- what Rewrite's closures work on -/
structure LayS (gb gr gh gw cap n : Nat) (M : List UInt8) (hd wh : Nat) (W : World) : Prop where
  b : Blk W gb 51 #[.slice (some ⟨gr, 0, none⟩) n cap]
  r : RowB W gr M
  n : M.length = n
  h : Blk W gh 23 #[.int .u16 (hd : Int)]
  w : Blk W gw 23 #[.int .u16 (wh : Int)]
def OutL (gr gh gw : Nat) : Nat → Prop := fun i => i = gr ∨ i = gh ∨ i = gw
def LayPost (gb gr gh gw cap n : Nat) (M : List UInt8) (hd wh i : Nat) (t : List UInt8) (W : World) (e : Ending) (w' : World) : Prop :=
  e = .returned (.tuple #[]) ∧ LayS gb gr gh gw cap n (layM M i t) (if i < 20 then sumT hd ((M.drop i).take t.length) t else hd) (sumT wh ((M.drop i).take t.length) t) w' ∧ Out (OutL gr gh gw) W w'
theorem turnsL_lt : ∀ (l : List (Nat × Nat)) (s : Nat), s < 65536 → turnsL s l < 65536
  | [], s, h => h
  | p :: l, s, h => turnsL_lt l _ (Nat.lt_of_le_of_lt (turnL_le s p.1 p.2) (by decide))
theorem sumT_lt {s : Nat} (h : s < 65536) (o t : List UInt8) : sumT s o t < 65536 := turnsL_lt _ _ h
section
variable {gb gr gh gw cap n hd wh : Nat} {M : List UInt8} {W W' : World}
theorem LayS.below (h : LayS gb gr gh gw cap n M hd wh W) (hb : Below W.heap.size W W') : LayS gb gr gh gw cap n M hd wh W' :=
  ⟨h.b.below hb h.b.lt, h.r.below hb h.r.lt, h.n, h.h.below hb h.h.lt, h.w.below hb h.w.lt⟩
theorem LayS.seth (h : LayS gb gr gh gw cap n M hd wh W) (n1 : gh ≠ gb) (n3 : gh ≠ gr) (n5 : gh ≠ gw) (u : Nat) : LayS gb gr gh gw cap n M u wh (W.setCell ⟨gh, 0, none⟩ (.int .u16 (u : Int))) :=
  ⟨h.b.far (Ne.symm n1) _, h.r.grown (only_set (World.grownBy.refl _ _) 0 _) (by simpa using Ne.symm n3), h.n, by have := h.h.set_ 0 (.int .u16 (u : Int)); simpa using this, h.w.far (Ne.symm n5) _⟩
theorem LayS.setw (h : LayS gb gr gh gw cap n M hd wh W) (n2 : gw ≠ gb) (n4 : gw ≠ gr) (n5 : gh ≠ gw) (u : Nat) : LayS gb gr gh gw cap n M hd u (W.setCell ⟨gw, 0, none⟩ (.int .u16 (u : Int))) :=
  ⟨h.b.far (Ne.symm n2) _, h.r.grown (only_set (World.grownBy.refl _ _) 0 _) (by simpa using Ne.symm n4), h.n, h.h.far n5 _, by have := h.w.set_ 0 (.int .u16 (u : Int)); simpa using this⟩
theorem LayS.setr (h : LayS gb gr gh gw cap n M hd wh W) {M' : List UInt8} (hr : RowB W' gr M') (hn : M'.length = n) (hg : W.grownBy W' (some gr)) (n3 : gh ≠ gr) (n4 : gw ≠ gr) (n5 : gb ≠ gr) : LayS gb gr gh gw cap n M' hd wh W' :=
  ⟨h.b.grown hg (by simpa using n5), hr, hn, h.h.grown hg (by simpa using n3), h.w.grown hg (by simpa using n4)⟩
end
set_option maxHeartbeats 1000000 in
theorem lay_any (gb gr gh gw cap n hd wh i : Nat) (M : List UInt8) (x : ByteArray) (t : List UInt8) (hx : x.data.toList = t) (W : World) (hs : LayS gb gr gh gw cap n M hd wh W) (hd1 : hd < 65536) (hw1 : wh < 65536) (hi : i + t.length ≤ n) (hn : n ≤ 131072) (hcap : n ≤ cap) (hne : gh ≠ gw) :
    Calls Try.prog 46 #[.int .i64 (i : Int), .string x, .pointer (some ⟨gb, 0, none⟩), .pointer (some ⟨gh, 0, none⟩), .pointer (some ⟨gw, 0, none⟩)] W (LayPost gb gr gh gw cap n M hd wh i t W) := by
  obtain ⟨old, hold⟩ : ∃ old, old = (M.drop i).take t.length := ⟨_, rfl⟩
  have hol : old.length = t.length := by rw [hold, List.length_take, List.length_drop, hs.n]; omega
  have hxs : x.size = t.length := by rw [← hx]; rfl
  have hos : (⟨old.toArray⟩ : ByteArray).size = t.length := by
    show old.toArray.size = _
    simp [hol]
  have e1 : (⟨old.toArray⟩ : ByteArray).data.toList = old := rfl
  have hT : ∀ s : Nat, s < 65536 → ∀ W, Calls Try.prog 47 #[.int .u16 (s : Int), .string ⟨old.toArray⟩, .string x] W fun e w' => e = .returned (.int .u16 ((sumT s old t : Nat) : Int)) ∧ Below W.heap.size W w' := by
    intro s hs' W
    have := turns_any s ⟨old.toArray⟩ x hs' (by omega) (by omega) W
    rw [hos, hxs, Nat.min_self, e1, hx, List.take_of_length_le (by omega), List.take_of_length_le (Nat.le_refl _)] at this
    exact this
  have hTh := hT hd hd1
  have hTw := hT wh hw1
  unfold LayPost
  rw [← hold]
  have hbk : cap ≠ i → (convert 51 9 (.slice (some ⟨gr, i, none⟩) t.length (cap - i))).run Try.prog W = .ok (.string ⟨old.toArray⟩) W := by
    intro _
    refine run_bytes_back W ⟨gr, i, none⟩ _ _ old hol.symm ?_
    intro j hj
    rw [add_plain]
    refine hs.r.cell (j := i + j) (c := old[j]) ?_
    have e : old[j]? = some old[j] := List.getElem?_eq_getElem hj
    have : old[j]? = M[i + j]? := by
      rw [hold, List.getElem?_take, if_pos (by omega), List.getElem?_drop]
    rw [← this, e]
  have hbk0 : cap = i → (convert 51 9 (.slice (some ⟨gr, 0, none⟩) t.length 0)).run Try.prog W = .ok (.string ⟨old.toArray⟩) W := by
    intro hc
    exact run_bytes_back W ⟨gr, 0, none⟩ _ _ old hol.symm (fun j hj => absurd hj (by omega))
  generalize hu : sumT hd old t = uh at *
  generalize hv : sumT wh old t = uw at *
  have hb0 := hs.b.cell 0
  simp at hb0
  have j1 : (i : Int) + (t.length : Int) ≤ (n : Int) := by omega
  have j2 : (n : Int) ≤ (cap : Int) := by omega
  have j3 : (0 : Int) ≤ (i : Int) := by omega
  have j5 : (0 : Int) ≤ (t.length : Int) := by omega
  have hxi : (x.size : Int) = (t.length : Int) := by omega
  have ne1 := Blk.ne_ hs.h hs.b (by decide)
  have ne2 := Blk.ne_ hs.w hs.b (by decide)
  have ne3 := RowB.ne_ hs.r hs.h (by decide)
  have ne4 := RowB.ne_ hs.r hs.w (by decide)
  have ne5 := RowB.ne_ hs.r hs.b (by decide)
  clear hT hu hv hold hol hxs hos e1
  by_cases hic : cap = i
  · have hbk := hbk0 hic
    have ht0 : t = [] := List.eq_nil_of_length_eq_zero (by omega)
    have hcp : ∀ W4, LayS gb gr gh gw cap n M (if i < 20 then uh else hd) uw W4 → ∃ W5, (Builtin.copy_ #[51, 9] 3 #[.slice (some ⟨gr, 0, none⟩) (n - i) 0, .string x]).run Try.prog W4 = .ok (.int .i64 (t.length : Int)) W5 ∧ RowB W5 gr (layM M i t) ∧ W4.grownBy W5 (some gr) := by
      intro W4 h
      obtain ⟨W5, q1, q2, q3⟩ := run_copy_rowB W4 gr 0 (n - i) 0 x M t hx h.r (by omega) (by rw [h.n]; omega)
      refine ⟨W5, q1, ?_, q3⟩
      have e : layM M i t = M.take 0 ++ t ++ M.drop (0 + t.length) := by rw [ht0]; simp [layM]
      rw [e]
      exact q2
    clear hbk0 ht0
    have Hs := Lib.hid hs
    clear hs
    have HTh := Lib.hid hTh
    clear hTh
    have HTw := Lib.hid hTw
    clear hTw
    have Hx := Lib.hid hx
    clear hx
    have Hcp := Lib.hid hcp
    clear hcp
    go_enter Try.func46, Try.ntmps46
    go_upto_region 1 with fail
    clear hb0 hbk
    by_cases hi20 : i < 20
    · have j6 : (i : Int) < 20 := by omega
      have c0 := Hs.out.h.cell 0
      simp at c0
      go_wp2_with fail
      with_reducible refine (HTh.out _).mono ?_
      rintro e W1 ⟨rfl, hb1⟩
      clear c0
      have hs1 := Hs.out.below hb1
      have ho1 : Out (OutL gr gh gw) W W1 := Out.of_below hb1
      have c0 := hs1.h.cell 0
      simp at c0
      have f0 := hs1.h.frozen 0
      clear hb1
      have Hs1 := Lib.hid hs1
      clear hs1
      have Ho1 := Lib.hid ho1
      clear ho1
      go_upto_region 3 with fail
      have hs2 := Hs1.out.seth ne1 ne3 hne uh
      have ho2 := Ho1.out.set_ (t := gh) (.inr (.inl rfl)) 0 (.int .u16 (uh : Int))
      generalize W1.setCell _ _ = W2 at *
      clear c0 f0
      have c0 := hs2.w.cell 0
      simp at c0
      have Hs2 := Lib.hid hs2
      clear hs2
      have Ho2 := Lib.hid ho2
      clear ho2
      go_wp2_with fail
      with_reducible refine (HTw.out _).mono ?_
      rintro e W3 ⟨rfl, hb3⟩
      clear c0
      have hs3 := Hs2.out.below hb3
      have ho3 : Out (OutL gr gh gw) W W3 := Out.trans Ho2.out (Out.of_below (O := OutL gr gh gw) hb3) (fun _ _ e => e)
      have c0 := hs3.w.cell 0
      simp at c0
      have f0 := hs3.w.frozen 0
      clear hb3
      have Hs3 := Lib.hid hs3
      clear hs3
      have Ho3 := Lib.hid ho3
      clear ho3
      go_upto_region 4 with fail
      have hs4 := Hs3.out.setw ne2 ne4 hne uw
      have ho4 := Ho3.out.set_ (t := gw) (.inr (.inr rfl)) 0 (.int .u16 (uw : Int))
      generalize W3.setCell _ _ = W4 at *
      clear c0 f0
      have d0 := hs4.b.cell 0
      simp at d0
      obtain ⟨W5, q1, q2, q3⟩ := Hcp.out W4 (by first | (rw [if_pos hi20]; exact hs4) | (rw [if_neg hi20]; exact hs4))
      have hs5 := hs4.setr q2 (by have := layM_len (M := M) (i := i) (t := t) (by rw [hs4.n]; exact hi); rw [hs4.n] at this; exact this) q3 ne3 ne4 ne5
      have ho5 : Out (OutL gr gh gw) W W5 := Out.trans ho4 (Out.grown (O := OutL gr gh gw) q3 (.inl rfl)) (fun _ _ e => e)
      clear hs4 ho4 q2 q3
      have Hs5 := Lib.hid hs5
      clear hs5
      have Ho5 := Lib.hid ho5
      clear ho5
      go_wp2
      first | go_end0 | refine bodyPost_ret (results_none rfl _ _ _) rfl ?_
      exact ⟨rfl, by first | exact Hs5.out | (have h := Hs5.out; rw [hic] at h; exact h), Ho5.out⟩
    · have j6 : (20 : Int) ≤ (i : Int) := by omega
      go_upto_region 3 with fail
      have hs2 := Hs.out
      have ho2 : Out (OutL gr gh gw) W W := Out.refl _ _
      have c0 := hs2.w.cell 0
      simp at c0
      have Hs2 := Lib.hid hs2
      clear hs2
      have Ho2 := Lib.hid ho2
      clear ho2
      go_wp2_with fail
      with_reducible refine (HTw.out _).mono ?_
      rintro e W3 ⟨rfl, hb3⟩
      clear c0
      have hs3 := Hs2.out.below hb3
      have ho3 : Out (OutL gr gh gw) W W3 := Out.trans Ho2.out (Out.of_below (O := OutL gr gh gw) hb3) (fun _ _ e => e)
      have c0 := hs3.w.cell 0
      simp at c0
      have f0 := hs3.w.frozen 0
      clear hb3
      have Hs3 := Lib.hid hs3
      clear hs3
      have Ho3 := Lib.hid ho3
      clear ho3
      go_upto_region 4 with fail
      have hs4 := Hs3.out.setw ne2 ne4 hne uw
      have ho4 := Ho3.out.set_ (t := gw) (.inr (.inr rfl)) 0 (.int .u16 (uw : Int))
      generalize W3.setCell _ _ = W4 at *
      clear c0 f0
      have d0 := hs4.b.cell 0
      simp at d0
      obtain ⟨W5, q1, q2, q3⟩ := Hcp.out W4 (by first | (rw [if_pos hi20]; exact hs4) | (rw [if_neg hi20]; exact hs4))
      have hs5 := hs4.setr q2 (by have := layM_len (M := M) (i := i) (t := t) (by rw [hs4.n]; exact hi); rw [hs4.n] at this; exact this) q3 ne3 ne4 ne5
      have ho5 : Out (OutL gr gh gw) W W5 := Out.trans ho4 (Out.grown (O := OutL gr gh gw) q3 (.inl rfl)) (fun _ _ e => e)
      clear hs4 ho4 q2 q3
      have Hs5 := Lib.hid hs5
      clear hs5
      have Ho5 := Lib.hid ho5
      clear ho5
      go_wp2
      first | go_end0 | refine bodyPost_ret (results_none rfl _ _ _) rfl ?_
      exact ⟨rfl, by first | exact Hs5.out | (have h := Hs5.out; rw [hic] at h; exact h), Ho5.out⟩
  · have hbk := hbk hic
    have hcp : ∀ W4, LayS gb gr gh gw cap n M (if i < 20 then uh else hd) uw W4 → ∃ W5, (Builtin.copy_ #[51, 9] 3 #[.slice (some ⟨gr, i, none⟩) (n - i) (cap - i), .string x]).run Try.prog W4 = .ok (.int .i64 (t.length : Int)) W5 ∧ RowB W5 gr (layM M i t) ∧ W4.grownBy W5 (some gr) := by
      intro W4 h
      exact run_copy_rowB W4 gr i (n - i) (cap - i) x M t hx h.r (by omega) (by rw [h.n]; exact hi)
    clear hbk0
    have Hs := Lib.hid hs
    clear hs
    have HTh := Lib.hid hTh
    clear hTh
    have HTw := Lib.hid hTw
    clear hTw
    have Hx := Lib.hid hx
    clear hx
    have Hcp := Lib.hid hcp
    clear hcp
    go_enter Try.func46, Try.ntmps46
    go_upto_region 1 with fail
    clear hb0 hbk
    by_cases hi20 : i < 20
    · have j6 : (i : Int) < 20 := by omega
      have c0 := Hs.out.h.cell 0
      simp at c0
      go_wp2_with fail
      with_reducible refine (HTh.out _).mono ?_
      rintro e W1 ⟨rfl, hb1⟩
      clear c0
      have hs1 := Hs.out.below hb1
      have ho1 : Out (OutL gr gh gw) W W1 := Out.of_below hb1
      have c0 := hs1.h.cell 0
      simp at c0
      have f0 := hs1.h.frozen 0
      clear hb1
      have Hs1 := Lib.hid hs1
      clear hs1
      have Ho1 := Lib.hid ho1
      clear ho1
      go_upto_region 3 with fail
      have hs2 := Hs1.out.seth ne1 ne3 hne uh
      have ho2 := Ho1.out.set_ (t := gh) (.inr (.inl rfl)) 0 (.int .u16 (uh : Int))
      generalize W1.setCell _ _ = W2 at *
      clear c0 f0
      have c0 := hs2.w.cell 0
      simp at c0
      have Hs2 := Lib.hid hs2
      clear hs2
      have Ho2 := Lib.hid ho2
      clear ho2
      go_wp2_with fail
      with_reducible refine (HTw.out _).mono ?_
      rintro e W3 ⟨rfl, hb3⟩
      clear c0
      have hs3 := Hs2.out.below hb3
      have ho3 : Out (OutL gr gh gw) W W3 := Out.trans Ho2.out (Out.of_below (O := OutL gr gh gw) hb3) (fun _ _ e => e)
      have c0 := hs3.w.cell 0
      simp at c0
      have f0 := hs3.w.frozen 0
      clear hb3
      have Hs3 := Lib.hid hs3
      clear hs3
      have Ho3 := Lib.hid ho3
      clear ho3
      go_upto_region 4 with fail
      have hs4 := Hs3.out.setw ne2 ne4 hne uw
      have ho4 := Ho3.out.set_ (t := gw) (.inr (.inr rfl)) 0 (.int .u16 (uw : Int))
      generalize W3.setCell _ _ = W4 at *
      clear c0 f0
      have d0 := hs4.b.cell 0
      simp at d0
      obtain ⟨W5, q1, q2, q3⟩ := Hcp.out W4 (by first | (rw [if_pos hi20]; exact hs4) | (rw [if_neg hi20]; exact hs4))
      have hs5 := hs4.setr q2 (by have := layM_len (M := M) (i := i) (t := t) (by rw [hs4.n]; exact hi); rw [hs4.n] at this; exact this) q3 ne3 ne4 ne5
      have ho5 : Out (OutL gr gh gw) W W5 := Out.trans ho4 (Out.grown (O := OutL gr gh gw) q3 (.inl rfl)) (fun _ _ e => e)
      clear hs4 ho4 q2 q3
      have Hs5 := Lib.hid hs5
      clear hs5
      have Ho5 := Lib.hid ho5
      clear ho5
      go_wp2
      first | go_end0 | refine bodyPost_ret (results_none rfl _ _ _) rfl ?_
      exact ⟨rfl, by first | exact Hs5.out | (have h := Hs5.out; rw [hic] at h; exact h), Ho5.out⟩
    · have j6 : (20 : Int) ≤ (i : Int) := by omega
      go_upto_region 3 with fail
      have hs2 := Hs.out
      have ho2 : Out (OutL gr gh gw) W W := Out.refl _ _
      have c0 := hs2.w.cell 0
      simp at c0
      have Hs2 := Lib.hid hs2
      clear hs2
      have Ho2 := Lib.hid ho2
      clear ho2
      go_wp2_with fail
      with_reducible refine (HTw.out _).mono ?_
      rintro e W3 ⟨rfl, hb3⟩
      clear c0
      have hs3 := Hs2.out.below hb3
      have ho3 : Out (OutL gr gh gw) W W3 := Out.trans Ho2.out (Out.of_below (O := OutL gr gh gw) hb3) (fun _ _ e => e)
      have c0 := hs3.w.cell 0
      simp at c0
      have f0 := hs3.w.frozen 0
      clear hb3
      have Hs3 := Lib.hid hs3
      clear hs3
      have Ho3 := Lib.hid ho3
      clear ho3
      go_upto_region 4 with fail
      have hs4 := Hs3.out.setw ne2 ne4 hne uw
      have ho4 := Ho3.out.set_ (t := gw) (.inr (.inr rfl)) 0 (.int .u16 (uw : Int))
      generalize W3.setCell _ _ = W4 at *
      clear c0 f0
      have d0 := hs4.b.cell 0
      simp at d0
      obtain ⟨W5, q1, q2, q3⟩ := Hcp.out W4 (by first | (rw [if_pos hi20]; exact hs4) | (rw [if_neg hi20]; exact hs4))
      have hs5 := hs4.setr q2 (by have := layM_len (M := M) (i := i) (t := t) (by rw [hs4.n]; exact hi); rw [hs4.n] at this; exact this) q3 ne3 ne4 ne5
      have ho5 : Out (OutL gr gh gw) W W5 := Out.trans ho4 (Out.grown (O := OutL gr gh gw) q3 (.inl rfl)) (fun _ _ e => e)
      clear hs4 ho4 q2 q3
      have Hs5 := Lib.hid hs5
      clear hs5
      have Ho5 := Lib.hid ho5
      clear ho5
      go_wp2
      first | go_end0 | refine bodyPost_ret (results_none rfl _ _ _) rfl ?_
      exact ⟨rfl, by first | exact Hs5.out | (have h := Hs5.out; rw [hic] at h; exact h), Ho5.out⟩
end Go.Proofs.Ytengegcnocdkoaa
end
section
set_option maxRecDepth 20000
namespace Go.Proofs.Ytengegcnocdkoaa
open Go.RowKit
/-- bytes, the head's checksum, the whole's -/
structure LS where
  M : List UInt8
  hd : Nat
  wh : Nat
def LS.lay (st : LS) (i : Nat) (t : List UInt8) : LS := ⟨layM st.M i t, if i < 20 then sumT st.hd ((st.M.drop i).take t.length) t else st.hd, sumT st.wh ((st.M.drop i).take t.length) t⟩
structure LS.ok (st : LS) (n : Nat) : Prop where
  n : st.M.length = n
  hd : st.hd < 65536
  wh : st.wh < 65536
theorem LS.ok.lay {st : LS} {n : Nat} (h : st.ok n) {i : Nat} {t : List UInt8} (hi : i + t.length ≤ n) : (st.lay i t).ok n := by
  refine ⟨?_, ?_, sumT_lt h.wh _ _⟩
  · show (layM st.M i t).length = n
    rw [layM_len (by rw [h.n]; exact hi), h.n]
  · show (if i < 20 then _ else _) < 65536
    split
    · exact sumT_lt h.hd _ _
    · exact h.hd
def w16 (L : List UInt8) (i : Nat) : Nat := (L.getD i 0).toNat * 256 + (L.getD (i + 1) 0).toNat
theorem w16_lt (L : List UInt8) (i : Nat) : w16 L i < 65536 := by
  unfold w16
  have := (L.getD i 0).toNat_lt
  have := (L.getD (i + 1) 0).toNat_lt
  omega
def adr (s : Sg) : List UInt8 := be4 s.s0 ++ be4 s.s2
def nums (s : Sg) : List UInt8 := be2 s.s1 ++ be2 s.s3 ++ be4 s.s4 ++ be4 s.s5
def rew0 (L : List UInt8) : LS := ⟨L, w16 L 10, w16 L 36⟩
def rew1 (L : List UInt8) (s : Sg) : LS := (((rew0 L).lay 12 (adr s)).lay 20 (nums s)).lay 34 (be2 s.s7)
def rewS (L : List UInt8) (x : Sh) : LS := (rew1 L (turnS (sgL L) x)).lay 40 (turnR x.x5 x.x6 x.x7 (oB L)).1
def rewL (L : List UInt8) (x : Sh) : List UInt8 := layM (layM (rewS L x).M 10 (be2 (rewS L x).hd)) 36 (be2 (rewS L x).wh)
/-- what Rewrite answers -/
def rewR (L : List UInt8) (x : Sh) : ByteArray × Int := if pdecE L = 0 then (⟨(rewL L x).toArray⟩, 0) else (⟨#[]⟩, pdecE L)
theorem rew0_ok (L : List UInt8) : (rew0 L).ok L.length := ⟨rfl, w16_lt _ _, w16_lt _ _⟩
end Go.Proofs.Ytengegcnocdkoaa
end
section
set_option maxRecDepth 20000
namespace Go.Proofs.Ytengegcnocdkoaa
open Go.RowKit
theorem blocksF_le : ∀ (f : Nat) (B : List UInt8), (blocksF f B).length ≤ f
  | 0, _ => Nat.le_refl _
  | f + 1, B => by
    unfold blocksF
    split
    · simp
    · have := blocksF_le f (B.drop 8)
      simp only [List.length_cons]
      omega
theorem blocksF_wf : ∀ (f : Nat) (B : List UInt8), ∀ p ∈ blocksF f B, (0 ≤ p.1 ∧ p.1 ≤ 4294967295) ∧ 0 ≤ p.2 ∧ p.2 ≤ 4294967295
  | 0, _ => fun p hp => by cases hp
  | f + 1, B => by
    intro p hp
    unfold blocksF at hp
    split at hp
    · cases hp
    · rcases List.mem_cons.1 hp with rfl | hp
      · have h1 := numL_lt32 (B.take 4)
        have h2 := numL_lt32 ((B.drop 4).take 4)
        refine ⟨⟨?_, ?_⟩, ?_, ?_⟩ <;> dsimp only <;> omega
      · exact blocksF_wf f _ p hp
/-- what holds while options are read -/
structure RdI (st : Op × List Nat) : Prop where
  wf : st.1.wf
  bl : 5 ∉ st.2 → st.1.bl = []
  len : st.1.bl.length ≤ 32
theorem long5_le {n : Nat} (h : longB 5 (n + 2) = true) : n ≤ 32 := by rcases long5 h with h | h | h | h <;> omega
theorem wf_scale {n : Int} (h0 : 0 ≤ n) (h1 : n ≤ 14) : (Lit.int .i64 n).wf = true := by
  simp [Lit.wf, IntKind.min, IntKind.max, IntKind.signed, IntKind.bits]
  omega
theorem RdI.step {st st' : Op × List Nat} {x : It} (h : RdI st) (hx : ∀ B, x.2 = some B → longB x.1 (B.length + 2) = true) (hs : stepI st x = some st') : RdI st' := by
  obtain ⟨o, met⟩ := st
  obtain ⟨k, B⟩ := x
  obtain ⟨⟨w1, w2, w3, w4, w5⟩, hb, hl⟩ := h
  dsimp only at w1 w2 w3 w4 w5 hb hl hx
  unfold stepI at hs
  cases B with
  | none => cases hs
  | some B =>
    dsimp only at hs
    have hx := hx B rfl
    by_cases hm : k ∈ met
    · rw [if_pos hm] at hs; cases hs
    rw [if_neg hm] at hs
    have keep : ∀ q, (5 ∉ (if metB k = true then k :: met else met) → q) ↔ ((k ≠ 5 → 5 ∉ met → q)) := by
      intro q
      by_cases h5 : k = 5
      · subst h5
        have : metB 5 = true := rfl
        rw [if_pos this]
        simp
      · split
        · simp [h5, Ne.symm h5]
        · simp [h5]
    unfold takeI at hs
    by_cases k2 : k = 2
    · rw [if_pos k2] at hs
      by_cases h0 : numL B % 65536 = 0
      · rw [if_pos h0] at hs; cases hs
      · rw [if_neg h0] at hs
        simp only [Option.map_some, Option.some.injEq] at hs
        subst hs
        exact ⟨⟨Nat.mod_lt _ (by decide), w2, w3, w4, w5⟩, (keep _).2 fun _ => hb, hl⟩
    rw [if_neg k2] at hs
    by_cases k3 : k = 3
    · rw [if_pos k3] at hs
      simp only [Option.map_some, Option.some.injEq] at hs
      subst hs
      exact ⟨⟨w1, wf_scale (by dsimp only; omega) (by dsimp only; omega), w3, w4, w5⟩, (keep _).2 fun _ => hb, hl⟩
    rw [if_neg k3] at hs
    by_cases k4 : k = 4
    · rw [if_pos k4] at hs
      simp only [Option.map_some, Option.some.injEq] at hs
      subst hs
      exact ⟨⟨w1, w2, w3, w4, w5⟩, (keep _).2 fun _ => hb, hl⟩
    rw [if_neg k4] at hs
    by_cases k8 : k = 8
    · rw [if_pos k8] at hs
      simp only [Option.map_some, Option.some.injEq] at hs
      subst hs
      exact ⟨⟨w1, w2, numL_lt32 _, numL_lt32 _, w5⟩, (keep _).2 fun _ => hb, hl⟩
    rw [if_neg k8] at hs
    by_cases k5 : k = 5
    · rw [if_pos k5] at hs
      simp only [Option.map_some, Option.some.injEq] at hs
      subst k5
      subst hs
      have hb0 := hb hm
      rw [hb0] at w5 ⊢
      refine ⟨⟨w1, w2, w3, w4, ?_⟩, (keep _).2 fun h => absurd rfl h, ?_⟩
      · intro p hp
        exact blocksF_wf _ _ p (by simpa using hp)
      · have := blocksF_le B.length B
        have := long5_le hx
        show ([] ++ blocksF B.length B).length ≤ 32
        simp
        omega
    · rw [if_neg k5] at hs
      simp only [Option.map_some, Option.some.injEq] at hs
      subst hs
      exact ⟨⟨w1, w2, w3, w4, w5⟩, (keep _).2 fun _ => hb, hl⟩
theorem RdI.fold : ∀ (l : List It) (st st' : Op × List Nat), RdI st → (∀ x ∈ l, ∀ B, x.2 = some B → longB x.1 (B.length + 2) = true) → foldI l st = some st' → RdI st'
  | [], st, st', h, _, e => by cases e; exact h
  | x :: l, st, st', h, hx, e => by
    rw [foldI_cons] at e
    cases hs : stepI st x with
    | none => rw [hs] at e; cases e
    | some s2 =>
      rw [hs] at e
      exact RdI.fold l s2 st' (h.step (hx x List.mem_cons_self) hs) (fun y hy => hx y (List.mem_cons_of_mem _ hy)) e
theorem decR_wf (L : List UInt8) : (decR L).1.wf ∧ (decR L).1.bl.length ≤ 32 := by
  unfold decR
  split
  · exact ⟨⟨by decide, by decide, by decide, by decide, fun p hp => by cases hp⟩, by decide⟩
  · split
    · exact ⟨⟨by decide, by decide, by decide, by decide, fun p hp => by cases hp⟩, by decide⟩
    · rename_i o ho
      rw [decL_I] at ho
      cases hf : foldI (scan L) (noneO, []) with
      | none => rw [hf] at ho; cases ho
      | some st =>
        rw [hf] at ho
        cases ho
        have := RdI.fold (scan L) _ _ ⟨⟨by decide, by decide, by decide, by decide, fun p hp => by cases hp⟩, fun _ => rfl, by decide⟩ (scanF_ok _ _) hf
        exact ⟨this.wf, this.len⟩
theorem sgL_wf (L : List UInt8) : (sgL L).wf :=
  ⟨hI_src L, Nat.mod_lt _ (by decide), hI_dst L, Nat.mod_lt _ (by decide), numL_lt32 _, numL_lt32 _, UInt8.toNat_lt _, Nat.mod_lt _ (by decide), (decR_wf _).1⟩
theorem zeroSg_wf : zeroSg.wf := ⟨by decide, by decide, by decide, by decide, by decide, by decide, by decide, by decide, ⟨by decide, by decide, by decide, by decide, fun p hp => by cases hp⟩⟩
theorem pdecR_wf (L : List UInt8) : (pdecR L).1.wf ∧ (pdecR L).1.o.bl.length ≤ 32 := by
  unfold pdecR
  split
  · exact ⟨sgL_wf L, (decR_wf _).2⟩
  · exact ⟨zeroSg_wf, by show 0 ≤ 32; omega⟩
end Go.Proofs.Ytengegcnocdkoaa
end
