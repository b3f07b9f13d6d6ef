/- Contracts of layer 3 (sum), first part: ones; words and its iterator. -/
import Derived.Test.YtpmcdpbolcmhgaaWords
import Derived.Test.YtpmcdpbolcmhgaaSumPlain
import Derived.RangeFuncNested
import Derived.RangeFuncBound
import Derived.RangeFuncCalls
import Derived.RangeFuncLeaves
import Derived.RangeFuncBox
import Derived.Shelf.Abstract
import Derived.Shelf.RegionOpen
import Derived.OwnWalkIn
import Derived.TacticsInMore
import Derived.LoopNIn
import Derived.LoopIn
import Derived.Lib.ConvBytes
import Derived.Laws.BitsAllLaws
set_option linter.unusedVariables false
set_option linter.unusedSimpArgs false
namespace Go.Proofs.Ytpmcdpbolcmhgaa
open Go.RowKit Go.Shelf
attribute [local go_sem] Oper.semAt_some

theorem ones_any (A : Option Addr) (len cap : Nat) (xs : List Nat) (w : World) (hl : len = xs.length) (hm : len ≤ 9223372036854775807) (hx : ∀ x ∈ xs, x < 65536)
    (h : Reads w w.heap.size 1 A len (xs.map fun x : Nat => Value.int .u16 (x : Int))) :
    Calls Try.prog 46 #[.slice A len cap] w fun e w' => e = .returned (.int .u16 ((xs.foldl ones2 0 : Nat) : Int)) ∧ w = w' := by
  go_enter Try.func46, Try.ntmps46
  go_wp2
  go_loopw [8, 3] (fun i s wr => ∃ k : Nat, k ≤ len ∧ i = .int .i64 k ∧ s = .int .u32 (((xs.take k).foldl ones2 0 : Nat) : Int) ∧ w = wr) (fun i _ _ => len - (intOf i).toNat)
  case atStart => exact ⟨0, Nat.zero_le _, rfl, rfl, rfl⟩
  case round =>
    obtain ⟨k, hk, rfl, rfl, rfl⟩ := hrel
    by_cases h1 : k < len
    · obtain ⟨ad, u, rfl, hb, hu, hc⟩ := h.at_ h1
      have hkx : k < xs.length := by omega
      rw [List.getElem?_map, List.getElem?_eq_getElem hkx] at hu
      simp only [Option.map_some, Option.some.injEq] at hu
      subst hu
      have hxk := hx xs[k] (List.getElem_mem hkx)
      have e : xs.take (k + 1) = xs.take k ++ [xs[k]] := by rw [List.take_add_one, List.getElem?_eq_getElem hkx]; rfl
      have hn : (xs.take (k + 1)).foldl ones2 0 = ones2 ((xs.take k).foldl ones2 0) xs[k] := by rw [e, List.foldl_append]; rfl
      have hs : (xs.take k).foldl ones2 0 ≤ 65535 := by
        rw [fold_ones0 _ (fun y hy => hx y (List.mem_of_mem_take hy))]; exact nrm_le _
      generalize xs[k] = x at *
      generalize (xs.take k).foldl ones2 0 = s at *
      clear e
      have HN := Lib.hid hn
      clear hn
      have e1 : bits .and .u32 ((s : Int) + (x : Int)) 65535 = (((s + x) % 65536 : Nat) : Int) := by
        have := u32_and_nat (s + x) 65535 (by omega) (by decide)
        rw [nat_mask16] at this
        simpa using this
      go_wp2
      go_roundw
      case rel =>
        refine ⟨k + 1, by omega, by go_num, ?_, trivial⟩
        rw [HN.out]
        congr 1
      case measure => simp [intOf]; omega
    · obtain rfl : k = len := by omega
      have hs : (xs.take k).foldl ones2 0 ≤ 65535 := by
        rw [fold_ones0 _ (fun y hy => hx y (List.mem_of_mem_take hy))]; exact nrm_le _
      rw [show xs.take k = xs by rw [hl]; exact List.take_length] at hs ⊢
      obtain ⟨s, e⟩ : ∃ s, xs.foldl ones2 0 = s := ⟨_, rfl⟩
      rw [e] at hs ⊢
      have HE := Lib.hid e
      clear e
      go_wp2
      go_ret
      exact ⟨by rw [HE.out]; rfl, rfl⟩

/-- what a round keeps: what lay below n₀, and each row of bytes, or of strings -/
def KeepsBytes (n₀ : Nat) (A B : World) : Prop := Below n₀ A B ∧ ∀ (i : Nat) (cs : Array Value) (t : TypeId) (d : Nat × Nat), t = 5 ∨ t = 9 → A.heap[i]? = some (Obj.cells cs t d) → B.heap[i]? = some (Obj.cells cs t d)
theorem KeepsBytes.trans {n₀ : Nat} {A B C : World} (h : KeepsBytes n₀ A B) (k : KeepsBytes n₀ B C) : KeepsBytes n₀ A C := ⟨h.1.trans k.1, fun i cs t d ht e => k.2 i cs t d ht (h.2 i cs t d ht e)⟩
theorem KeepsBytes.refl (n₀ : Nat) (A : World) : KeepsBytes n₀ A A := ⟨Below.refl _ _, fun i cs t d ht e => e⟩
theorem KeepsBytes.putObj {n₀ : Nat} {w : World} (hn : n₀ ≤ w.heap.size) (W : World) (l : Nat) (o o' : Obj) (hl : w.heap.size ≤ l) (h : W.heap[l]? = some o) (hc : o.isCells = false) (hw : o.isWalk = false) : KeepsBytes n₀ W (W.putObj l o') :=
  ⟨belowK_b hn W l o o' hl h hc hw, fun i cs t d ht e => (World.putObj_heap_other (by rintro rfl; rw [h] at e; cases e; cases hc)).trans e⟩
theorem KeepsBytes.of_grown {n₀ : Nat} {A B : World} {row : Option Nat} (hb : Below n₀ A B) (hg : A.grownBy B row) (hr : ∀ (g : Nat), row = some g → ∀ cs t d, t = 5 ∨ t = 9 → A.heap[g]? ≠ some (Obj.cells cs t d)) : KeepsBytes n₀ A B :=
  ⟨hb, fun i cs t d ht e => (hg.block i (Array.getElem?_eq_some_iff.1 e).1 (fun h => hr i h.symm cs t d ht e)).trans e⟩
theorem KeepsBytes.of_below {n₀ : Nat} {A B : World} (hn : n₀ ≤ A.heap.size) (h : Below A.heap.size A B) : KeepsBytes n₀ A B :=
  ⟨h.mono hn, fun i cs t d ht e => (h.block i (Array.getElem?_eq_some_iff.1 e).1).trans e⟩
/-- strings that are read wherever rows of strings, and what lay below n₀, are kept -/
def Stable (n₀ : Nat) (w : World) (A : Option Addr) (len : Nat) (ss : List ByteArray) : Prop := ∀ wr, KeepsBytes n₀ w wr → Reads wr wr.heap.size 1 A len (ss.map Value.string)
theorem Stable.later {n₀ : Nat} {w w' : World} {A : Option Addr} {len : Nat} {ss : List ByteArray} (h : Stable n₀ w A len ss) (hk : KeepsBytes n₀ w w') : Stable n₀ w' A len ss := fun wr hw => h wr (hk.trans hw)
theorem Stable.of_low {n₀ : Nat} {w : World} {A : Option Addr} {len : Nat} {ss : List ByteArray} (hn : n₀ ≤ w.heap.size) (h : Reads w n₀ 1 A len (ss.map Value.string)) : Stable n₀ w A len ss :=
  fun wr hw => (h.below hw.1 : Reads wr n₀ 1 A len (ss.map Value.string)).more (by have := hw.1.size; omega)
theorem Stable.of_blk {n₀ : Nat} {w : World} {g : Nat} {ss : List ByteArray} (h : Blk w g 9 (ss.map Value.string).toArray) : Stable n₀ w (some ⟨g, 0, none⟩) ss.length ss :=
  fun wr hw => by
    have h' : Blk wr g 9 (ss.map Value.string).toArray := hw.2 _ _ _ _ (.inr rfl) h
    exact Reads.of_blk h' h'.lt _ (by simp) _ (by simp)

theorem run_bytes_blk (w : World) (s : ByteArray) : ∃ (W1 : World) (cap : Nat),
    (convert 9 38 (.string s)).run Try.prog w = .ok (.slice (some ⟨w.heap.size, 0, none⟩) s.size cap) W1 ∧ Below w.heap.size w W1 ∧ W1.heap.size = w.heap.size + 1 ∧
    ∃ cs d, W1.heap[w.heap.size]? = some (Obj.cells cs 5 d) ∧ ∀ j (h : j < s.size), cs[j]? = some (.int .u8 (s[j].toNat : Int)) := by
  refine ⟨_, _, Lib.run_convert_string_bytes (P := Try.prog) w 9 38 5 s Try.underlying9 Try.underlying38 Try.underlying5, ?_, Lib.bytesWorld_size .., _, _, Lib.bytesWorld_at_new .., ?_⟩
  · refine ⟨?_, ?_, ?_, by rw [Lib.bytesWorld_size]; omega, fun i hi => Lib.bytesWorld_at_old w 5 s i hi⟩
    all_goals unfold Lib.bytesWorld World.freeze; split <;> rfl
  · intro j h
    have hj : j < s.data.size := h
    have hj' : j < s.data.toList.length := by simpa using hj
    simp [Lib.bytesCells, Array.getElem?_append, h, hj]
    rfl

theorem or_word (h b : Nat) (h1 : h < 256) (h2 : b < 256) : bits .or .u16 ((h : Int) * 256) (b : Int) = ((h * 256 + b : Nat) : Int) := by
  have := u16_or_nat (h * 256) b (by omega) (by omega)
  have e : h * 256 ||| b = h * 256 + b := by
    have := Nat.shiftLeft_add_eq_or_of_lt (i := 8) h2 h
    rw [Nat.shiftLeft_eq] at this
    exact this.symm
  rw [e] at this
  simpa using this
theorem catS_lt {ss : List ByteArray} {k j : Nat} (hk : k < ss.length) (hj : j < ss[k].data.toList.length) :
    ((ss.take k).map (fun s => s.data.toList)).flatten.length + j < ((ss.map fun s => s.data.toList).flatten).length := by
  have e : ss = ss.take k ++ ss[k] :: ss.drop (k + 1) := by
    rw [← List.drop_eq_getElem_cons hk, List.take_append_drop]
  have e2 : ((ss.map fun s => s.data.toList).flatten).length = (((ss.take k ++ ss[k] :: ss.drop (k + 1)).map fun s => s.data.toList).flatten).length := by rw [← e]
  rw [e2]
  simp only [List.map_append, List.map_cons, List.flatten_append, List.flatten_cons, List.length_append]
  omega

abbrev W16 := { x : Nat // x < 65536 }
def catS (ss : List ByteArray) : List UInt8 := (ss.map fun s => s.data.toList).flatten

theorem catS_succ {ss : List ByteArray} {k : Nat} (hk : k < ss.length) : catS (ss.take (k + 1)) = catS (ss.take k) ++ ss[k].data.toList := by
  unfold catS
  rw [List.take_add_one, List.getElem?_eq_getElem hk]
  simp only [Option.toList_some, List.map_append, List.map_cons, List.map_nil, List.flatten_append, List.flatten_cons, List.flatten_nil, List.append_nil]

set_option maxHeartbeats 1000000 in
theorem words_in (A : Option Addr) (len cap : Nat) (w : World) :
    CallsIn Fence.wide 2 Try.prog 45 #[.slice A len cap] w fun e w' => e = .returned (.func (.func 57) #[] #[.pointer (some ⟨w.heap.size, 0, none⟩)]) ∧ w' = w.alloc (.cells #[.slice A len cap] 87) := by
  refine callsIn_of_wp Try.func45 rfl trivial ?_ rfl
  simp only [Try.ntmps45, List.size_toArray, List.length_cons, List.length_nil, Nat.reduceAdd, Nat.reduceSub, Array.replicate_succ, Array.replicate_zero, List.push_toArray, List.append_toArray, List.nil_append, List.cons_append]
  have hmf : ∀ (fn : Fn) (first cap : Array Value) (w : World), (Instr.makeFunc fn first cap).run Try.prog w = .ok (.func fn first cap) w := fun _ _ _ _ => rfl
  gi_wp2
  go_ret
  exact ⟨rfl, rfl⟩

set_option maxRecDepth 100000 in
set_option maxHeartbeats 4000000 in
theorem words1_in (n₀ Bs : Nat) (A : Option Addr) (len cap : Nat) (ss : List ByteArray) (hl : ss.length = len) (hm : len ≤ 9223372036854775807) (hz : ∀ s ∈ ss, s.size ≤ maxLen) (l : Nat) (J Jx : List W16 → World → Prop)
    (W : World) (hW : n₀ ≤ W.heap.size) (hJ : AbidesFrom W.heap.size J)
    (hY : ∀ pre x W1, J pre W1 → pre.length < (wordsL (catS ss)).length → YieldAt Fence.wide 1 Try.prog l #[.int .u16 (x.1 : Int)] W1 fun e W' =>
      (e = .returned (.bool true) ∧ J (pre ++ [x]) W' ∧ KeepsBytes n₀ W1 W') ∨ (e = .returned (.bool false) ∧ Jx (pre ++ [x]) W'))
    (hBs : W.cell? ⟨Bs, 0, none⟩ = some (.slice A len cap)) (hI : Stable n₀ W A len ss) (h0 : J [] W) :
    CallsIn Fence.wide 2 Try.prog 57 #[.func (.yield l) #[] #[], .pointer (some ⟨Bs, 0, none⟩)] W fun e W' => (∃ v, e = .returned v) ∧
      ((∃ ys : List W16, ys.map (·.1) = wordsL (catS ss) ∧ J ys W') ∨ (∃ pre, Jx pre W')) := by
  refine callsIn_of_wp Try.func57 rfl trivial ?_ rfl
  simp only [Try.ntmps57, List.size_toArray, List.length_cons, List.length_nil, Nat.reduceAdd, Nat.reduceSub, Array.replicate_succ, Array.replicate_zero, List.push_toArray, List.append_toArray, List.nil_append, List.cons_append]
  gi_wp2
  gi_loopw [11, 3, 4] (fun i h o wr => ∃ (k : Nat) (pre : List W16), k ≤ len ∧ i = .int .i64 k ∧ pre.map (·.1) = pairs (catS (ss.take k)) ∧ h = .int .u8 (((catS (ss.take k)).getLastD 0).toNat : Int) ∧ o = .bool (decide ((catS (ss.take k)).length % 2 = 1)) ∧ J pre wr ∧ KeepsBytes n₀ W wr)
    (fun i _ _ _ => len - (intOf i).toNat)
  case atStart => exact ⟨0, [], Nat.zero_le _, rfl, rfl, rfl, rfl, h0, KeepsBytes.refl _ _⟩
  case round =>
    obtain ⟨k, pre, hk, rfl, hp, rfl, rfl, hj, hb⟩ := hrel
    have hI' := hI wr hb
    by_cases h1 : k < len
    · obtain ⟨ad, u, rfl, hbl, hu, hc⟩ := hI'.at_ h1
      have hkx : k < ss.length := by omega
      rw [List.getElem?_map, List.getElem?_eq_getElem hkx] at hu
      simp only [Option.map_some, Option.some.injEq] at hu
      subst hu
      obtain ⟨W1, cap1, hr1, hb1, hs1, hc1⟩ := run_bytes_blk wr ss[k]
      obtain ⟨cs, dd, hblk, hcs⟩ := hc1
      have hj1 : J pre W1 := hJ _ _ _ none hj (only_of_below hb1 none) (by simp)
      have hB1 : KeepsBytes n₀ W W1 := hb.trans (KeepsBytes.of_below (by have := hb.1.size; omega) hb1)
      have hle : n₀ ≤ wr.heap.size := by have := hb.1.size; omega
      gi_wp2_with fail
      obtain ⟨gb, hgb⟩ : ∃ gb, gb = wr.heap.size := ⟨_, rfl⟩
      rw [← hgb] at hblk hle ⊢
      clear hr1 hb1 hs1 hc hb hI' hj
      have hsz : ss[k].size ≤ 9223372036854775807 := hz _ (List.getElem_mem hkx)
      obtain ⟨wo, hwo⟩ : ∃ wo : World, wo = wr := ⟨_, rfl⟩
      clear hgb hwo
      gi_loopw [18, 3, 4] (fun i h o wi => ∃ (j : Nat) (pre2 : List W16), j ≤ ss[k].size ∧ i = .int .i64 j ∧ pre2.map (·.1) = pairs (catS (ss.take k) ++ ss[k].data.toList.take j) ∧ h = .int .u8 (((catS (ss.take k) ++ ss[k].data.toList.take j).getLastD 0).toNat : Int) ∧ o = .bool (decide ((catS (ss.take k) ++ ss[k].data.toList.take j).length % 2 = 1)) ∧ J pre2 wi ∧ KeepsBytes n₀ W wi ∧ wi.heap[gb]? = some (Obj.cells cs 5 dd))
        (fun i _ _ _ => ss[k].size - (intOf i).toNat)
      case atStart => exact ⟨0, pre, Nat.zero_le _, rfl, by simpa using hp, by simp, by simp, hj1, hB1, hblk⟩
      case round =>
        obtain ⟨j, pre2, hjk, rfl, hp2, rfl, rfl, hj2, hB2, hblk2⟩ := hrel
        clear hblk hB1 hj1 hp
        by_cases h2 : j < ss[k].size
        · have hjl : j < ss[k].data.toList.length := by simpa using h2
          have hrd : wr.cell? ⟨gb, j, none⟩ = some (.int .u8 (ss[k][j].toNat : Int)) := by
            have := hcs j h2
            simp [World.cell?, hblk2, this]
          have htk : ss[k].data.toList.take (j + 1) = ss[k].data.toList.take j ++ [ss[k][j]] := by
            rw [List.take_add_one, List.getElem?_eq_getElem hjl]
            rfl
          have hcat : (catS (ss.take k) ++ ss[k].data.toList.take j).length < (catS ss).length := by have := catS_lt hkx hjl; unfold catS; rw [List.length_append, List.length_take]; omega
          generalize ss[k][j] = b at *
          have hcn : catS (ss.take k) ++ ss[k].data.toList.take (j + 1) = (catS (ss.take k) ++ ss[k].data.toList.take j) ++ [b] := by rw [htk, List.append_assoc]
          obtain ⟨c, hc⟩ : ∃ c, catS (ss.take k) ++ ss[k].data.toList.take j = c := ⟨_, rfl⟩
          rw [hc] at hp2 hcat hcn ⊢
          have hb8 := b.toNat_lt
          have HCN := Lib.hid hcn
          have HP := Lib.hid hp2
          have hpl := congrArg List.length hp2
          rw [List.length_map, pairs_length] at hpl
          clear hc htk hcn hcs hp2 hjl
          by_cases ho : c.length % 2 = 1
          · have hlw : pre2.length < (wordsL (catS ss)).length := by rw [wordsL_length]; omega
            have hh8 := (c.getLastD 0).toNat_lt
            have hps := pairs_snoc_odd ho b
            generalize (c.getLastD 0).toNat = h at *
            have hor := or_word h b.toNat hh8 hb8
            have hx16 : h * 256 + b.toNat < 65536 := by omega
            obtain ⟨fn, tmps, assign, body, hy, hR⟩ := hY pre2 ⟨h * 256 + b.toNat, hx16⟩ wr hj2 hlw
            dsimp only at hy
            have ho' : decide (c.length % 2 = 1) = true := by simpa using ho
            clear hcat hlw hpl
            have HPS := Lib.hid hps
            clear hps
            rw [show ((h * 256 + b.toNat : Nat) : Int) = (h : Int) * 256 + (b.toNat : Int) by push_cast; rfl] at hy
            gi_wp2
            refine hR.mono ?_
            rintro e W3 (⟨rfl, hJ3, hk3⟩ | ⟨rfl, hJx3⟩)
            · have hblk3 := hk3.2 _ _ _ _ (.inl rfl) hblk2
              have hB3 := hB2.trans hk3
              clear hy hR hY
              gi_wp2
              go_roundw
              case rel =>
                refine ⟨j + 1, _, by omega, by go_num, ?_, ?_, ?_, hJ3, hB3, hblk3⟩
                · rw [HCN.out, HPS.out, List.map_append, HP.out]; rfl
                · rw [HCN.out]; simp
                · rw [HCN.out]; simp; omega
              case measure => simp [intOf]; omega
            · clear hy hR hY
              gi_wp2
              refine bodyPost_ret (results_none rfl _ _ _) rfl ?_
              exact ⟨⟨_, rfl⟩, .inr ⟨_, hJx3⟩⟩
          · have hps := pairs_snoc_even ho b
            generalize (c.getLastD 0).toNat = h at *
            have ho' : decide (c.length % 2 = 1) = false := by simpa using ho
            clear hcat hpl
            have HPS := Lib.hid hps
            clear hps
            gi_wp2
            all_goals try refine ⟨fun _ h => (by cases h), ?_⟩
            all_goals gi_wp2
            go_roundw
            case rel =>
              refine ⟨j + 1, pre2, by omega, by go_num, ?_, ?_, ?_, hj2, hB2, hblk2⟩
              · rw [HCN.out, HPS.out]; exact HP.out
              · rw [HCN.out]; simp
              · rw [HCN.out]; simp; omega
            case measure => simp [intOf]; omega
        · obtain rfl : j = ss[k].size := by omega
          have hall : ss[k].data.toList.take ss[k].size = ss[k].data.toList := List.take_of_length_le (by simp)
          have hnx : catS (ss.take (k + 1)) = catS (ss.take k) ++ ss[k].data.toList := catS_succ hkx
          rw [hall, ← hnx] at hp2 ⊢
          have HN := Lib.hid hnx
          have HP := Lib.hid hp2
          clear hall hnx hp2 hY hcs
          gi_wp2
          go_roundw
          case rel => exact ⟨k + 1, pre2, by omega, by go_num, HP.out, rfl, rfl, hj2, hB2⟩
          case measure => simp [intOf]; omega
    · obtain rfl : k = len := by omega
      rw [show ss.take k = ss by rw [← hl]; exact List.take_length] at hp ⊢
      have hpl := congrArg List.length hp
      rw [List.length_map, pairs_length] at hpl
      obtain ⟨c, hc⟩ : ∃ c, catS ss = c := ⟨_, rfl⟩
      rw [hc] at hp hpl hY ⊢
      have HC := Lib.hid hc
      have HP := Lib.hid hp
      clear hc hp
      by_cases ho : c.length % 2 = 1
      · have hlw : pre.length < (wordsL c).length := by rw [wordsL_length]; omega
        have hh8 := (c.getLastD 0).toNat_lt
        have hps := wordsL_odd ho
        generalize (c.getLastD 0).toNat = h at *
        have hx16 : h * 256 < 65536 := by omega
        obtain ⟨fn, tmps, assign, body, hy, hR⟩ := hY pre ⟨h * 256, hx16⟩ wr hj hlw
        dsimp only at hy
        have ho' : decide (c.length % 2 = 1) = true := by simpa using ho
        clear hlw hpl
        have HPS := Lib.hid hps
        clear hps
        rw [show ((h * 256 : Nat) : Int) = (h : Int) * 256 by push_cast; rfl] at hy
        gi_wp2
        refine hR.mono ?_
        rintro e W3 (⟨rfl, hJ3, hk3⟩ | ⟨rfl, hJx3⟩)
        · clear hy hR hY
          gi_wp2
          go_end0
          refine ⟨⟨_, rfl⟩, .inl ⟨_, ?_, hJ3⟩⟩
          rw [HC.out, HPS.out, List.map_append, HP.out]
          rfl
        · clear hy hR hY
          gi_wp2
          go_end0
          exact ⟨⟨_, rfl⟩, .inr ⟨_, hJx3⟩⟩
      · have hps := wordsL_even ho
        have ho' : decide (c.length % 2 = 1) = false := by simpa using ho
        clear hpl
        have HPS := Lib.hid hps
        clear hps hY
        gi_wp2
        go_end0
        refine ⟨⟨_, rfl⟩, .inl ⟨_, ?_, hj⟩⟩
        rw [HC.out, HPS.out, HP.out]

/-- THE ITERATOR's CONTRACT -/
theorem words_stops (n₀ Bs : Nat) (A : Option Addr) (len cap : Nat) (ss : List ByteArray) (hl : ss.length = len) (hm : len ≤ 9223372036854775807) (hz : ∀ s ∈ ss, s.size ≤ maxLen)
    (w : World) (hw : n₀ ≤ w.heap.size) (hB : Bs < w.heap.size) (hBs : w.cell? ⟨Bs, 0, none⟩ = some (.slice A len cap)) (hI : Stable n₀ w A len ss) :
    SeqStopsK Fence.wide 2 Try.prog 57 #[.pointer (some ⟨Bs, 0, none⟩)] (fun x : W16 => #[Value.int .u16 (x.1 : Int)]) (KeepsBytes n₀) (fun ys => ys.map (·.1) = wordsL (catS ss)) (fun _ => True) (wordsL (catS ss)).length w :=
  fun l J Jx W hW hJ _ hY h0 => by
    refine (words1_in n₀ Bs A len cap ss hl hm hz l J Jx W (Nat.le_trans hw hW.size) hJ hY ((hW.cell (p := ⟨Bs, 0, none⟩) hB).trans hBs) (hI.later (KeepsBytes.of_below hw hW)) h0).mono ?_
    rintro e W' ⟨he, h | ⟨pre, hx⟩⟩
    · exact ⟨he, .inl h⟩
    · exact ⟨he, .inr ⟨pre, trivial, hx⟩⟩
end Go.Proofs.Ytpmcdpbolcmhgaa
