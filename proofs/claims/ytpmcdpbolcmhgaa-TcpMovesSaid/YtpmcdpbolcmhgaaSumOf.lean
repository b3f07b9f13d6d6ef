/- Contracts of layer 3 (sum), third part: Of, Right. -/
import Derived.Test.YtpmcdpbolcmhgaaSum2
set_option linter.unusedVariables false
set_option linter.unusedSimpArgs false
namespace Go.Proofs.Ytpmcdpbolcmhgaa
open Go.RowKit Go.Shelf
attribute [local go_sem] Oper.semAt_some

/-- the words of a round's list, summed -/
def foldW (l : List W16) : Nat := (l.map (·.1)).foldl ones2 0
theorem foldW_le (l : List W16) : foldW l ≤ 65535 := foldOnes_le (by intro y hy; obtain ⟨z, _, rfl⟩ := List.mem_map.1 hy; exact z.2)
theorem foldW_snoc (l : List W16) (x : W16) : foldW (l ++ [x]) = ones2 (foldW l) x.1 := by simp only [foldW, List.map_append, List.map_cons, List.map_nil, List.foldl_append, List.foldl_cons, List.foldl_nil]
theorem ones_two {a b : Nat} (ha : a < 65536) : [a, b].foldl ones2 0 = ones2 a b := by
  have h0 : ones2 0 a = a := by unfold ones2; omega
  simp only [List.foldl_cons, List.foldl_nil, h0]

set_option maxRecDepth 100000 in
set_option maxHeartbeats 2000000 in
theorem of_in (A : Option Addr) (len cap : Nat) (ss : List ByteArray) (hl : ss.length = len) (hm : len ≤ 9223372036854775807) (hz : ∀ s ∈ ss, s.size ≤ maxLen)
    (w : World) (hI : Reads w w.heap.size 1 A len (ss.map Value.string)) :
    CallsIn Fence.wide 3 Try.prog 27 #[.slice A len cap] w fun e w' => e = .returned (.int .u16 ((ofL (catS ss) : Nat) : Int)) ∧ Below w.heap.size w w' := by
  refine callsIn_of_wp_marks Try.func27 rfl trivial ?_ rfl
  simp only [Try.ntmps27, List.size_toArray, List.length_cons, List.length_nil, Nat.reduceAdd, Nat.reduceSub, Array.replicate_succ, Array.replicate_zero, List.push_toArray, List.append_toArray, List.nil_append, List.cons_append]
  gi_wp2_with (refine ⟨trivial, ?_⟩; gi_at_call 45; refine (words_in _ _ _ _).mono ?_; rintro e w' ⟨rfl, rfl⟩)
  have bX := Boxed.new w 23 (.int .u16 0)
  have bN := Boxed.new (w.alloc (.cells #[.int .u16 0] 23)) 87 (.slice A len cap)
  rw [World.size_alloc] at bN
  have hB0 : Below w.heap.size w ((w.alloc (.cells #[.int .u16 0] 23)).alloc (.cells #[.slice A len cap] 87)) := ((Below.refl _ w).alloc (Nat.le_refl _) _).alloc (by simp) _
  refine wpIn_rangeFunc_ownG rfl (by omega) (gf := 57) (lb := #[.pointer (some ⟨w.heap.size + 1, 0, none⟩)]) rfl trivial (enters_of Try.func57 (by kernel_rfl) rfl)
    (words_stops w.heap.size (w.heap.size + 1) A len cap ss hl hm hz _ (by simp; omega) (by simp) bN.cell ((Stable.of_low (Nat.le_refl _) hI).later (KeepsBytes.of_below (Nat.le_refl _) hB0))) KeepsBytes.trans (KeepsBytes.putObj (by simp; omega)) (Below.refl _ _) (fun _ => rfl)
    (fun pre W => Boxed W w.heap.size 23 (.int .u16 ((foldW pre : Nat) : Int)) ∧ Below w.heap.size w W)
    (fun _ _ _ => False)
    (OwnFrom.and (Own.from (boxed_own _ _ fun pre : List W16 => .int .u16 ((foldW pre : Nat) : Int)) _) (ownFrom_below (Nat.le_refl _) (by simp; omega)))
    (fun _ _ _ _ _ hs _ _ => hs)
    ⟨bX.alloc _, hB0⟩
    (fun x => { tmps := #[.slice A len cap, undef, .int .u16 0, .pointer (some ⟨w.heap.size, 0, none⟩), .int .u16 (x.1 : Int), .slice A len cap, .func (.func 57) #[] #[.pointer (some ⟨w.heap.size + 1, 0, none⟩)], .int .u16 (x.1 : Int), undef, undef, undef, undef, undef, undef], defers := [] }) ?assign ?body ?done ?stop
  case assign =>
    intro l x W K hK
    gi_wp2
    exact hK
  case body =>
    rintro l pre x W ⟨hb, hB⟩ _
    have hq := foldW_le pre
    have hn := foldW_snoc pre x
    obtain ⟨xv, hxv⟩ := x
    dsimp only at hn ⊢
    generalize foldW pre = q at *
    have HN := Lib.hid hn
    have hx : ∀ y ∈ [q, xv], y < 65536 := by simp; omega
    have hblk := Blk.new W 23 #[.int .u16 (q : Int), .int .u16 (xv : Int)]
    have A := ones_any (some ⟨W.heap.size, 0, none⟩) 2 2 [q, xv] (W.alloc (.cells #[.int .u16 (q : Int), .int .u16 (xv : Int)] 23)) rfl (by omega) hx (Reads.of_blk hblk (by simp) _ rfl 2 rfl)
    rw [ones_two (by omega), ← hn] at A
    clear hx hblk hn
    have HA := Lib.hid A
    clear A
    have hc := hb.cell
    have hf := hb.frozen
    have hc1 := (hb.alloc (.cells #[.int .u16 (q : Int), .int .u16 (xv : Int)] 23)).cell
    have hf1 := (hb.alloc (.cells #[.int .u16 (q : Int), .int .u16 (xv : Int)] 23)).frozen
    gi_wp2_with (refine ⟨trivial, ?_⟩; gi_at_call 46; refine (CallsIn.inRound l (callsIn_wide.2 HA.out)).mono ?_; rintro e w' ⟨rfl, rfl⟩)
    have hg : W.grownBy ((W.alloc (.cells #[.int .u16 (q : Int), .int .u16 (xv : Int)] 23)).setCell ⟨w.heap.size, 0, none⟩ (.int .u16 ((foldW (pre ++ [⟨xv, hxv⟩]) : Nat) : Int))) (some w.heap.size) :=
      only_set (only_alloc (World.grownBy.refl W _) _) 0 _
    have hbl : Below w.heap.size W ((W.alloc (.cells #[.int .u16 (q : Int), .int .u16 (xv : Int)] 23)).setCell ⟨w.heap.size, 0, none⟩ (.int .u16 ((foldW (pre ++ [⟨xv, hxv⟩]) : Nat) : Int))) :=
      ((Below.refl _ W).alloc hB.size _).setCell (p := ⟨w.heap.size, 0, none⟩) (Nat.le_refl _) _
    exact ⟨((KeepsOthers.alloc _ _).trans (KeepsOthers.setCell _ _ _)).from _, KeepsBytes.of_grown hbl hg (by
      intro g e cs t d ht hcs
      cases e
      rw [show W.heap[w.heap.size]? = _ from hb] at hcs
      rcases ht with rfl | rfl <;> cases hcs), (hb.alloc _).set _, hB.trans hbl⟩
  case done =>
    rintro D xs W hD hS ⟨hb, hB⟩ hK
    have hq := foldW_le xs
    have hv : ofL (catS ss) = 65535 - foldW xs := by unfold ofL foldW; rw [hS, fold_ones0 _ (wordsL_lt _)]
    have HV := Lib.hid hv
    clear hv hS
    generalize foldW xs = q at *
    have hc := hb.cell
    gi_wp2_with fail
    rw [compl16 (by omega)]
    gi_wp2
    refine ⟨by simp, .inl ⟨_, _, rfl, run_takeDeferred hK, ?_⟩⟩
    refine ⟨_, results_tmp rfl _ _ _, ?_, ?_⟩
    · exact ret_nat HV.out.symm
    · exact hB.trans (belowK_b (w := w) (Nat.le_refl _) W D _ _ (by simp at hD; omega) hK rfl rfl)
  case stop =>
    rintro D c pre W _ _ h _
    exact h.elim

theorem of_any (A : Option Addr) (len cap : Nat) (ss : List ByteArray) (hl : ss.length = len) (hm : len ≤ 9223372036854775807) (hz : ∀ s ∈ ss, s.size ≤ maxLen)
    (w : World) (hI : Reads w w.heap.size 1 A len (ss.map Value.string)) :
    Calls Try.prog 27 #[.slice A len cap] w fun e w' => e = .returned (.int .u16 ((ofL (catS ss) : Nat) : Int)) ∧ Below w.heap.size w w' :=
  callsIn_wide.1 (of_in A len cap ss hl hm hz w hI)
theorem right_any (A : Option Addr) (len cap : Nat) (ss : List ByteArray) (hl : ss.length = len) (hm : len ≤ 9223372036854775807) (hz : ∀ s ∈ ss, s.size ≤ maxLen)
    (w : World) (hI : Reads w w.heap.size 1 A len (ss.map Value.string)) :
    Calls Try.prog 31 #[.slice A len cap] w fun e w' => e = .returned (.bool ((ofL (catS ss) : Int) == 0)) ∧ Below w.heap.size w w' := by
  have h := of_any A len cap ss hl hm hz w hI
  have hq := ofL_le (catS ss)
  generalize ofL (catS ss) = q at *
  have H := Lib.hid h
  clear h
  go_enter Try.func31, Try.ntmps31
  go_wp2_with fail
  (with_reducible refine (H.out).mono ?_)
  rintro e w2 ⟨rfl, hb⟩
  go_wp2
  go_ret
  exact ⟨rfl, hb⟩
end Go.Proofs.Ytpmcdpbolcmhgaa
