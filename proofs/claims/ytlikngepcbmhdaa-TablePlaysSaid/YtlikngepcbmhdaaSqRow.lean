/- A row of uint64's: what it holds, as an array of numbers; cmp.Less; slices.insertionSortOrdered. -/
import Derived.Test.YtlikngepcbmhdaaFlowA
import Derived.Sort.WalkA
import Derived.Sort.AssemblyPlain
import Derived.CellFam
set_option linter.unusedVariables false
set_option linter.unusedSimpArgs false
namespace Go.Proofs.Ytlikngepcbmhdaa.S64
open Go.RowKit Go.BigFrame

/-- block g holds the numbers d -/
def RowK (W : World) (g off : Nat) (d : Array Int) : Prop := ∃ cs : Array Value, W.heap[g]? = some (.cells cs 26 (0, 0)) ∧ off + d.size ≤ cs.size ∧ ∀ j, j < d.size → cs[off + j]? = some (.int .u64 d[j]!)
section
variable {W W' : World} {g off : Nat} {d : Array Int}
theorem RowK.lt (h : RowK W g off d) : g < W.heap.size := by obtain ⟨cs, h1, _⟩ := h; exact (Array.getElem?_eq_some_iff.1 h1).1
theorem RowK.of_eq (h : RowK W g off d) (he : W'.heap[g]? = W.heap[g]?) : RowK W' g off d := by obtain ⟨cs, h1, h2⟩ := h; exact ⟨cs, he.trans h1, h2⟩
theorem RowK.below (h : RowK W g off d) (hb : Below W.heap.size W W') : RowK W' g off d := h.of_eq (hb.block g h.lt)
theorem RowK.grown {row : Option Nat} (h : RowK W g off d) (hb : W.grownBy W' row) (hg : some g ≠ row) : RowK W' g off d := h.of_eq (hb.block g h.lt hg)
theorem RowK.drewN (h : RowK W g off d) (n : Nat) : RowK (W.drewN n) g off d := h
theorem RowK.cell (h : RowK W g off d) {j : Nat} (hj : j < d.size) : W.cell? ⟨g, off + j, none⟩ = some (.int .u64 d[j]!) := by
  obtain ⟨cs, h1, h2, h3⟩ := h
  rw [cell_of_row W g (off + j) cs _ _ h1]
  exact h3 j hj
theorem RowK.frozen (h : RowK W g off d) (j : Nat) : W.frozen? ⟨g, j, none⟩ = false := by
  obtain ⟨cs, h1, _⟩ := h
  simp [World.frozen?, h1]
theorem RowK.put (h : RowK W g off d) {i : Nat} (hi : i < d.size) (x : Int) : RowK (W.setCell ⟨g, off + i, none⟩ (.int .u64 x)) g off (d.setIfInBounds i x) := by
  obtain ⟨cs, h1, h2, h3⟩ := h
  refine ⟨cs.setIfInBounds (off + i) (.int .u64 x), by simp [World.setCell, Array.getElem?_modify, h1], by simpa using h2, fun j hj => ?_⟩
  rw [Array.size_setIfInBounds] at hj
  rw [Array.getElem?_setIfInBounds]
  by_cases e : i = j
  · subst e
    rw [if_pos rfl, if_pos (by omega), Sort.getElem!_set_same d i x hi]
  · rw [if_neg (by omega), Sort.getElem!_set_other d i j x (Ne.symm e)]
    exact h3 j hj
/-- two elements change places -/
theorem RowK.swap (h : RowK W g off d) {i j : Nat} (hi : i < d.size) (hj : j < d.size) : RowK ((W.setCell ⟨g, off + i, none⟩ (.int .u64 d[j]!)).setCell ⟨g, off + j, none⟩ (.int .u64 d[i]!)) g off (Sort.swp d i j) :=
  (h.put hi _).put (by simpa using hj) _
theorem grown_swap {w : World} (h : w.grownBy W (some g)) (i j : Nat) (x y : Value) : w.grownBy ((W.setCell ⟨g, i, none⟩ x).setCell ⟨g, j, none⟩ y) (some g) := only_set (only_set h i x) j y
end
/-- between two steps: the row holds dk; nothing else that stood has turned -/
def At (w wr : World) (g off n : Nat) (dk : Array Int) : Prop := dk.size = n ∧ RowK wr g off dk ∧ w.grownBy wr (some g)
section
variable {w wr : World} {g off n : Nat} {dk : Array Int}
theorem At.refl (h : RowK w g off dk) (hn : dk.size = n) : At w w g off n dk := ⟨hn, h, World.grownBy.refl _ _⟩
theorem At.drewN (h : At w wr g off n dk) (q : Nat) : At w (wr.drewN q) g off n dk := ⟨h.1, h.2.1, only_drewN h.2.2 q⟩
theorem At.drew (h : At w wr g off n dk) : At w wr.drew g off n dk := h.drewN 1
theorem At.cell (h : At w wr g off n dk) (G : Nat → Int) (hG : ∀ t, G t = dk[t]!) : ∀ t, t < n → wr.cell? ⟨g, off + t, none⟩ = some (.int .u64 (G t)) := fun t ht => by
  rw [hG]; exact h.2.1.cell (by rw [h.1]; exact ht)
theorem At.frozen (h : At w wr g off n dk) : ∀ t, t < n → wr.frozen? ⟨g, off + t, none⟩ = false := fun t _ => h.2.1.frozen _
theorem At.swap (h : At w wr g off n dk) {i j : Nat} (hi : i < n) (hj : j < n) : At w ((wr.setCell ⟨g, off + i, none⟩ (.int .u64 dk[j]!)).setCell ⟨g, off + j, none⟩ (.int .u64 dk[i]!)) g off n (Sort.swp dk i j) :=
  ⟨by rw [Sort.size_swp]; exact h.1, h.2.1.swap (by rw [h.1]; exact hi) (by rw [h.1]; exact hj), grown_swap h.2.2 _ _ _ _⟩
theorem At.trans {wr' : World} {dk' : Array Int} (h : At w wr g off n dk) (h' : RowK wr' g off dk' ∧ wr.grownBy wr' (some g)) (hs : dk'.size = n) : At w wr' g off n dk' :=
  ⟨hs, h'.1, h'.2.os.trans h.2.2.os, h'.2.tape.trans h.2.2.tape, h'.2.output.trans h.2.2.output, Nat.le_trans h.2.2.size h'.2.size, fun i hi hn => (h'.2.block i (Nat.lt_of_lt_of_le hi h.2.2.size) hn).trans (h.2.2.block i hi hn)⟩
theorem At.end_ {D : Array Int} (h : At w wr g off n dk) (hD : dk = D) : RowK wr g off D ∧ w.grownBy wr (some g) := by subst hD; exact ⟨h.2.1, h.2.2⟩
end
set_option maxHeartbeats 1000000 in
theorem less_any (x y : Int) (w : World) : Calls Try.prog 47 #[.int .u64 x, .int .u64 y] w fun e w' => e = .returned (.bool (Sort.ltInt x y)) ∧ w' = w := by
  go_enter Try.func47, Try.ntmps47
  go_wp2
  go_ret
  exact ⟨rfl, rfl⟩
theorem size_ins (lt : Int → Int → Bool) (a b : Nat) (d : Array Int) : (Sort.insertionSort lt d a b).size = d.size := by
  have inner : ∀ (j : Nat) (d : Array Int), (Sort.insInner lt a j d).size = d.size := by
    intro j
    induction j with
    | zero => intro d; rw [Sort.insInner]
    | succ j ih =>
      intro d
      rw [Sort.insInner]
      split
      · rw [ih, Sort.size_swp]
      · rfl
  have outer : ∀ (k i : Nat) (d : Array Int), b - i ≤ k → (Sort.insOuter lt a b i d).size = d.size := by
    intro k
    induction k with
    | zero => intro i d h; rw [Sort.insOuter, if_neg (by omega)]
    | succ k ih =>
      intro i d h
      rw [Sort.insOuter]
      split
      · rw [ih _ _ (by omega), inner]
      · rfl
  exact outer _ _ _ (Nat.le_refl _)
set_option maxHeartbeats 4000000 in
theorem ins_any (g off cap a b : Nat) (d : Array Int) (w : World) (hr : RowK w g off d) (hab : a ≤ b) (hb : b ≤ d.size) (hsz : d.size ≤ 1000000) :
    Calls Try.prog 41 #[.slice (some ⟨g, off, none⟩) d.size cap, .int .i64 a, .int .i64 b] w fun e w' => e = .returned (.tuple #[]) ∧ RowK w' g off (Sort.insertionSort Sort.ltInt d a b) ∧ w.grownBy w' (some g) := by
  obtain ⟨n, hn⟩ : ∃ n, n = d.size := ⟨_, rfl⟩
  rw [← hn] at hb hsz ⊢
  have hg0 : w.grownBy w (some g) := World.grownBy.refl _ _
  have hd0 : Sort.insOuter Sort.ltInt a b (a + 1) d = Sort.insertionSort Sort.ltInt d a b := rfl
  rw [← hd0]
  obtain ⟨D, hD⟩ : ∃ D, D = Sort.insOuter Sort.ltInt a b (a + 1) d := ⟨_, rfl⟩
  rw [← hD]
  have l1 : (n : Int) ≤ 1000000 := by omega
  have l2 : (b : Int) ≤ (n : Int) := by omega
  have l3 : (a : Int) ≤ (b : Int) := by omega
  have Hr := Lib.hid hr
  clear hr
  have Hg0 := Lib.hid hg0
  clear hg0
  have HD := Lib.hid hD
  clear hD
  have Hn := Lib.hid hn
  clear hn
  clear hd0
  go_enter Try.func41, Try.ntmps41
  go_wp2
  go_loopw [6] (fun vi wr => ∃ (i : Nat) (dk : Array Int), vi = .int .i64 i ∧ a < i ∧ i ≤ b + 1 ∧ Hid (dk.size = n ∧ RowK wr g off dk ∧ w.grownBy wr (some g) ∧ Sort.insOuter Sort.ltInt a b i dk = D)) (fun vi _ => b + 1 - (intOf vi).toNat)
  case atStart => exact ⟨a + 1, d, by go_num, by omega, by omega, Lib.hid ⟨Hn.out.symm, Hr.out, Hg0.out, HD.out.symm⟩⟩
  case round =>
    obtain ⟨i, dk, rfl, hai, hib, HI⟩ := hrel
    by_cases hlt : i < b
    · have hlt' : (i : Int) < (b : Int) := by omega
      go_wp2
      go_loopw [7] (fun vj wr2 => ∃ (j : Nat) (dj : Array Int), vj = .int .i64 j ∧ a ≤ j ∧ j ≤ i ∧ Hid (dj.size = n ∧ RowK wr2 g off dj ∧ w.grownBy wr2 (some g) ∧ Sort.insInner Sort.ltInt a j dj = Sort.insInner Sort.ltInt a i dk)) (fun vj _ => (intOf vj).toNat)
      case atStart => exact ⟨i, dk, rfl, by omega, Nat.le_refl _, Lib.hid ⟨HI.out.1, HI.out.2.1, HI.out.2.2.1, rfl⟩⟩
      case round =>
        obtain ⟨j, dj, rfl, haj, hji, HJ⟩ := hrel
        obtain ⟨G, hG⟩ : ∃ G : Nat → Int, ∀ t, G t = dj[t]! := ⟨fun t => dj[t]!, fun _ => rfl⟩
        have hcw : ∀ t, t < n → wr.cell? ⟨g, off + t, none⟩ = some (.int .u64 (G t)) := fun t ht => by
          rw [hG]; exact HJ.out.2.1.cell (by rw [HJ.out.1]; exact ht)
        have hfw : ∀ t, t < n → wr.frozen? ⟨g, off + t, none⟩ = false := fun t ht => HJ.out.2.1.frozen _
        have out : (j ≤ a ∨ Sort.ltInt dj[j]! dj[j - 1]! = false) → ∀ q, ∃ (i' : Nat) (dk' : Array Int), Value.int .i64 ((i : Int) + 1) = .int .i64 i' ∧ a < i' ∧ i' ≤ b + 1 ∧ Hid (dk'.size = n ∧ RowK (wr.drewN q) g off dk' ∧ w.grownBy (wr.drewN q) (some g) ∧ Sort.insOuter Sort.ltInt a b i' dk' = D) := fun hs q =>
          ⟨i + 1, dj, by go_num, by omega, by omega, Lib.hid ⟨HJ.out.1, HJ.out.2.1, only_drewN HJ.out.2.2.1 q, by rw [← HI.out.2.2.2, insOuter_go _ _ _ _ _ hlt, ← HJ.out.2.2.2, insInner_stop _ _ _ _ hs]⟩⟩
        have Out := Lib.hid out
        clear out
        have HG := Lib.hid hG
        clear hG
        go_wp2
        by_cases hja : a < j
        · go_quiet (first | (go_at_call 47; refine Calls.quiet_of_same (less_any _ _ _)))
          go_wp2
          · have hl : Sort.ltInt (G j) (G (j - 1)) = true := by assumption
            go_region
            all_goals go_wp2
            go_roundw
            case rel =>
              refine ⟨j - 1, Sort.swp dj j (j - 1), by congr 1; omega, by omega, by omega, Lib.hid ⟨by rw [Sort.size_swp]; exact HJ.out.1, ?_, ?_, ?_⟩⟩
              · rw [HG.out, HG.out]
                exact RowK.swap (HJ.out.2.1.drewN _) (by rw [HJ.out.1]; omega) (by rw [HJ.out.1]; omega)
              · exact grown_swap (only_drewN HJ.out.2.2.1 _) _ _ _ _
              · rw [← HJ.out.2.2.2, insInner_go Sort.ltInt a j dj hja (by rw [← HG.out, ← HG.out]; exact hl)]
            case measure => simp [intOf]; omega
          · have hl : Sort.ltInt (G j) (G (j - 1)) = false := by assumption
            go_roundw
            case rel => exact Out.out (Or.inr (by rw [← HG.out, ← HG.out]; exact hl)) nq
            case measure => simp [intOf]; omega
        · go_quiet (first | (go_at_call 47; refine Calls.quiet_of_same (less_any _ _ _)))
          go_wp2
          go_roundw
          case rel => exact Out.out (Or.inl (by omega)) nq
          case measure => simp [intOf]; omega
    · have hlt' : ¬ (i : Int) < (b : Int) := by omega
      go_wp2
      go_end0
      exact ⟨rfl, by rw [← HI.out.2.2.2, insOuter_stop _ _ _ _ _ hlt]; exact HI.out.2.1, HI.out.2.2.1⟩
end Go.Proofs.Ytlikngepcbmhdaa.S64
