/- A row of bytes that was made out of a string ('b := []byte(s)'), and texts that are copied into it. -/
import Derived.Test.YtimepplfaaddeaaBe
set_option linter.unusedVariables false
set_option linter.unusedSimpArgs false
namespace Go.Proofs.Ytimepplfaaddeaa
open Go.RowKit

def RowB (w : World) (g : Nat) (M : List UInt8) : Prop := ∃ (cs : Array Value) (lo hi : Nat), w.heap[g]? = some (.cells cs 5 (lo, hi)) ∧ M.length ≤ lo ∧ M.length ≤ cs.size ∧ ∀ (j : Nat) (c : UInt8), M[j]? = some c → cs[j]? = some (u8v c)
theorem RowB.lt {w : World} {g : Nat} {M : List UInt8} (h : RowB w g M) : g < w.heap.size := by
  obtain ⟨cs, lo, hi, h, _⟩ := h
  exact (Array.getElem?_eq_some_iff.1 h).1
theorem RowB.kept {w w' : World} {g : Nat} {M : List UInt8} (h : RowB w g M) (e : w'.heap[g]? = w.heap[g]?) : RowB w' g M := by
  obtain ⟨cs, lo, hi, h1, r⟩ := h
  exact ⟨cs, lo, hi, e.trans h1, r⟩
theorem RowB.below {w w' : World} {g B : Nat} {M : List UInt8} (h : RowB w g M) (hb : Below B w w') (hg : g < B) : RowB w' g M := h.kept (hb.block g hg)
theorem RowB.grown {w w' : World} {g : Nat} {row : Option Nat} {M : List UInt8} (h : RowB w g M) (hb : w.grownBy w' row) (hg : some g ≠ row) : RowB w' g M := h.kept (hb.block g h.lt hg)
theorem RowB.cell {w : World} {g j : Nat} {M : List UInt8} (h : RowB w g M) {c : UInt8} (hj : M[j]? = some c) : w.cell? ⟨g, j, none⟩ = some (u8v c) := by
  obtain ⟨cs, lo, hi, h1, _, _, h2⟩ := h
  rw [cell_of_row w g j cs _ _ h1]
  exact h2 j c hj
theorem RowB.frozen {w : World} {g j : Nat} {M : List UInt8} (h : RowB w g M) (hj : j < M.length) : w.frozen? ⟨g, j, none⟩ = false := by
  obtain ⟨cs, lo, hi, h1, h2, _⟩ := h
  simp [World.frozen?, h1]
  omega
theorem RowB.set_ {w : World} {g k : Nat} {M : List UInt8} (h : RowB w g M) (hk : k < M.length) (c : UInt8) : RowB (w.setCell ⟨g, k, none⟩ (u8v c)) g (M.set k c) := by
  obtain ⟨cs, lo, hi, h1, h2, h3, h4⟩ := h
  refine ⟨cs.setIfInBounds k (u8v c), lo, hi, by simp [World.setCell, Array.getElem?_modify, h1], by simpa using h2, by simpa using h3, fun j d hj => ?_⟩
  rw [List.getElem?_set] at hj
  rw [Array.getElem?_setIfInBounds]
  by_cases e : k = j
  · subst e
    rw [if_pos rfl, if_pos hk] at hj
    cases hj
    rw [if_pos rfl, if_pos (by omega)]
  · rw [if_neg e] at hj
    rw [if_neg e]
    exact h4 j d hj
theorem set_parts (M : List UInt8) (k m : Nat) (c : UInt8) (r : List UInt8) (hk : k < M.length) (hr : r.length = m) : (M.set k c).take (k + 1) ++ r ++ (M.set k c).drop (k + 1 + m) = M.take k ++ (c :: r) ++ M.drop (k + (m + 1)) := by
  have e : M.set k c = (M.take k ++ [c]) ++ M.drop (k + 1) := by rw [List.set_eq_take_append_cons_drop, if_pos hk]; simp
  have hl : (M.take k ++ [c]).length = k + 1 := by rw [List.length_append, List.length_take]; simp; omega
  rw [e, List.take_left' hl, List.drop_append, List.drop_of_length_le (by omega), List.nil_append, hl, List.drop_drop]
  rw [show k + 1 + (k + 1 + m - (k + 1)) = k + (m + 1) by omega]
  simp
theorem storeB {P : Program} (g off : Nat) : ∀ (vs : List UInt8) (i : Nat) (W : World) (M : List UInt8), RowB W g M → off + i + vs.length ≤ M.length →
    ∃ W', (storeCells ⟨g, off, none⟩ (vs.map u8v) i).run P W = .ok () W' ∧ RowB W' g (M.take (off + i) ++ vs ++ M.drop (off + i + vs.length)) ∧ W.grownBy W' (some g)
  | [], i, W, M, h, _ => ⟨W, rfl, by simpa using h, World.grownBy.refl _ _⟩
  | v :: r, i, W, M, h, hl => by
    have ha : (⟨g, off, none⟩ : Addr).add i = ⟨g, off + i, none⟩ := add_plain _ _ _
    simp only [List.length_cons] at hl
    have hi : off + i < M.length := by omega
    have hc := h.cell (List.getElem?_eq_getElem hi)
    have hs : (store ⟨g, off + i, none⟩ (u8v v)).run P W = .ok () (W.setCell ⟨g, off + i, none⟩ (u8v v)) := by
      rw [run_store P W _ (u8v v) .plain rfl, hc, h.frozen hi]
      rfl
    obtain ⟨W', h1, h2, h3⟩ := storeB (P := P) g off r (i + 1) _ _ (h.set_ hi v) (by rw [List.length_set]; omega)
    refine ⟨W', ?_, ?_, ?_⟩
    · rw [List.map_cons]
      unfold storeCells
      rw [ha, Sem.run_bind, hs]
      exact h1
    · have e := set_parts M (off + i) r.length v r hi rfl
      rw [show off + (i + 1) = off + i + 1 by omega, e] at h2
      exact h2
    · have h4 : W.grownBy (W.setCell ⟨g, off + i, none⟩ (u8v v)) (some g) := only_set (World.grownBy.refl _ _) _ _
      exact ⟨h3.os.trans h4.os, h3.tape.trans h4.tape, h3.output.trans h4.output, Nat.le_trans h4.size h3.size, fun i hi hn => (h3.block i (Nat.lt_of_lt_of_le hi h4.size) hn).trans (h4.block i hi hn)⟩
/-- '[]byte(s)' -/
theorem run_bytes_rowB (w : World) (s : ByteArray) (l : List UInt8) (hl : s.data.toList = l) : ∃ (W1 : World) (cap : Nat),
    (convert 9 46 (.string s)).run Try.prog w = .ok (.slice (some ⟨w.heap.size, 0, none⟩) l.length cap) W1 ∧ Below w.heap.size w W1 ∧ W1.heap.size = w.heap.size + 1 ∧ RowB W1 w.heap.size l ∧ l.length ≤ cap := by
  have e : s.size = l.length := by rw [← hl]; simp
  have hr := Lib.run_convert_string_bytes (P := Try.prog) w 9 46 5 s Try.underlying9 Try.underlying46 Try.underlying5
  refine ⟨_, _, by rw [← e]; exact hr, ?_, Lib.bytesWorld_size .., ?_, ?_⟩
  · refine ⟨?_, ?_, ?_, by rw [Lib.bytesWorld_size]; omega, fun i hi => Lib.bytesWorld_at_old w 5 s i hi⟩
    all_goals unfold Lib.bytesWorld World.freeze; split <;> rfl
  · refine ⟨_, _, _, Lib.bytesWorld_at_new w 5 s, ?_, ?_, fun j c hj => ?_⟩
    · simp [Lib.bytesCells]; omega
    · simp [Lib.bytesCells]; omega
    · rw [← hl] at hj
      have hjl : j < s.data.size := by
        have := (List.getElem?_eq_some_iff.1 hj).1
        simpa using this
      have hj' : s.data[j]? = some c := by rw [← hj]; simp
      unfold Lib.bytesCells
      rw [Array.getElem?_append_left (by simpa using hjl), Array.getElem?_map, hj']
      rfl
  · rw [← e]
    exact grownCap_ge _ _ _ _
/-- 'copy(b[k:], t)' -/
theorem run_copy_rowB (w : World) (g off dLen dCap : Nat) (s : ByteArray) (M l : List UInt8) (hs : s.data.toList = l) (hg : RowB w g M) (hd : l.length ≤ dLen) (hfit : off + l.length ≤ M.length) :
    ∃ w', (Builtin.copy_ #[46, 9] 3 #[.slice (some ⟨g, off, none⟩) dLen dCap, .string s]).run Try.prog w = .ok (.int .i64 (l.length : Int)) w' ∧ RowB w' g (M.take off ++ l ++ M.drop (off + l.length)) ∧ w.grownBy w' (some g) := by
  have e : s.size = l.length := by rw [← hs]; simp
  obtain ⟨w', h1, h2, h3⟩ := storeB (P := Try.prog) g off l 0 w M hg (by simpa using hfit)
  rw [Nat.add_zero] at h2
  refine ⟨w', ?_, h2, h3⟩
  have hz : (Try.prog.info? 5).map (·.size) = some 1 := by kernel_rfl
  cases hq : Try.prog.info? 5 with
  | none => simp [hq] at hz
  | some i =>
    have htk : List.take (Nat.min s.size dLen) (List.map (fun b : UInt8 => Value.int IntKind.u8 (b.toNat : Int)) s.data.toList) = l.map u8v := by
      rw [hs, e, show Nat.min l.length dLen = l.length from Nat.min_eq_left hd, List.take_of_length_le (by simp)]
      rfl
    simp [Builtin.copy_, run_underlying Try.underlying46, Builtin.lenOf, Builtin.firstCells, sizeOf, typeInfo, hq]
    rw [htk, h1]
    simp [Result.andThen, goInt, e, Nat.min_eq_left hd]
end Go.Proofs.Ytimepplfaaddeaa
