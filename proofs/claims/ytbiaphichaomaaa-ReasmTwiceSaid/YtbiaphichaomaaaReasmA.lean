/- Layer 16 (reasm): what a Reasm is in memory. -/
import Derived.Test.YtbiaphichaomaaaReasmJ
import Derived.Test.YtbiaphichaomaaaFlowX
import Derived.Test.YtbiaphichaomaaaFlowUB
import Derived.Test.YtbiaphichaomaaaMap
import Derived.WideKeyEntry
set_option linter.unusedVariables false
set_option linter.unusedSimpArgs false
namespace Go.Proofs.Ytbiaphichaomaaa
open Go.RowKit Go.BigFrame Go.Maps Go.ChangeShapes Go.WideShapes Go.ChangeAt

theorem grown_undrew {w w' : World} {r : Option Nat} (h : w.drew.grownBy w' r) : w.grownBy w' r := ⟨h.os, h.tape, h.output, h.size, h.block⟩
def byteV (b : UInt8) : Value := .int .u8 (b.toNat : Int)
def farM (far : Nat → Option UInt8) : Lit → Option Value := fun kl => match kl with
  | .int .u64 i => if 0 ≤ i then (far i.toNat).map byteV else none
  | _ => none
theorem lawU64 : Keyed Try.prog 28 := int_keyed Try.underlying28
theorem zeroU8 (w : World) : (zeroValue 5).run Try.prog w = .ok (.int .u8 0) w := by kernel_rfl
theorem keyU64 {n : Nat} (h : n < 18446744073709551616) : keyOf Try.prog 28 (.int .u64 (n : Int)) = some (.int .u64 (n : Int)) := keyOf_int_mk Try.underlying28 (by simp [Lit.wf, IntKind.min, IntKind.max, IntKind.signed, IntKind.bits]; omega)
theorem farM_at (far : Nat → Option UInt8) (n : Nat) : farM far (.int .u64 (n : Int)) = (far n).map byteV := by simp [farM]
theorem farM_upd (far : Nat → Option UInt8) (n : Nat) (b : Option UInt8) : updM (farM far) (.int .u64 (n : Int)) (b.map byteV) = farM (fun i => if i = n then b else far i) := by
  funext kl
  by_cases h : kl = .int .u64 (n : Int)
  · subst h
    rw [updM_same, farM_at, if_pos rfl]
  · rw [updM_other _ _ h]
    unfold farM
    split
    · rename_i i
      split
      · show _ = Option.map byteV (if i.toNat = n then b else far i.toNat)
        rw [if_neg]
        intro e
        apply h
        rw [← e]
        congr 1
        omega
      · rfl
    · rfl
/-- a row of Parts in memory, as a value -/
def PartsIs (w : World) (v : Value) (l : List Sp) : Prop :=
  ∃ A c, v = .slice A l.length c ∧ l.length ≤ c ∧ c ≤ maxLen ∧ (l = [] ∨ ∃ g off cs, A = some ⟨g, off, none⟩ ∧ Blk w g 45 cs ∧ ∀ (j : Nat) (p : Sp), l[j]? = some p → cs[off + j * 2]? = some (.int .u64 (p.1 : Int)) ∧ cs[off + j * 2 + 1]? = some (.int .u64 (p.2 : Int)))
theorem PartsIs.keep {w w' : World} {v : Value} {l : List Sp} (h : PartsIs w v l) (hk : ∀ g cs, Blk w g 45 cs → w'.heap[g]? = w.heap[g]?) : PartsIs w' v l := by
  obtain ⟨A, c, h1, h2, h3, h4⟩ := h
  refine ⟨A, c, h1, h2, h3, ?_⟩
  rcases h4 with h4 | ⟨g, off, cs, h5, h6, h7⟩
  · exact .inl h4
  · exact .inr ⟨g, off, cs, h5, (hk g cs h6).trans h6, h7⟩
theorem PartsIs.prow {w : World} {A : Option Addr} {n c : Nat} {l : List Sp} (h : PartsIs w (.slice A n c) l) : n = l.length ∧ n ≤ c ∧ c ≤ maxLen ∧ PRow w A l := by
  obtain ⟨A', c', h1, h2, h3, h4⟩ := h
  injection h1 with e1 e2 e3
  subst e1 e2 e3
  refine ⟨rfl, h2, h3, ?_⟩
  rcases h4 with h4 | ⟨g, off, cs, rfl, h6, h7⟩
  · exact .inl h4
  · exact .inr ⟨g, off, rfl, h6.lt, fun j p hj => ⟨by rw [h6.cell]; exact (h7 j p hj).1, by rw [h6.cell]; exact (h7 j p hj).2⟩⟩
theorem PartsIs.of_own {w w' : World} {base : Nat} {v : Value} {l : List Sp} (h : w'.ownsRow base 45 2 v l.length (l.flatMap partCells)) : PartsIs w' v l := by
  rcases h.2 with ⟨rfl, h0⟩ | ⟨g, cap, cur, rfl, hb, hg, hc1, hc2, hc3, ht⟩
  · have : l = [] := List.eq_nil_of_length_eq_zero h0
    subst this
    exact ⟨none, 0, rfl, Nat.le_refl _, Nat.zero_le _, .inl rfl⟩
  · refine ⟨_, cap, rfl, hc1, hc2, .inr ⟨g, 0, cur, rfl, hg, fun j p hj => ?_⟩⟩
    have hjl : j < l.length := (List.getElem?_eq_some_iff.1 hj).1
    obtain ⟨e1, e2⟩ := partCells_at l j p hj
    rw [← ht, List.getElem?_take_of_lt (by omega)] at e1 e2
    rw [Nat.zero_add]
    exact ⟨by simpa using e1, by simpa using e2⟩
theorem PartsIs.tail {w : World} {A : Option Addr} {n c : Nat} {p : Sp} {l : List Sp} (h : PartsIs w (.slice A (n + 1) c) (p :: l)) :
    (c = 1 → PartsIs w (.slice A n (c - 1)) l) ∧ ∃ g off, A = some ⟨g, off, none⟩ ∧ PartsIs w (.slice (some ⟨g, off + 2, none⟩) n (c - 1)) l := by
  obtain ⟨A', c', h1, h2, h3, h4⟩ := h
  injection h1 with e1 e2 e3
  subst e1 e3
  simp only [List.length_cons] at e2 h2
  have hn : n = l.length := by omega
  subst hn
  rcases h4 with h4 | ⟨g, off, cs, rfl, h6, h7⟩
  · cases h4
  · refine ⟨fun hc => ?_, g, off, rfl, _, _, rfl, by omega, by omega, .inr ⟨g, off + 2, cs, rfl, h6, fun j q hj => ?_⟩⟩
    · have : l = [] := List.eq_nil_of_length_eq_zero (by omega)
      subst this
      exact ⟨_, _, rfl, by omega, by omega, .inl rfl⟩
    · have := h7 (j + 1) q (by simpa using hj)
      rw [show off + 2 + j * 2 = off + (j + 1) * 2 by omega]
      exact this
/-- block b of w is the Reasm s: its map is bm, its ready bytes rv, its parts pv -/
structure RsAt (w : World) (b bm : Nat) (rv pv : Value) (s : Rs) : Prop where
  blk : Blk w b 48 #[.int .i64 (s.most : Int), .int .u64 (s.next : Int), rv, .map (some bm), pv]
  row : w.ownsRow 0 5 1 rv s.ready.length (s.ready.map byteV)
  far : ∃ n, MapIs Try.prog 28 w bm n (farM s.far) ∧ n ≤ s.got
  parts : PartsIs w pv s.parts
/-- the blocks that calls may turn -/
def OwnR (b bm : Nat) (rv : Value) (i : Nat) : Prop := i = b ∨ i = bm ∨ rv.ownBlock = some i
section
variable {w w' : World} {b bm : Nat} {rv pv : Value} {s : Rs}
theorem own_row_blk {base : Nat} {e : TypeId} {size n : Nat} {v : Value} {xs : List Value} (h : w.ownsRow base e size v n xs) {g : Nat} (hg : v.ownBlock = some g) : ∃ cs, Blk w g e cs := by
  rcases h.2 with ⟨rfl, _⟩ | ⟨g', cap, cur, rfl, _, hh, _⟩
  · simp [Value.ownBlock] at hg
  · have : g' = g := by simpa [Value.ownBlock] using hg
    subst this
    exact ⟨_, hh⟩
theorem map_blk_ne {P : Program} {k : TypeId} {n : Nat} {M : Lit → Option Value} (h : MapIs P k w bm n M) {g : Nat} {t : TypeId} {cs : Array Value} (hg : Blk w g t cs) : g ≠ bm := by
  rintro rfl
  obtain ⟨es, c, h1, _⟩ := h.size
  unfold Blk at hg
  rw [h1] at hg
  injection hg with hg
  cases hg
theorem RsAt.map_ne (h : RsAt w b bm rv pv s) : b ≠ bm := by obtain ⟨n, h1, _⟩ := h.far; exact map_blk_ne h1 h.blk
theorem RsAt.row_ne (h : RsAt w b bm rv pv s) : rv.ownBlock ≠ some b := own_blk_ne h.row h.blk (by decide)
theorem RsAt.row_map (h : RsAt w b bm rv pv s) : rv.ownBlock ≠ some bm := by
  intro e
  obtain ⟨cs, hc⟩ := own_row_blk h.row e
  obtain ⟨n, h1, _⟩ := h.far
  exact map_blk_ne h1 hc rfl
theorem RsAt.own_lt (h : RsAt w b bm rv pv s) {i : Nat} (hi : OwnR b bm rv i) : i < w.heap.size := by
  rcases hi with rfl | rfl | hi
  · exact h.blk.lt
  · obtain ⟨n, h1, _⟩ := h.far; exact h1.lt
  · exact (h.row.lt i hi).2
theorem RsAt.no_part (h : RsAt w b bm rv pv s) {g : Nat} {cs : Array Value} (hg : Blk w g 45 cs) : ¬ OwnR b bm rv g := by
  rintro (rfl | rfl | e)
  · exact Blk.ne_ h.blk hg (by decide) rfl
  · obtain ⟨n, h1, _⟩ := h.far; exact map_blk_ne h1 hg rfl
  · obtain ⟨cs', hc⟩ := own_row_blk h.row e
    exact Blk.ne_ hc hg (by decide) rfl
theorem own_row_eq {base : Nat} {e : TypeId} {size n : Nat} {v : Value} {xs : List Value} (h : w.ownsRow base e size v n xs) (hk : ∀ i, v.ownBlock = some i → w'.heap[i]? = w.heap[i]?) : w'.ownsRow base e size v n xs := by
  refine ⟨h.1, ?_⟩
  rcases h.2 with hn | ⟨g, cap, cur, rfl, hb, hgg, rest⟩
  · exact .inl hn
  · exact .inr ⟨g, cap, cur, rfl, hb, (hk g rfl).trans hgg, rest⟩
theorem MapIs.of_eq {P : Program} {k : TypeId} {n : Nat} {M : Lit → Option Value} (h : MapIs P k w bm n M) (he : w'.heap[bm]? = w.heap[bm]?) : MapIs P k w' bm n M := by
  obtain ⟨D, ⟨es, clock, h1, r⟩, h2⟩ := h
  exact ⟨D, ⟨es, clock, he.trans h1, r⟩, h2⟩
/-- what does not turn its blocks (nor those of Parts) leaves it -/
theorem RsAt.keep (h : RsAt w b bm rv pv s) (hk : ∀ i, i < w.heap.size → (OwnR b bm rv i ∨ ∃ cs, Blk w i 45 cs) → w'.heap[i]? = w.heap[i]?) : RsAt w' b bm rv pv s where
  blk := (hk b h.blk.lt (.inl (.inl rfl))).trans h.blk
  row := own_row_eq h.row fun i hi => hk i (h.row.lt i hi).2 (.inl (.inr (.inr hi)))
  far := by obtain ⟨n, h1, h2⟩ := h.far; exact ⟨n, h1.of_eq (hk bm h1.lt (.inl (.inr (.inl rfl)))), h2⟩
  parts := h.parts.keep fun g cs hg => hk g hg.lt (.inr ⟨cs, hg⟩)
theorem RsAt.below (h : RsAt w b bm rv pv s) (hb : Below w.heap.size w w') : RsAt w' b bm rv pv s := h.keep fun i hi _ => hb.block i hi
theorem RsAt.alloc (h : RsAt w b bm rv pv s) (o : Obj) : RsAt (w.alloc o) b bm rv pv s := h.below ((Below.refl _ _).alloc (Nat.le_refl _) _)
theorem RsAt.drewN (h : RsAt w b bm rv pv s) (n : Nat) : RsAt (w.drewN n) b bm rv pv s := h.keep fun _ _ _ => rfl
/-- a call on another one leaves it -/
theorem RsAt.other (h : RsAt w b bm rv pv s) {b2 bm2 : Nat} {rv2 pv2 : Value} {s2 : Rs} (h2 : RsAt w b2 bm2 rv2 pv2 s2) (hne : ∀ i, OwnR b bm rv i → ¬ OwnR b2 bm2 rv2 i) (ho : Out (OwnR b2 bm2 rv2) w w') : RsAt w' b bm rv pv s :=
  h.keep fun i hi hh => ho.block i hi (by
    rcases hh with hh | ⟨cs, hc⟩
    · exact hne i hh
    · exact h2.no_part hc)
theorem own_slice0 {base : Nat} {e : TypeId} {size n : Nat} {v : Value} {xs : List Value} (h : w.ownsRow base e size v n xs) : ∃ A c, v = .slice A n c ∧ n ≤ c ∧ c ≤ maxLen := by
  rcases h.2 with ⟨rfl, rfl⟩ | ⟨g, cap, cur, rfl, _, _, h1, h2, _⟩
  · exact ⟨none, 0, rfl, Nat.le_refl _, Nat.zero_le _⟩
  · exact ⟨_, cap, rfl, h1, h2⟩
end
/-- the state when k bytes have moved -/
def movK (s : Rs) (k : Nat) : Rs := { s with next := s.next + k, ready := s.ready ++ farL s.far s.next k, far := fun i => if s.next ≤ i ∧ i < s.next + k then none else s.far i }
theorem movK_zero (s : Rs) : movK s 0 = s := by
  have : (fun i => if s.next ≤ i ∧ i < s.next then none else s.far i) = s.far := by funext i; rw [if_neg (by omega)]
  unfold movK
  simp [farL, this]
theorem farL_succ (far : Nat → Option UInt8) (a n : Nat) : farL far a (n + 1) = farL far a n ++ [(far (a + n)).getD 0] := by
  unfold farL
  rw [List.range_succ, List.map_append]
  rfl
theorem movK_succ (s : Rs) (k : Nat) : movK s (k + 1) = { movK s k with next := s.next + k + 1, ready := (movK s k).ready ++ [(s.far (s.next + k)).getD 0], far := fun i => if i = s.next + k then none else (movK s k).far i } := by
  unfold movK
  simp only [Rs.mk.injEq, true_and, and_true]
  refine ⟨by omega, by rw [farL_succ, List.append_assoc], ?_⟩
  funext i
  by_cases h1 : i = s.next + k
  · rw [if_pos h1, if_pos (by omega)]
  · rw [if_neg h1]
    by_cases h2 : s.next ≤ i ∧ i < s.next + k
    · rw [if_pos h2, if_pos (by omega)]
    · rw [if_neg h2, if_neg (by omega)]
theorem movK_end {s : Rs} {p : Sp} {l : List Sp} (hp : s.parts = p :: l) (h : p.1 = s.next) (h2 : p.1 < p.2) : movesR s = { movK s (p.2 - s.next) with parts := l } := by
  unfold movesR
  rw [hp]
  simp only
  rw [if_pos h]
  unfold movK
  rw [show s.next + (p.2 - s.next) = p.2 by omega]
end Go.Proofs.Ytbiaphichaomaaa
