/- Layer 16 (reasm): the steps of a script; heavy. -/
import Derived.Test.YtbiaphichaomaaaReasmN
import Derived.Test.YtbiaphichaomaaaStructs2
set_option linter.unusedVariables false
set_option linter.unusedSimpArgs false
namespace Go.Proofs.Ytbiaphichaomaaa
open Go.RowKit Go.BigFrame Go.ChangeMaps Go.ChangeShapes Go.WideShapes Go.Deep

structure Stp where
  d : Int
  a : Nat
  s : ByteArray
  n : Int
def sNil : Stp := ⟨0, 0, ⟨#[]⟩, 0⟩
/-- steps in memory -/
def SRow (w : World) (A : Option Addr) (len : Nat) (l : List Stp) : Prop := l.length = len ∧ ∀ k, k < len → ∃ r off, A = some ⟨r, off, none⟩ ∧ r < w.heap.size ∧
  w.cell? ⟨r, off + k * 4, none⟩ = some (.int .i64 (l.getD k sNil).d) ∧ w.cell? ⟨r, off + k * 4 + 1, none⟩ = some (.int .u64 ((l.getD k sNil).a : Int)) ∧ w.cell? ⟨r, off + k * 4 + 2, none⟩ = some (.string (l.getD k sNil).s) ∧ w.cell? ⟨r, off + k * 4 + 3, none⟩ = some (.int .i64 (l.getD k sNil).n)
theorem SRow.below {w w' : World} {A : Option Addr} {len : Nat} {l : List Stp} (h : SRow w A len l) (hb : Below w.heap.size w w') : SRow w' A len l := by
  refine ⟨h.1, fun k hk => ?_⟩
  obtain ⟨r, off, h1, h2, h3, h4, h5, h6⟩ := h.2 k hk
  exact ⟨r, off, h1, Nat.lt_of_lt_of_le h2 hb.size, (hb.cell h2).trans h3, (hb.cell h2).trans h4, (hb.cell h2).trans h5, (hb.cell h2).trans h6⟩
section
variable {H : Type} {enc : TypeId × Value → H} {P : Program} {w : World} {base : Nat} {held : Bool}
theorem str_caps {t e : TypeId} {fs : Array Field} {a : Option Addr} {len cap : Nat} {d : DataW H} {p : List MemPlace} (ht : P.underlying t = some (.slice e)) (he : P.underlying e = some (.struct fs))
    (hone : oneCellFields P fs = true) (hC : P.cellsOf e = fs.size) (h : DataW.Trod enc P w base (fun _ => true) held t (.slice a len cap) d p) : len ≤ cap ∧ cap ≤ 9223372036854775807 ∧ (a = none → len = 0 ∧ cap = 0) := by
  obtain ⟨fuel, hf⟩ := h
  rcases open_slice_fields ht he hone hC hf with ⟨hcs, _⟩ | ⟨x, l, c, m, D, Pl, hcs, _, hle, hm, _⟩
  · simp [Value.cells] at hcs
    obtain ⟨rfl, rfl, rfl⟩ := hcs
    exact ⟨Nat.le_refl _, by omega, fun _ => ⟨rfl, rfl⟩⟩
  · simp [Value.cells] at hcs
    obtain ⟨rfl, rfl, rfl⟩ := hcs
    unfold maxLen at hm
    exact ⟨hle, hm, fun h => by cases h⟩
end
theorem pick_list {α : Type} (z : α) {P : Nat → α → Prop} : ∀ n : Nat, (∀ k, k < n → ∃ x, P k x) → ∃ l : List α, l.length = n ∧ ∀ k, k < n → P k (l.getD k z)
  | 0, _ => ⟨[], rfl, fun k h => absurd h (by omega)⟩
  | n + 1, h => by
    obtain ⟨l, hl, hp⟩ := pick_list z n fun k hk => h k (by omega)
    obtain ⟨x, hx⟩ := h n (by omega)
    refine ⟨l ++ [x], by simp [hl], fun k hk => ?_⟩
    by_cases e : k = n
    · subst e
      have : (l ++ [x]).getD k z = x := by simp [List.getD, ← hl]
      rw [this]; exact hx
    · have : (l ++ [x]).getD k z = l.getD k z := by simp only [List.getD]; rw [List.getElem?_append_left (by omega)]
      rw [this]; exact hp k (by omega)
/-- steps that came in -/
theorem rows_steps {w : World} {a : Option Addr} {len : Nat} (h : StrRows2 w [(.inl (.inl .i64)), (.inl (.inl .u64)), (.inl (.inr false)), (.inl (.inl .i64))] a len) :
    ∃ l : List Stp, SRow w a len l ∧ ∀ k, k < len → (l.getD k sNil).s.size ≤ 140737488351232 ∧ (l.getD k sNil).a < 18446744073709551616 := by
  obtain ⟨l, hl, hp⟩ := pick_list sNil (P := fun k x => (∃ r off, a = some ⟨r, off, none⟩ ∧ r < w.heap.size ∧ w.cell? ⟨r, off + k * 4, none⟩ = some (.int .i64 x.d) ∧ w.cell? ⟨r, off + k * 4 + 1, none⟩ = some (.int .u64 (x.a : Int)) ∧ w.cell? ⟨r, off + k * 4 + 2, none⟩ = some (.string x.s) ∧ w.cell? ⟨r, off + k * 4 + 3, none⟩ = some (.int .i64 x.n)) ∧ x.s.size ≤ 140737488351232 ∧ x.a < 18446744073709551616) len fun k hk => by
    obtain ⟨r, off, hr, hb, hc⟩ := h.2 k hk
    obtain ⟨v0, q0, hv0⟩ := hc 0 _ rfl
    obtain ⟨v1, q1, hv1⟩ := hc 1 _ rfl
    obtain ⟨v2, q2, hv2⟩ := hc 2 _ rfl
    obtain ⟨v3, q3, hv3⟩ := hc 3 _ rfl
    obtain ⟨d, rfl, _⟩ := hv0
    obtain ⟨e, rfl, he⟩ := hv1
    obtain ⟨s, rfl, hs⟩ := hv2
    obtain ⟨n, rfl, _⟩ := hv3
    have he2 : 0 ≤ e ∧ e < 18446744073709551616 := by
      simp [Lit.wf, IntKind.min, IntKind.max, IntKind.signed, IntKind.bits] at he
      omega
    refine ⟨⟨d, e.toNat, s, n⟩, ⟨r, off, hr, hb, q0, ?_, q2, q3⟩, hs, by simp only; omega⟩
    rw [show ((e.toNat : Nat) : Int) = e by omega]
    exact q1
  exact ⟨l, ⟨hl, fun k hk => (hp k hk).1⟩, fun k hk => (hp k hk).2⟩
def sumS (l : List Stp) (k : Nat) : Nat := ((l.take k).map (·.s.size)).sum
theorem sumS_succ {l : List Stp} {k : Nat} (hk : k < l.length) : sumS l (k + 1) = sumS l k + (l.getD k sNil).s.size := by
  unfold sumS
  rw [List.take_succ_eq_append_getElem hk, List.map_append, List.sum_append]
  congr 1
  simp [List.getD, List.getElem?_eq_getElem hk]
theorem sumS_le {l : List Stp} (h : ∀ k, k < l.length → (l.getD k sNil).s.size ≤ 140737488351232) : ∀ k, k ≤ l.length → sumS l k ≤ k * 140737488351232
  | 0, _ => by simp [sumS]
  | k + 1, hk => by
    rw [sumS_succ (by omega)]
    have := sumS_le h k (by omega)
    have := h k (by omega)
    rw [Nat.add_mul]
    omega
theorem sumS_get {l : List Stp} {n : Nat} : ∀ k, k < n → n ≤ l.length → (l.getD k sNil).s.size ≤ sumS l n := by
  intro k hk hn
  induction n with
  | zero => omega
  | succ n ih =>
    rw [sumS_succ (by omega)]
    by_cases e : k = n
    · subst e; omega
    · have := ih (by omega) (by omega); omega
/-- what heavy tells -/
def HeavyP (w : World) (len : Nat) (l : List Stp) (e : Ending) (w' : World) : Prop := ∃ r : Bool, e = .returned (.bool r) ∧ w = w' ∧ (r = false → len ≤ 200 ∧ ∀ k, (l.getD k sNil).s.size ≤ 16384)
theorem heavy_at (w : World) (A : Option Addr) (len cap : Nat) (l : List Stp) (h : SRow w A len l) (hs : ∀ k, k < len → (l.getD k sNil).s.size ≤ 140737488351232) (hlen : len ≤ 9223372036854775807) :
    Calls Try.prog 13 #[.slice A len cap] w (HeavyP w len l) := by
  have hi0 : (len : Int) ≤ 9223372036854775807 := by omega
  have hll := h.1
  have hsum := fun k (hk : k ≤ len) => sumS_le (l := l) (by rw [hll]; exact hs) k (by omega)
  have H := Lib.hid h
  clear h
  have Hs := Lib.hid hs
  clear hs
  have Hll := Lib.hid hll
  clear hll
  have Hsum := Lib.hid hsum
  clear hsum
  go_enter Try.func13, Try.ntmps13
  go_wp2
  go_loop [3, 4] (fun n i => ∃ k : Nat, k ≤ len ∧ k ≤ 500 ∧ i = .int .i64 (k : Int) ∧ n = .int .i64 ((sumS l k : Nat) : Int)) (fun _ i => 500 - (intOf i).toNat)
  case atStart => exact ⟨0, Nat.zero_le _, by omega, rfl, by simp [sumS]⟩
  case round =>
    obtain ⟨k, hk, hk2, rfl, rfl⟩ := hrel
    have hbk := Hsum.out k hk
    by_cases hlt : k < len ∧ k < 500
    · obtain ⟨hlt, h200⟩ := hlt
      obtain ⟨r, off, rfl, hrl, q0, q1, q2, q3⟩ := H.out.2 k hlt
      have hsc := sumS_succ (l := l) (k := k) (by rw [Hll.out]; exact hlt)
      have hsk := Hs.out k hlt
      generalize hx : l.getD k sNil = x at *
      generalize hy : sumS l (k + 1) = y at *
      generalize hz : sumS l k = z at *
      clear hx
      have e1 : decide (k < len) = true := decide_eq_true hlt
      have e2 : decide ((k : Int) < 500) = true := by simp; omega
      have hzi : (0 : Int) ≤ (z : Int) := by omega
      have hz1 : (z : Int) ≤ 500 * 140737488351232 := by omega
      have hxi : (x.s.size : Int) ≤ 140737488351232 := by omega
      have Hy := Lib.hid hy
      have Hz := Lib.hid hz
      have Hsc := Lib.hid hsc
      clear hy hz hsc hbk
      go_wp2
      go_round
      case rel => exact ⟨k + 1, by omega, by omega, by go_num, by rw [Hy.out, Hsc.out]; go_num⟩
      case measure => simp [intOf]; omega
    · by_cases hend : k < len
      · have e2 : decide ((k : Int) < 500) = false := by simp; omega
        have e1 : decide (k < len) = true := decide_eq_true hend
        have e3 : decide ((200 : Int) < (len : Int)) = true := by simp; omega
        clear hlt
        go_wp2
        go_ret
        exact ⟨_, rfl, rfl, fun h => by cases h⟩
      · obtain rfl : k = len := by omega
        have e1 : decide (k < k) = false := by simp
        clear hlt
        by_cases hbig : 200 < k
        · have e3 : decide ((200 : Int) < (k : Int)) = true := by simp; omega
          go_wp2
          go_ret
          exact ⟨_, rfl, rfl, fun h => by cases h⟩
        · have e3 : decide ((200 : Int) < (k : Int)) = false := by simp; omega
          have hdone : sumS l k ≤ 16384 → ∀ j, (l.getD j sNil).s.size ≤ 16384 := fun h j => by
            by_cases hj : j < k
            · exact Nat.le_trans (sumS_get j hj (by rw [Hll.out]; exact Nat.le_refl _)) h
            · have : l.getD j sNil = sNil := by simp [List.getD, List.getElem?_eq_none (show l.length ≤ j by rw [Hll.out]; omega)]
              rw [this]; decide
          have HD := Lib.hid hdone
          clear hdone hbk
          generalize sumS l k = z at *
          by_cases h4 : 16384 < z
          · have e4 : decide ((16384 : Int) < (z : Int)) = true := by simp; omega
            go_wp2
            go_ret
            exact ⟨_, rfl, rfl, fun h => by cases h⟩
          · have e4 : decide ((16384 : Int) < (z : Int)) = false := by simp; omega
            go_wp2
            go_ret
            exact ⟨_, rfl, rfl, fun _ => ⟨by omega, HD.out (by omega)⟩⟩
end Go.Proofs.Ytbiaphichaomaaa
