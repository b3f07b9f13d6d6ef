/- Layer 31 (trace): acts that came in; heavy; the plain laws of a trace. -/
import Derived.Test.YtcdbbdjabccjdaaTraceM
import Derived.Test.YtcdbbdjabccjdaaStructs2
set_option linter.unusedVariables false
set_option linter.unusedSimpArgs false
namespace Go.Proofs.Ytcdbbdjabccjdaa
open Go.RowKit Go.BigFrame Go.ChangeMaps Go.ChangeShapes Go.WideShapes Go.Deep

section
variable {H : Type} {enc : TypeId × Value → H} {P : Program} {w : World} {base : Nat} {held : Bool}
theorem str_caps {t e : TypeId} {fs : Array Field} {a : Option Addr} {len cap : Nat} {d : DataW H} {p : List MemPlace} (ht : P.underlying t = some (.slice e)) (he : P.underlying e = some (.struct fs))
    (hone : oneCellFields P fs = true) (hC : P.cellsOf e = fs.size) (h : DataW.Trod enc P w base (fun _ => true) held t (.slice a len cap) d p) : len ≤ cap ∧ cap ≤ 9223372036854775807 ∧ (a = none → len = 0 ∧ cap = 0) := by
  obtain ⟨fuel, hf⟩ := h
  rcases open_slice_fields ht he hone hC hf with ⟨hcs, _⟩ | ⟨x, l, c, m, D, Pl, hcs, _, hle, hm, _⟩
  · simp [Value.cells] at hcs
    obtain ⟨rfl, rfl, rfl⟩ := hcs
    exact ⟨Nat.le_refl _, by omega, fun _ => ⟨rfl, rfl⟩⟩
  · simp [Value.cells] at hcs
    obtain ⟨rfl, rfl, rfl⟩ := hcs
    unfold maxLen at hm
    exact ⟨hle, hm, fun h => by cases h⟩
end
theorem pick_list {P : Nat → AAct → Prop} : ∀ n : Nat, (∀ k, k < n → ∃ x, P k x) → ∃ l : List AAct, l.length = n ∧ ∀ k, k < n → P k (l.getD k aNil)
  | 0, _ => ⟨[], rfl, fun k h => absurd h (by omega)⟩
  | n + 1, h => by
    obtain ⟨l, hl, hp⟩ := pick_list n fun k hk => h k (by omega)
    obtain ⟨x, hx⟩ := h n (by omega)
    refine ⟨l ++ [x], by simp [hl], fun k hk => ?_⟩
    by_cases e : k = n
    · subst e
      have : (l ++ [x]).getD k aNil = x := by simp [List.getD, ← hl]
      rw [this]; exact hx
    · have : (l ++ [x]).getD k aNil = l.getD k aNil := by simp only [List.getD]; rw [List.getElem?_append_left (by omega)]
      rw [this]; exact hp k (by omega)
/-- acts that came in -/
theorem rows_acts {w : World} {a : Option Addr} {len : Nat} (h : StrRows2 w [(.inl (.inl .i64)), (.inl (.inl .u8)), (.inl (.inr false))] a len) :
    ∃ l : List AAct, ARow w a len l ∧ ∀ k, k < len → (l.getD k aNil).s.size ≤ 140737488351232 := by
  obtain ⟨l, hl, hp⟩ := pick_list (P := fun k x => (∃ r off, a = some ⟨r, off, none⟩ ∧ r < w.heap.size ∧ w.cell? ⟨r, off + k * 3, none⟩ = some (.int .i64 x.e) ∧ w.cell? ⟨r, off + k * 3 + 1, none⟩ = some (.int .u8 (x.d : Int)) ∧ w.cell? ⟨r, off + k * 3 + 2, none⟩ = some (.string x.s)) ∧ x.s.size ≤ 140737488351232) len fun k hk => by
    obtain ⟨r, off, hr, hb, hc⟩ := h.2 k hk
    obtain ⟨v0, q0, hv0⟩ := hc 0 _ rfl
    obtain ⟨v1, q1, hv1⟩ := hc 1 _ rfl
    obtain ⟨v2, q2, hv2⟩ := hc 2 _ rfl
    obtain ⟨e, rfl, _⟩ := hv0
    obtain ⟨d, rfl, hd⟩ := hv1
    obtain ⟨s, rfl, hs⟩ := hv2
    obtain ⟨g1, g2⟩ := bounds_u8 hd
    refine ⟨⟨e, d.toNat, s⟩, ⟨r, off, hr, hb, q0, ?_, q2⟩, hs⟩
    rw [show ((d.toNat : Nat) : Int) = d by omega]
    exact q1
  exact ⟨l, ⟨hl, fun k hk => (hp k hk).1⟩, fun k hk => (hp k hk).2⟩
def sumS (l : List AAct) (k : Nat) : Nat := ((l.take k).map (·.s.size)).sum
theorem sumS_succ {l : List AAct} {k : Nat} (hk : k < l.length) : sumS l (k + 1) = sumS l k + (l.getD k aNil).s.size := by
  unfold sumS
  rw [List.take_succ_eq_append_getElem hk, List.map_append, List.sum_append]
  congr 1
  simp [List.getD, List.getElem?_eq_getElem hk]
theorem sumS_le {l : List AAct} (h : ∀ k, k < l.length → (l.getD k aNil).s.size ≤ 140737488351232) : ∀ k, k ≤ l.length → sumS l k ≤ k * 140737488351232
  | 0, _ => by simp [sumS]
  | k + 1, hk => by
    rw [sumS_succ (by omega)]
    have := sumS_le h k (by omega)
    have := h k (by omega)
    rw [Nat.add_mul]
    omega
theorem sumS_get {l : List AAct} {n : Nat} : ∀ k, k < n → n ≤ l.length → (l.getD k aNil).s.size ≤ sumS l n := by
  intro k hk hn
  induction n with
  | zero => omega
  | succ n ih =>
    rw [sumS_succ (by omega)]
    by_cases e : k = n
    · subst e; omega
    · have := ih (by omega) (by omega); omega
/-- what heavy tells -/
def HeavyP (w : World) (len : Nat) (l : List AAct) (e : Ending) (w' : World) : Prop := ∃ r : Bool, e = .returned (.bool r) ∧ w = w' ∧ (r = false → len ≤ 200 ∧ ∀ k, (l.getD k aNil).s.size ≤ 4096)
theorem heavy_at (w : World) (A : Option Addr) (len cap : Nat) (l : List AAct) (h : ARow w A len l) (hs : ∀ k, k < len → (l.getD k aNil).s.size ≤ 140737488351232) (hlen : len ≤ 9223372036854775807) :
    Calls Try.prog 9 #[.slice A len cap] w (HeavyP w len l) := by
  have hi0 : (len : Int) ≤ 9223372036854775807 := by omega
  have hll := h.1
  have hsum := fun k (hk : k ≤ len) => sumS_le (l := l) (by rw [hll]; exact hs) k (by omega)
  have H := Lib.hid h
  clear h
  have Hs := Lib.hid hs
  clear hs
  have Hll := Lib.hid hll
  clear hll
  have Hsum := Lib.hid hsum
  clear hsum
  go_enter Try.func9, Try.ntmps9
  go_wp2
  go_loop [3, 4] (fun n i => ∃ k : Nat, k ≤ len ∧ k ≤ 201 ∧ i = .int .i64 (k : Int) ∧ n = .int .i64 ((sumS l k : Nat) : Int)) (fun _ i => 201 - (intOf i).toNat)
  case atStart => exact ⟨0, Nat.zero_le _, by omega, rfl, by simp [sumS]⟩
  case round =>
    obtain ⟨k, hk, hk2, rfl, rfl⟩ := hrel
    have hbk := Hsum.out k hk
    by_cases hlt : k < len ∧ k ≤ 200
    · obtain ⟨hlt, h200⟩ := hlt
      obtain ⟨r, off, rfl, hrl, q0, q1, q2⟩ := H.out.2 k hlt
      have hsc := sumS_succ (l := l) (k := k) (by rw [Hll.out]; exact hlt)
      have hsk := Hs.out k hlt
      generalize hx : l.getD k aNil = x at *
      generalize hy : sumS l (k + 1) = y at *
      generalize hz : sumS l k = z at *
      clear hx
      have e1 : decide (k < len) = true := decide_eq_true hlt
      have e2 : decide ((k : Int) ≤ 200) = true := by simp; omega
      have hzi : (0 : Int) ≤ (z : Int) := by omega
      have hz1 : (z : Int) ≤ 201 * 140737488351232 := by omega
      have hxi : (x.s.size : Int) ≤ 140737488351232 := by omega
      have Hy := Lib.hid hy
      have Hz := Lib.hid hz
      have Hsc := Lib.hid hsc
      clear hy hz hsc hbk
      go_wp2
      go_round
      case rel => exact ⟨k + 1, by omega, by omega, by go_num, by rw [Hy.out, Hsc.out]; go_num⟩
      case measure => simp [intOf]; omega
    · by_cases hend : k < len
      · have e2 : decide ((k : Int) ≤ 200) = false := by simp; omega
        have e1 : decide (k < len) = true := decide_eq_true hend
        have e3 : decide ((200 : Int) < (len : Int)) = true := by simp; omega
        clear hlt
        go_wp2
        go_ret
        exact ⟨_, rfl, rfl, fun h => by cases h⟩
      · obtain rfl : k = len := by omega
        have e1 : decide (k < k) = false := by simp
        clear hlt
        by_cases hbig : 200 < k
        · have e3 : decide ((200 : Int) < (k : Int)) = true := by simp; omega
          go_wp2
          go_ret
          exact ⟨_, rfl, rfl, fun h => by cases h⟩
        · have e3 : decide ((200 : Int) < (k : Int)) = false := by simp; omega
          have hdone : sumS l k ≤ 4096 → ∀ j, (l.getD j aNil).s.size ≤ 4096 := fun h j => by
            by_cases hj : j < k
            · exact Nat.le_trans (sumS_get j hj (by rw [Hll.out]; exact Nat.le_refl _)) h
            · have : l.getD j aNil = aNil := by simp [List.getD, List.getElem?_eq_none (show l.length ≤ j by rw [Hll.out]; omega)]
              rw [this]; decide
          have HD := Lib.hid hdone
          clear hdone hbk
          generalize sumS l k = z at *
          by_cases h4 : 4096 < z
          · have e4 : decide ((4096 : Int) < (z : Int)) = true := by simp; omega
            go_wp2
            go_ret
            exact ⟨_, rfl, rfl, fun h => by cases h⟩
          · have e4 : decide ((4096 : Int) < (z : Int)) = false := by simp; omega
            go_wp2
            go_ret
            exact ⟨_, rfl, rfl, fun _ => ⟨by omega, HD.out (by omega)⟩⟩
end Go.Proofs.Ytcdbbdjabccjdaa
