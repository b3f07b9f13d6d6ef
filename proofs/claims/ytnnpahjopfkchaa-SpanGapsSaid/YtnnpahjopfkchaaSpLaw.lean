/- What the laws of spans share: a handed list as spans; long; alive; what is told in one way. -/
import Derived.Test.YtnnpahjopfkchaaSpAlive2
import Derived.Test.YtnnpahjopfkchaaStructs
set_option linter.unusedVariables false
set_option linter.unusedSimpArgs false
namespace Go.Proofs.Ytnnpahjopfkchaa
open Go.RowKit Go.BigFrame

theorem sp_open {W : World} {a : Option Addr} : ∀ {n : Nat}, (∀ i, i < n → ∃ b off, a = some ⟨b, off, none⟩ ∧ b < W.heap.size ∧ ∃ x y : Nat, x < 18446744073709551616 ∧ y < 18446744073709551616 ∧ W.cell? ⟨b, off + i * 2, none⟩ = some (.int .u64 (x : Int)) ∧ W.cell? ⟨b, off + i * 2 + 1, none⟩ = some (.int .u64 (y : Int))) →
    ∃ l : List Sp, l.length = n ∧ U64 l ∧ ∀ i (hi : i < l.length), ∃ b off, a = some ⟨b, off, none⟩ ∧ b < W.heap.size ∧ W.cell? ⟨b, off + i * 2, none⟩ = some (.int .u64 (l[i].1 : Int)) ∧ W.cell? ⟨b, off + i * 2 + 1, none⟩ = some (.int .u64 (l[i].2 : Int))
  | 0, _ => ⟨[], rfl, (fun q hq => nomatch hq), fun i hi => absurd hi (Nat.not_lt_zero _)⟩
  | n + 1, h => by
    obtain ⟨l, h1, h2, h3⟩ := sp_open (n := n) fun i hi => h i (by omega)
    obtain ⟨b, off, e, hb, x, y, hx, hy, c0, c1⟩ := h n (by omega)
    refine ⟨l ++ [(x, y)], by simp [h1], fun q hq => ?_, fun i hi => ?_⟩
    · rcases List.mem_append.1 hq with hq | hq
      · exact h2 q hq
      · rw [List.mem_singleton.1 hq]; exact ⟨hx, hy⟩
    · by_cases hin : i < l.length
      · rw [List.getElem_append_left hin]; exact h3 i hin
      · have : i = n := by simp at hi; omega
        subst this
        rw [List.getElem_append_right (by omega)]
        simp only [h1, Nat.sub_self, List.getElem_cons_zero]
        exact ⟨b, off, e, hb, c0, c1⟩
theorem u64_nat {n : Int} (h : (Lit.int .u64 n).wf = true) : ∃ x : Nat, n = (x : Int) ∧ x < 18446744073709551616 := by
  obtain ⟨h0, h1⟩ := bounds_u64 h
  exact ⟨n.toNat, by omega, by omega⟩
theorem sp_rows {W : World} {a : Option Addr} {len : Nat} (h : StrRows W [.inl .u64, .inl .u64] a len) : ∃ l : List Sp, l.length = len ∧ U64 l ∧ SpAt W.heap.size W a l := by
  obtain ⟨l, h1, h2, h3⟩ := sp_open (W := W) (a := a) (n := len) fun i hi => by
    obtain ⟨b, off, e, hb, hc⟩ := h.2 i hi
    obtain ⟨v, hv, n, rfl, hn⟩ := hc 0 _ rfl
    obtain ⟨v', hv', n', rfl, hn'⟩ := hc 1 _ rfl
    obtain ⟨x, rfl, hx⟩ := u64_nat hn
    obtain ⟨y, rfl, hy⟩ := u64_nat hn'
    exact ⟨b, off, e, hb, x, y, hx, hy, by simpa using hv, by simpa using hv'⟩
  refine ⟨l, h1, h2, ?_⟩
  cases hl : l with
  | nil => exact .inl rfl
  | cons q m =>
    rw [← hl]
    have h0 : 0 < l.length := by rw [hl]; simp
    obtain ⟨b, off, e, hb, -⟩ := h3 0 h0
    refine .inr ⟨b, off, e, hb, fun i hi => ?_⟩
    obtain ⟨b', off', e', -, c0, c1⟩ := h3 i hi
    rw [e] at e'
    simp only [Option.some.injEq, Addr.mk.injEq, and_true] at e'
    obtain ⟨rfl, rfl⟩ := e'
    exact ⟨c0, c1⟩
theorem setR_len (add : Bool) (l : List Sp) (x : Sp) : (setR add l x).1.length ≤ l.length + 1 := by
  unfold setR
  split
  · simp
  · rename_i hm
    split
    · simp
    · split
      · simp
      · simp only [Bool.not_eq_false] at hm
        exact setS_len ((mayB_iff l).1 hm).1 (by omega)
theorem long_any (a : Option Addr) (n cap : Nat) (w : World) : Calls Try.prog 8 #[.slice a n cap] w fun e w' => e = .returned (.bool (decide ((n : Int) > 300))) ∧ w = w' := by
  go_enter Try.func8, Try.ntmps8
  go_wp2
  go_ret
  exact ⟨rfl, rfl⟩
end Go.Proofs.Ytnnpahjopfkchaa
