/- Layer 11 (ports): what it is in memory; what it becomes; New, behind, May, Free, Give, Lent. -/
import Derived.Test.YtjeckahbkepnpaaSoSorted
import Derived.Test.YtjeckahbkepnpaaFlowUB
set_option linter.unusedVariables false
set_option linter.unusedSimpArgs false
namespace Go.Proofs.Ytjeckahbkepnpaa
open Go.RowKit Go.Maps Go.BigFrame

/-- lent numbers: from low to high; where the next one is sought; which are lent; from when on each is free -/
structure Po where
  low : Nat
  high : Nat
  cur : Nat
  L : Nat → Bool
  U : Nat → Int
def Po.ok (s : Po) (now : Int) (p : Nat) : Bool := !s.L p && decide (s.U p ≤ now)
def Po.nxt (s : Po) (p : Nat) : Nat := if p = s.high then s.low else p + 1
def Po.seek (s : Po) (now : Int) : Nat → Nat → Option Nat
  | 0, _ => none
  | k + 1, p => if s.ok now p = true then some p else s.seek now k (s.nxt p)
def Po.freeN (s : Po) (now : Int) : Nat → Nat → Nat
  | 0, _ => 0
  | k + 1, p => (if s.ok now p = true then 1 else 0) + s.freeN now k (p + 1)
def Po.free (s : Po) (now : Int) : Nat := s.freeN now (s.high + 1 - s.low) s.low
def Po.took (s : Po) (p : Nat) : Po := { s with L := fun x => if x = p then true else s.L x, cur := s.nxt p }
def Po.gave (s : Po) (p : Nat) (u : Int) : Po := { s with L := fun x => if x = p then false else s.L x, U := fun x => if x = p then u else s.U x }
def poCells (s : Po) (m1 m2 : Nat) : Array Value := #[.int .u16 (s.low : Int), .int .u16 (s.high : Int), .int .u16 (s.cur : Int), .map (some m1), .map (some m2)]
def poL (s : Po) (M : Lit → Option Value) : Prop := ∀ p : Nat, p < 65536 → M (.int .u16 (p : Int)) = if s.L p = true then some (.int .i64 1) else none
def poU (s : Po) (M : Lit → Option Value) : Prop := ∀ p : Nat, p < 65536 → (M (.int .u16 (p : Int))).getD (.int .i64 0) = .int .i64 (s.U p)
structure PoAt (w : World) (b m1 m2 : Nat) (s : Po) (k : Nat) : Prop where
  blk : Blk w b 42 (poCells s m1 m2)
  ml : ∃ n M, n ≤ k ∧ MapIs Try.prog 22 w m1 n M ∧ poL s M
  mu : ∃ n M, n ≤ k ∧ MapIs Try.prog 22 w m2 n M ∧ poU s M
  ne : m1 ≠ m2
  lo : 1 ≤ s.low ∧ s.low ≤ s.cur ∧ s.cur ≤ s.high ∧ s.high < 65536
theorem Blk.of_eq {w w' : World} {g : Nat} {T : TypeId} {cs : Array Value} (h : Blk w g T cs) (he : w'.heap[g]? = w.heap[g]?) : Blk w' g T cs := he.trans h
theorem MapIs.of_eq {P : Program} {k : TypeId} {w w' : World} {b n : Nat} {M : Lit → Option Value} (h : MapIs P k w b n M) (he : w'.heap[b]? = w.heap[b]?) : MapIs P k w' b n M := by
  obtain ⟨D, ⟨es, clock, h1, r⟩, h2⟩ := h
  exact ⟨D, ⟨es, clock, he.trans h1, r⟩, h2⟩
theorem key16 {n : Nat} (h : n < 65536) : keyOf Try.prog 22 (.int .u16 (n : Int)) = some (.int .u16 (n : Int)) := keyOf_int_mk Try.underlying22 (by simp [Lit.wf, IntKind.min, IntKind.max, IntKind.signed, IntKind.bits]; omega)
theorem law16 : Keyed Try.prog 22 := int_keyed Try.underlying22
theorem zeroI (w : World) : (zeroValue 3).run Try.prog w = .ok (.int .i64 0) w := by kernel_rfl
theorem zeroI64 (w : World) : (zeroValue 2).run Try.prog w = .ok (.int .i64 0) w := by kernel_rfl
section
variable {w w' : World} {b m1 m2 k : Nat} {s : Po}
theorem PoAt.keep (h : PoAt w b m1 m2 s k) (hk : ∀ i, i < w.heap.size → (i = b ∨ i = m1 ∨ i = m2) → w'.heap[i]? = w.heap[i]?) : PoAt w' b m1 m2 s k where
  blk := h.blk.of_eq (hk _ h.blk.lt (.inl rfl))
  ml := by obtain ⟨n, M, h1, h2, h3⟩ := h.ml; exact ⟨n, M, h1, h2.of_eq (hk _ h2.lt (.inr (.inl rfl))), h3⟩
  mu := by obtain ⟨n, M, h1, h2, h3⟩ := h.mu; exact ⟨n, M, h1, h2.of_eq (hk _ h2.lt (.inr (.inr rfl))), h3⟩
  ne := h.ne
  lo := h.lo
theorem PoAt.below (h : PoAt w b m1 m2 s k) (hb : Below w.heap.size w w') : PoAt w' b m1 m2 s k := h.keep fun i hi _ => hb.block i hi
theorem PoAt.out {O : Nat → Prop} (h : PoAt w b m1 m2 s k) (ho : Out O w w') (hO : ∀ i, O i → i ≠ b ∧ i ≠ m1 ∧ i ≠ m2) : PoAt w' b m1 m2 s k := h.keep fun i hi hx => ho.block i hi fun hy => by
  have := hO i hy
  rcases hx with rfl | rfl | rfl
  · exact this.1 rfl
  · exact this.2.1 rfl
  · exact this.2.2 rfl
theorem PoAt.drewN (h : PoAt w b m1 m2 s k) (n : Nat) : PoAt (w.drewN n) b m1 m2 s k := h.keep fun _ _ _ => rfl
theorem PoAt.drew (h : PoAt w b m1 m2 s k) : PoAt w.drew b m1 m2 s k := h.keep fun _ _ _ => rfl
theorem PoAt.alloc (h : PoAt w b m1 m2 s k) (o : Obj) : PoAt (w.alloc o) b m1 m2 s k := h.below ((Below.refl _ _).alloc (Nat.le_refl _) _)
theorem PoAt.look1 (h : PoAt w b m1 m2 s k) {p : Nat} (hp : p < 65536) : (Instr.lookup 40 (.map (some m1)) (.int .u16 (p : Int)) false).run Try.prog w = .ok (.int .i64 (if s.L p = true then 1 else 0)) w := by
  obtain ⟨n, M, _, h1, h2⟩ := h.ml
  rw [h1.look law16 Try.underlying40 (zeroI w) (key16 hp), h2 p hp]
  by_cases e : s.L p = true
  · rw [if_pos e, if_pos e]; rfl
  · rw [if_neg e, if_neg e]; rfl
theorem PoAt.look2 (h : PoAt w b m1 m2 s k) {p : Nat} (hp : p < 65536) : (Instr.lookup 29 (.map (some m2)) (.int .u16 (p : Int)) false).run Try.prog w = .ok (.int .i64 (s.U p)) w := by
  obtain ⟨n, M, _, h1, h2⟩ := h.mu
  rw [h1.look law16 Try.underlying29 (zeroI64 w) (key16 hp), h2 p hp]
end
theorem may_yes (t : Int) (h0 : 0 ≤ t) (h1 : t ≤ 17592186044416) (w : World) : Calls Try.prog 11 #[.int .i64 t] w fun e w' => e = .returned (.bool true) ∧ w' = w := by
  go_enter Try.func11, Try.ntmps11
  go_wp2
  go_ret
  exact ⟨rfl, rfl⟩
theorem may_no (t : Int) (h0 : ¬ (0 ≤ t ∧ t ≤ 17592186044416)) (w : World) : Calls Try.prog 11 #[.int .i64 t] w fun e w' => e = .returned (.bool false) ∧ w' = w := by
  by_cases h1 : 0 ≤ t
  · have h2 : ¬ t ≤ 17592186044416 := fun h => h0 ⟨h1, h⟩
    clear h0
    go_enter Try.func11, Try.ntmps11
    go_wp2
    go_ret
    exact ⟨rfl, rfl⟩
  · clear h0
    go_enter Try.func11, Try.ntmps11
    go_wp2
    go_ret
    exact ⟨rfl, rfl⟩
theorem behind_any {w : World} {b m1 m2 : Nat} {s : Po} (h : Blk w b 42 (poCells s m1 m2)) (hh : s.high < 65536) (p : Nat) (hp : p ≤ s.high) :
    Calls Try.prog 12 #[.pointer (some ⟨b, 0, none⟩), .int .u16 (p : Int)] w fun e w' => e = .returned (.int .u16 (s.nxt p : Nat)) ∧ w' = w := by
  have hc0 := h.cell 0
  have hc1 := h.cell 1
  simp [poCells] at hc0 hc1
  unfold Po.nxt
  obtain ⟨lo, hlo⟩ : ∃ x, x = s.low := ⟨_, rfl⟩
  obtain ⟨hi, hhi⟩ : ∃ x, x = s.high := ⟨_, rfl⟩
  rw [← hlo] at hc0 ⊢
  rw [← hhi] at hc1 hh hp ⊢
  clear hlo hhi h
  by_cases e : p = hi
  · subst e
    rw [if_pos rfl]
    go_enter Try.func12, Try.ntmps12
    go_wp2
    go_ret
    exact ⟨rfl, rfl⟩
  · rw [if_neg e]
    have e1 : ((p : Int) == (hi : Int)) = false := by simp; omega
    go_enter Try.func12, Try.ntmps12
    go_wp2
    go_ret
    exact ⟨rfl, rfl⟩
end Go.Proofs.Ytjeckahbkepnpaa
