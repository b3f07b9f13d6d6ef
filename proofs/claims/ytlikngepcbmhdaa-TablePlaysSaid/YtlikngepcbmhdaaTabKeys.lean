/- The table's keys: numbers, and pairs of addresses: how they read. -/
import Derived.Test.YtlikngepcbmhdaaMap
import Derived.DeepKeys4
import Derived.MapViews
set_option linter.unusedVariables false
set_option linter.unusedSimpArgs false
namespace Go.Proofs.Ytlikngepcbmhdaa
open Go.ChangeShapes Go.WideShapes Go.ChangeAt Go.RowKit Go.Maps

/-- a pair of addresses -/
structure Pr where
  a : Int
  b : Int
  c : Int
  d : Int
  deriving DecidableEq
def Pr.wf (p : Pr) : Prop := (Lit.int .u32 p.a).wf = true ∧ (Lit.int .u16 p.b).wf = true ∧ (Lit.int .u32 p.c).wf = true ∧ (Lit.int .u16 p.d).wf = true
def pairV (p : Pr) : Value := .agg #[.int .u32 p.a, .int .u16 p.b, .int .u32 p.c, .int .u16 p.d]
theorem pairV_inj {p q : Pr} (h : pairV p = pairV q) : p = q := by
  cases p; cases q
  simp [pairV] at h
  obtain ⟨rfl, rfl, rfl, rfl⟩ := h
  rfl
theorem laid0 : laidOutB Try.prog = true := by kernel_rfl
theorem rowPair : (34 : TypeId) < Try.prog.types.size := of_decide_eq_true (by kernel_rfl)
theorem lawPair : Keyed Try.prog 34 := Keyed.of_law (deep_law_laid laid0 (m := 3) (by omega) rowPair (by kernel_rfl) (by rw [Try.underlying34]))
theorem law64 : Keyed Try.prog 26 := int_keyed Try.underlying26
theorem zero64 (w : World) : (zeroValue 26).run Try.prog w = .ok (.int .u64 0) w := by kernel_rfl
theorem deepPair : Try.prog.keyTypeAt (Try.prog.types.size + 1) 34 = true := by kernel_rfl
theorem cellsPair : Try.prog.cellsOf 34 = 4 := by kernel_rfl
theorem cellsAddr : Try.prog.cellsOf 32 = 2 := by kernel_rfl
theorem cells32 : Try.prog.cellsOf 29 = 1 := by kernel_rfl
theorem cells16 : Try.prog.cellsOf 30 = 1 := by kernel_rfl
theorem formedPair {v : Value} {p : Pr} (h : v = pairV p) : v.formed Try.prog 34 = true := by
  subst h
  simp [pairV, Value.formed, Try.underlying34, cellsPair]
theorem lits_addr (n : Nat) {a b : Int} (ha : (Lit.int .u32 a).wf = true) (hb : (Lit.int .u16 b).wf = true) : Try.prog.keyLits (n + 2) 32 [.int .u32 a, .int .u16 b] = some [.int .u32 a, .int .u16 b] := by
  unfold Program.keyLits
  rw [Try.underlying32]
  simp [cellsAddr, cells32, cells16, Program.keyLits, Try.underlying29, Try.underlying30, ha, hb]
theorem lits_pair (n : Nat) {p : Pr} (h : p.wf) : Try.prog.keyLits (n + 3) 34 [.int .u32 p.a, .int .u16 p.b, .int .u32 p.c, .int .u16 p.d] = some [.int .u32 p.a, .int .u16 p.b, .int .u32 p.c, .int .u16 p.d] := by
  unfold Program.keyLits
  rw [Try.underlying34]
  simp [cellsPair, cellsAddr, lits_addr n h.1 h.2.1, lits_addr n h.2.2.1 h.2.2.2]
def pairL (p : Pr) : Lit := .string (keyBytes [.int .u32 p.a, .int .u16 p.b, .int .u32 p.c, .int .u16 p.d])
theorem key_pair {p : Pr} (h : p.wf) : keyOf Try.prog 34 (pairV p) = some (pairL p) := by
  unfold keyOf
  rw [Try.underlying34]
  obtain ⟨m, hm⟩ : ∃ m, Try.prog.types.size + 1 = m + 3 := ⟨Try.prog.types.size - 2, by have : (10 : Nat) < Try.prog.types.size := of_decide_eq_true (by kernel_rfl); omega⟩
  have hd := deepPair
  have e := lits_pair m h
  rw [← hm] at e
  have hf := formedPair (v := pairV p) rfl
  simp only [show Try.prog.keyType 34 = true from hd, hf, Bool.and_self, if_true]
  show Option.map _ (Try.prog.keyLits _ _ [.int .u32 p.a, .int .u16 p.b, .int .u32 p.c, .int .u16 p.d]) = _
  rw [e]
  rfl
theorem pairL_inj {p q : Pr} (hp : p.wf) (hq : q.wf) (h : pairL p = pairL q) : p = q :=
  pairV_inj (lawPair.inj (key_pair hp) (by rw [h]; exact key_pair hq))
theorem key_u64 {n : Nat} (h : n < 18446744073709551616) : keyOf Try.prog 26 (.int .u64 n) = some (.int .u64 n) := keyOf_int_mk Try.underlying26 (by simp [Lit.wf, IntKind.min, IntKind.max, IntKind.signed, IntKind.bits]; omega)
theorem key_u64i {n : Int} (h0 : 0 ≤ n) (h : n < 18446744073709551616) : keyOf Try.prog 26 (.int .u64 n) = some (.int .u64 n) := by
  obtain ⟨m, rfl⟩ := Int.eq_ofNat_of_zero_le h0
  exact key_u64 (by omega)
theorem eq_pair (p q : Pr) (W : World) : (binOp .eql 34 (.agg #[.int .u32 p.a, .int .u16 p.b, .int .u32 p.c, .int .u16 p.d]) (.agg #[.int .u32 q.a, .int .u16 q.b, .int .u32 q.c, .int .u16 q.d])).run Try.prog W = .ok (.bool (decide (p = q))) W := by
  by_cases h : p = q
  · subst h
    simp only [decide_true]
    go_simp
  · simp only [h, decide_false]
    have HH := Lib.hid h
    clear h
    go_simp
    intro f0 f1 f2 f3
    exact absurd (by cases p; cases q; simp_all) HH.out
theorem neq_pair (p q : Pr) (W : World) : (binOp .neq 34 (.agg #[.int .u32 p.a, .int .u16 p.b, .int .u32 p.c, .int .u16 p.d]) (.agg #[.int .u32 q.a, .int .u16 q.b, .int .u32 q.c, .int .u16 q.d])).run Try.prog W = .ok (.bool (!decide (p = q))) W := by
  by_cases h : p = q
  · subst h
    simp only [decide_true, Bool.not_true]
    go_simp
  · simp only [h, decide_false, Bool.not_false]
    have HH := Lib.hid h
    clear h
    go_simp
    intro f0 f1 f2 f3
    exact absurd (by cases p; cases q; simp_all) HH.out
end Go.Proofs.Ytlikngepcbmhdaa
