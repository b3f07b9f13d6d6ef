/- '[]byte(s)' and 'string(b)': what a walk meets, the new world a letter. -/
import Derived.Test.YtimepplfaaddeaaBase
import Derived.Laws.IdiomStrings
import Derived.Laws.BytesArg
import Derived.Lib.ConvBytes
import Derived.Laws.NewBlocks
import Derived.Laws.BitsAllLaws
set_option linter.unusedVariables false
set_option linter.unusedSimpArgs false
namespace Go.Proofs.Ytimepplfaaddeaa
open Go.RowKit

theorem run_bytes_new (w : World) (s : ByteArray) : ∃ (W1 : World) (cap : Nat),
    (convert 9 46 (.string s)).run Try.prog w = .ok (.slice (some ⟨w.heap.size, 0, none⟩) s.size cap) W1 ∧ Below w.heap.size w W1 ∧ W1.heap.size = w.heap.size + 1 ∧
    (∀ j (h : j < s.size), W1.cell? ⟨w.heap.size, j, none⟩ = some (.int .u8 (s[j].toNat : Int))) ∧ (∀ j, j < s.size → W1.frozen? ⟨w.heap.size, j, none⟩ = false) := by
  refine ⟨_, _, Lib.run_convert_string_bytes (P := Try.prog) w 9 46 5 s Try.underlying9 Try.underlying46 Try.underlying5, ?_, Lib.bytesWorld_size .., ?_, ?_⟩
  · refine ⟨?_, ?_, ?_, by rw [Lib.bytesWorld_size]; omega, fun i hi => Lib.bytesWorld_at_old w 5 s i hi⟩
    all_goals unfold Lib.bytesWorld World.freeze; split <;> rfl
  · intro j h
    rw [Lib.bytesWorld_cell w 5 s j h]
    congr 2
    have hl : j < s.data.toList.length := by simpa using h
    simp only [List.getD, List.getElem?_eq_getElem hl, Option.getD_some]
    rfl
  · intro j h
    simp only [World.frozen?, Lib.bytesWorld_at_new]
    have : (Lib.bytesCells w 5 s).size ≥ s.size := by simp [Lib.bytesCells]
    simp
    omega
/-- 'string(b)' where the cells are the bytes l -/
theorem run_bytes_back (w : World) (a : Addr) (n cap : Nat) (l : List UInt8) (hn : n = l.length) (hc : ∀ j (hj : j < l.length), w.cell? (a.add j) = some (.int .u8 (l[j].toNat : Int))) :
    (convert 46 9 (.slice (some a) n cap)).run Try.prog w = .ok (.string ⟨l.toArray⟩) w := by
  subst hn
  exact run_convert_bytes_back w 46 9 5 a cap l Try.underlying46 Try.underlying5 Try.underlying9 hc

theorem add_plain (b o j : Nat) : (⟨b, o, none⟩ : Addr).add j = ⟨b, o + j, none⟩ := by unfold Addr.add; split <;> simp_all

theorem u8_xor_one (c : UInt8) : bits .xor .u8 (c.toNat : Int) 1 = (((c ^^^ 1 : UInt8).toNat : Nat) : Int) := by
  have h := u8_xor_nat c.toNat 1 c.toNat_lt (by decide)
  rw [show ((1 : Nat) : Int) = 1 from rfl] at h
  rw [h]
  rfl
/-- '[]byte(s)' where s has the bytes l -/
theorem run_bytes_list (w : World) (s : ByteArray) (l : List UInt8) (hl : s.data.toList = l) : ∃ (W1 : World) (cap : Nat),
    (convert 9 46 (.string s)).run Try.prog w = .ok (.slice (some ⟨w.heap.size, 0, none⟩) l.length cap) W1 ∧ Below w.heap.size w W1 ∧ W1.heap.size = w.heap.size + 1 ∧
    (∀ j (h : j < l.length), W1.cell? ⟨w.heap.size, j, none⟩ = some (.int .u8 (l[j].toNat : Int))) ∧ (∀ j, j < l.length → W1.frozen? ⟨w.heap.size, j, none⟩ = false) := by
  obtain ⟨W1, cap, h1, h2, h3, h4, h5⟩ := run_bytes_new w s
  have e : s.size = l.length := by rw [← hl]; simp
  rw [e] at h1 h5
  refine ⟨W1, cap, h1, h2, h3, fun j h => ?_, h5⟩
  rw [h4 j (by omega)]
  have : s[j]'(by omega) = l[j] := by
    subst hl
    rfl
  rw [this]

theorem u8_xor_ne (c : UInt8) : c ≠ c ^^^ 1 := by
  intro e
  have := congrArg (fun x : UInt8 => x.toNat.testBit 0) e
  simp only [UInt8.toNat_xor, Nat.testBit_xor] at this
  simp at this
end Go.Proofs.Ytimepplfaaddeaa
