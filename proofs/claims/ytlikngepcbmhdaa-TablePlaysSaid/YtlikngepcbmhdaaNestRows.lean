/- Slices of structs that hold structs: each element's cells, and what they read as. -/
import Derived.Test.YtlikngepcbmhdaaNest
import Derived.Test.YtlikngepcbmhdaaStructs
set_option linter.unusedVariables false
set_option linter.unusedSimpArgs false
namespace Go.Proofs.Ytlikngepcbmhdaa
open Go.RowKit Go.ChangeShapes Go.WideShapes Go.Deep

section
variable {H : Type} {enc : TypeId × Value → H} {P : Program} {w : World} {base : Nat} {held : Bool}
theorem nest_rows {t e : TypeId} {C : Nat} {a : Option Addr} {len cap : Nat} {d : DataW H} {p : List MemPlace} (ht : P.underlying t = some (.slice e)) (hC : P.cellsOf e = C) (h0 : 0 < C)
    (h : DataW.Trod enc P w base (fun _ => true) held t (.slice a len cap) d p) : len ≤ maxLen ∧ ∀ i, i < len → ∃ b off cs, a = some ⟨b, off, none⟩ ∧ b < w.heap.size ∧ cs.length = C ∧ (∀ j, j < C → w.cell? ⟨b, off + i * C + j, none⟩ = cs[j]?) ∧ ReadsAs enc P w base (fun _ => true) held e cs := by
  obtain ⟨fuel, hf⟩ := h
  rcases open_slice ht hf with h1 | ⟨x, l, c, m, n, D, Pl, hcs, hb, hl, hm, hmm, hx, hi⟩
  · obtain ⟨hcs, _⟩ := h1
    simp [Value.cells] at hcs
    obtain ⟨rfl, rfl, rfl⟩ := hcs
    exact ⟨Nat.zero_le _, fun i hi => absurd hi (by omega)⟩
  · simp [Value.cells] at hcs
    obtain ⟨rfl, rfl, rfl⟩ := hcs
    simp only [if_true] at hmm
    refine ⟨Nat.le_trans hl hm, fun i hil => ?_⟩
    obtain ⟨cs', hc, ht'⟩ := hi i (by omega)
    rw [hC] at hc
    obtain ⟨_, hcl, hat⟩ := World.cells?_some hc
    obtain ⟨b, off, spot⟩ := x
    have hspot : spot = none := by
      obtain ⟨cs0, hc0, _⟩ := hi 0 (by omega)
      rw [hC] at hc0
      obtain ⟨_, hcl0, hat0⟩ := World.cells?_some hc0
      have h2 := hat0 0 (by omega)
      rw [List.getElem?_eq_getElem (by omega)] at h2
      have := World.cell?_spot h2
      simpa [Addr.add] using this
    subst hspot
    have plain : ∀ n, (⟨b, off, none⟩ : Addr).add n = ⟨b, off + n, none⟩ := fun n => by unfold Addr.add; split <;> simp_all
    refine ⟨b, off, cs', rfl, ?_, hcl, fun j hj => ?_, ⟨_, _, ht'⟩⟩
    · have h2 := hat 0 (by omega)
      rw [List.getElem?_eq_getElem (by omega)] at h2
      have := cell_lt h2
      rwa [block_of_add, block_of_add] at this
    · have h2 := hat j hj
      rw [← h2, Go.Deep.add_add, plain, Nat.add_assoc]
end
end Go.Proofs.Ytlikngepcbmhdaa
