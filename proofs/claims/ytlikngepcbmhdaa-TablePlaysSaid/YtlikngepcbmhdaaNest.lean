/- Structs within structs, by value, opened: what each one-cell part is. -/
import Derived.Test.YtlikngepcbmhdaaBase
import Derived.ChangeArms
set_option linter.unusedVariables false
set_option linter.unusedSimpArgs false
namespace Go.Proofs.Ytlikngepcbmhdaa
open Go.RowKit Go.ChangeShapes Go.WideShapes

section
variable {H : Type} {enc : TypeId × Value → H} {P : Program} {w : World} {base : Nat} {spare : Nat → Bool} {held : Bool}
/-- a list of cells reads as a value of type t -/
def ReadsAs (enc : TypeId × Value → H) (P : Program) (w : World) (base : Nat) (spare : Nat → Bool) (held : Bool) (t : TypeId) (cs : List Value) : Prop := ∃ n y, DataW.trod enc P w base spare held n t cs = some y
theorem ReadsAs.of {t : TypeId} {v : Value} {d : DataW H} {p : List MemPlace} (h : DataW.Trod enc P w base spare held t v d p) : ReadsAs enc P w base spare held t v.cells.toList := by
  obtain ⟨n, hn⟩ := h
  exact ⟨n, _, hn⟩
theorem ReadsAs.part {t : TypeId} {fs : Array Field} {cs : List Value} (h : ReadsAs enc P w base spare held t cs) (ht : P.underlying t = some (.struct fs)) (i : Nat) {f : Field} (hi : fs[i]? = some f) {k : Nat} (hk : P.cellsOf f.type = k) {ds : List Value} (hd : (cs.drop f.offset).take k = ds) :
    ReadsAs enc P w base spare held f.type ds := by
  obtain ⟨n, y, hn⟩ := h
  obtain ⟨xs, m, _, _, _, hlen, hg⟩ := DataW.trod_struct ht hn
  have h1 := hg i f hi
  rw [hk, hd] at h1
  have hlt : i < xs.length := by
    have := (Array.getElem?_eq_some_iff.1 hi).1
    omega
  exact ⟨m, xs[i], by rw [h1]; exact List.getElem?_eq_getElem hlt⟩
theorem ReadsAs.int {t : TypeId} {k : IntKind} {c : Value} (h : ReadsAs enc P w base spare held t [c]) (ht : P.underlying t = some (.int k)) : ∃ a, c = .int k a ∧ (Lit.int k a).wf = true := by
  obtain ⟨n, y, hn⟩ := h
  obtain ⟨a, e, _, hw⟩ := DataW.trod_int ht hn
  injection e with e
  exact ⟨a, e, hw⟩
theorem ReadsAs.bool {t : TypeId} {c : Value} (h : ReadsAs enc P w base spare held t [c]) (ht : P.underlying t = some .bool) : ∃ b, c = .bool b := by
  obtain ⟨n, y, hn⟩ := h
  obtain ⟨b, e, _⟩ := DataW.trod_bool ht hn
  injection e with e
  exact ⟨b, e⟩
theorem ReadsAs.string {t : TypeId} {c : Value} (h : ReadsAs enc P w base spare held t [c]) (ht : P.underlying t = some .string) : ∃ s : ByteArray, c = .string s ∧ s.size ≤ maxLen := by
  obtain ⟨n, y, hn⟩ := h
  obtain ⟨s, e, _, hw⟩ := DataW.trod_string ht hn
  injection e with e
  exact ⟨s, e, hw⟩
end
end Go.Proofs.Ytlikngepcbmhdaa
