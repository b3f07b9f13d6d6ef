/- Slices of structs that came in: what a walk is told of them (the first block is the guide's own, to be copied). -/
import Derived.Test.YtnnpahjopfkchaaWords
import Derived.Deep.Slices
import Derived.Deep.Fields
import Derived.ChangeSame
set_option linter.unusedVariables false
set_option linter.unusedSimpArgs false
set_option linter.unusedSectionVars false
namespace Go.Proofs.Ytnnpahjopfkchaa
open Go.RowKit Go.ChangeShapes Go.WideShapes Go.Deep

section
variable {H : Type} {enc : TypeId × Value → H} {P : Program} {w : World} {base : Nat} {spare : Nat → Bool} {held : Bool}
theorem open_slice_fields {t e : TypeId} {fs : Array Field} {fuel : Nat} {cs : List Value} {x : DataW H × List MemPlace} (ht : P.underlying t = some (.slice e)) (he : P.underlying e = some (.struct fs))
    (hone : oneCellFields P fs = true) (hC : P.cellsOf e = fs.size) (h : DataW.trod enc P w base spare held fuel t cs = some x) :
    (cs = [.slice none 0 0] ∧ x = (.nil, [])) ∨
    ∃ (a : Addr) (len cap m : Nat) (D : Nat → DataW H) (Pl : Nat → List MemPlace), cs = [.slice (some a) len cap] ∧ base ≤ a.block ∧ len ≤ cap ∧ cap ≤ maxLen ∧ m = (if spare a.block then cap else len) ∧
      x = (.slice ((List.range len).map D) ((List.range (m - len)).map fun j => D (len + j)), MemPlace.row a (m * fs.size) ++ (List.range m).flatMap Pl) ∧
      ∀ i, i < m → ∃ (ys : List (DataW H × List MemPlace)) (n : Nat), D i = .agg (ys.map (·.1)) ∧ Pl i = ys.flatMap (·.2) ∧ ys.length = fs.size ∧
        ∀ (j : Nat) (f : Field), fs[j]? = some f → ∃ (v : Value) (y : DataW H × List MemPlace), w.cell? (a.add (i * fs.size + j)) = some v ∧ ys[j]? = some y ∧ DataW.trod enc P w base spare held n f.type [v] = some y := by
  rcases open_slice ht h with h0 | ⟨a, len, cap, m, n, D, Pl, hcs, hb, hl, hm, hmm, hx, hi⟩
  · exact .inl h0
  · refine .inr ⟨a, len, cap, m, D, Pl, hcs, hb, hl, hm, hmm, by rw [hC] at hx; exact hx, fun i him => ?_⟩
    obtain ⟨cs', hc, ht'⟩ := hi i him
    rw [hC] at hc
    obtain ⟨ys, n', hn', hy, hlen, hyl, hf⟩ := DataW.trod_struct he ht'
    obtain ⟨_, hcl, hat⟩ := World.cells?_some hc
    simp only [Prod.mk.injEq] at hy
    refine ⟨ys, n', hy.1, hy.2, hyl, fun j f hj => ?_⟩
    obtain ⟨ho, hk⟩ := hone_of hone j f hj
    have hjl : j < fs.size := (Array.getElem?_eq_some_iff.1 hj).1
    have hcell := hat j hjl
    have hv : cs'[j]? = some (cs'[j]'(by omega)) := List.getElem?_eq_getElem (by omega)
    have h1 := hf j f hj
    rw [ho, hk] at h1
    have hone' : (cs'.drop j).take 1 = [cs'[j]'(by omega)] := by
      rw [List.drop_eq_getElem_cons (by omega)]
      rfl
    rw [hone'] at h1
    have hys : ys[j]? = some (ys[j]'(by omega)) := List.getElem?_eq_getElem (by omega)
    refine ⟨_, _, ?_, hys, h1.trans hys⟩
    rw [← Go.Deep.add_add, hcell, hv]
end

/-- a field's kind: an integer kind, a bool (true), a string (false) -/
def fieldOk : Sum IntKind Bool → Value → Prop
  | .inl k, v => ∃ n, v = .int k n ∧ (Lit.int k n).wf = true
  | .inr true, v => ∃ b, v = .bool b
  | .inr false, v => ∃ s, v = .string s ∧ s.size ≤ maxLen
/-- a slice of structs of one-cell fields: for every element and every field the cell, and what it holds -/
def StrRows (w : World) (ks : List (Sum IntKind Bool)) (a : Option Addr) (len : Nat) : Prop :=
  len ≤ maxLen ∧ ∀ i, i < len → ∃ b off, a = some ⟨b, off, none⟩ ∧ b < w.heap.size ∧ ∀ j k, ks[j]? = some k → ∃ v, w.cell? ⟨b, off + i * ks.length + j, none⟩ = some v ∧ fieldOk k v

theorem addr_add0 (a : Addr) : a.add 0 = a := by simp [Addr.add]
theorem StrRows.below {w w' : World} {ks : List (Sum IntKind Bool)} {a : Option Addr} {len : Nat} (h : StrRows w ks a len) (hb : Below w.heap.size w w') : StrRows w' ks a len := by
  refine ⟨h.1, fun i hi => ?_⟩
  obtain ⟨b, off, hx, hl, hc⟩ := h.2 i hi
  refine ⟨b, off, hx, Nat.lt_of_lt_of_le hl hb.size, fun j k hk => ?_⟩
  obtain ⟨v, hv, ho⟩ := hc j k hk
  exact ⟨v, (hb.cell hl).trans hv, ho⟩

def kindDesc : Sum IntKind Bool → TypeDesc → Bool
  | .inl k, .int k' => decide (k = k')
  | .inr true, .bool => true
  | .inr false, .string => true
  | _, _ => false
def kindsOk (P : Program) (ks : List (Sum IntKind Bool)) (fs : List Field) : Bool :=
  (ks.length == fs.length) && (ks.zip fs).all fun kf => match P.underlying kf.2.type with
    | some d => kindDesc kf.1 d
    | none => false
section
variable {H : Type} {enc : TypeId × Value → H} {P : Program} {w : World} {base : Nat} {spare : Nat → Bool} {held : Bool}
theorem field_ok {k : Sum IntKind Bool} {t : TypeId} {v : Value} {n : Nat} {y : DataW H × List MemPlace} (hk : (match P.underlying t with | some d => kindDesc k d | none => false) = true)
    (h : DataW.trod enc P w base spare held n t [v] = some y) : fieldOk k v := by
  cases hu : P.underlying t with
  | none => rw [hu] at hk; simp at hk
  | some d =>
    rw [hu] at hk
    simp only at hk
    cases k with
    | inl k => cases d with
      | int k' =>
        simp only [kindDesc, decide_eq_true_eq] at hk
        subst hk
        obtain ⟨m, hv, _, hw⟩ := DataW.trod_int hu h
        exact ⟨m, by simpa using hv, hw⟩
      | _ => simp [kindDesc] at hk
    | inr b => cases b with
      | true => cases d with
        | bool =>
          obtain ⟨m, hv, _⟩ := DataW.trod_bool hu h
          exact ⟨m, by simpa using hv⟩
        | _ => simp [kindDesc] at hk
      | false => cases d with
        | string =>
          obtain ⟨m, hv, _, hw⟩ := DataW.trod_string hu h
          exact ⟨m, by simpa using hv, hw⟩
        | _ => simp [kindDesc] at hk

theorem str_rows {t e : TypeId} {fs : Array Field} {ks : List (Sum IntKind Bool)} {a : Option Addr} {len cap : Nat} {d : DataW H} {p : List MemPlace} (ht : P.underlying t = some (.slice e)) (he : P.underlying e = some (.struct fs))
    (hone : oneCellFields P fs = true) (hC : P.cellsOf e = fs.size) (hks : kindsOk P ks fs.toList = true) (h0 : 0 < fs.size) (h : DataW.Trod enc P w base (fun _ => true) held t (.slice a len cap) d p) : StrRows w ks a len := by
  obtain ⟨fuel, hf⟩ := h
  unfold kindsOk at hks
  rw [Bool.and_eq_true, beq_iff_eq, List.all_eq_true] at hks
  obtain ⟨hl, hall⟩ := hks
  have hls : ks.length = fs.size := by simpa using hl
  rcases open_slice_fields ht he hone hC hf with ⟨hcs, _⟩ | ⟨x, l, c, m, D, Pl, hcs, _, hle, hm, hmm, _, hi⟩
  · simp [Value.cells] at hcs
    obtain ⟨rfl, rfl, rfl⟩ := hcs
    exact ⟨Nat.zero_le _, fun i hi => absurd hi (by omega)⟩
  · simp [Value.cells] at hcs
    obtain ⟨rfl, rfl, rfl⟩ := hcs
    simp only [if_true] at hmm
    refine ⟨Nat.le_trans hle hm, fun i hil => ?_⟩
    obtain ⟨ys, n, _, _, hyl, hfd⟩ := hi i (by omega)
    obtain ⟨b, off, spot⟩ := x
    have hspot : spot = none := by
      obtain ⟨_, _, _, _, _, hfd0⟩ := hi 0 (by omega)
      obtain ⟨v, y, hc, _, _⟩ := hfd0 0 fs[0] (by simp [h0])
      have := World.cell?_spot hc
      simpa [Addr.add] using this
    subst hspot
    have plain : ∀ n, (⟨b, off, none⟩ : Addr).add n = ⟨b, off + n, none⟩ := fun n => by unfold Addr.add; split <;> simp_all
    refine ⟨b, off, rfl, ?_, fun j k hk => ?_⟩
    · obtain ⟨v, y, hc, _, _⟩ := hfd 0 fs[0] (by simp [h0])
      have := cell_lt hc
      rwa [block_of_add] at this
    · have hjl : j < ks.length := (List.getElem?_eq_some_iff.1 hk).1
      obtain ⟨v, y, hc, _, hy⟩ := hfd j fs[j] (by simp [← hls, hjl])
      refine ⟨v, ?_, ?_⟩
      · rw [plain] at hc; rw [Nat.add_assoc, hls]; exact hc
      · have := hall (k, fs[j]) (by
          rw [List.mem_iff_getElem?]
          refine ⟨j, ?_⟩
          rw [List.getElem?_zip_eq_some]
          exact ⟨hk, by simp [← hls, hjl]⟩)
        exact field_ok this hy
end
end Go.Proofs.Ytnnpahjopfkchaa
