/- Slices of structs that came in, some of whose fields are slices of integers: what a walk is told of them. -/
import Derived.Test.YtbiaphichaomaaaStructs
import Derived.ChangeSlices
set_option linter.unusedVariables false
set_option linter.unusedSimpArgs false
set_option linter.unusedSectionVars false
namespace Go.Proofs.Ytbiaphichaomaaa
open Go.RowKit Go.ChangeShapes Go.WideShapes Go.Deep

/-- a field: as before (a string within reach), or a slice of integers (within reach) -/
def fieldOk2 (w : World) : Sum (Sum IntKind Bool) IntKind → Value → Prop
  | .inl (.inl k), v => ∃ n, v = .int k n ∧ (Lit.int k n).wf = true
  | .inl (.inr true), v => ∃ b, v = .bool b
  | .inl (.inr false), v => ∃ s, v = .string s ∧ s.size ≤ 140737488351232
  | .inr k, v => ∃ A n c zs, v = .slice A n c ∧ IsRow k w A n c zs ∧ n ≤ 140737488351232
theorem mem_all {H : Type} {P : Program} {e : TypeId} {x : Nat} {d : DataW H} (hx : x ∈ d.weights P e) : ∀ {l : List (DataW H)}, d ∈ l → x ∈ DataW.weightsAll P e l
  | a :: l, h => by
    simp only [DataW.weightsAll, List.mem_append]
    rcases List.mem_cons.1 h with rfl | h
    · exact .inl hx
    · exact .inr (mem_all hx h)
theorem mem_each {H : Type} {P : Program} {t : TypeId} {x : Nat} {d : DataW H} (hx : x ∈ d.weights P t) : ∀ {ts : List TypeId} {ds : List (DataW H)} {j : Nat}, ts[j]? = some t → ds[j]? = some d → x ∈ DataW.weightsEach P ts ds
  | [], _, j, h, _ => by simp at h
  | _ :: _, [], j, _, h => by simp at h
  | a :: ts, b :: ds, 0, h, k => by
    simp at h k
    subst h k
    simp only [DataW.weightsEach, List.mem_append]
    exact .inl hx
  | a :: ts, b :: ds, j + 1, h, k => by
    simp only [DataW.weightsEach, List.mem_append]
    exact .inr (mem_each hx (j := j) (by simpa using h) (by simpa using k))
/-- what a parameter weighs is within reach -/
theorem reach_of {H : Type} {P : Program} {ts : List TypeId} {ds : List (DataW H)} (hsz : (DataW.weightsEach P ts ds).all (· ≤ reachBytes) = true) (j : Nat) {t : TypeId} {d : DataW H} (ht : ts[j]? = some t) (hd : ds[j]? = some d) : ∀ x ∈ d.weights P t, x ≤ 140737488351232 := by
  intro x hx
  have := List.all_eq_true.1 hsz x (mem_each hx ht hd)
  have h2 : x ≤ reachBytes := of_decide_eq_true this
  exact h2
def StrRows2 (w : World) (ks : List (Sum (Sum IntKind Bool) IntKind)) (a : Option Addr) (len : Nat) : Prop :=
  len ≤ maxLen ∧ ∀ i, i < len → ∃ b off, a = some ⟨b, off, none⟩ ∧ b < w.heap.size ∧ ∀ j k, ks[j]? = some k → ∃ v, w.cell? ⟨b, off + i * ks.length + j, none⟩ = some v ∧ fieldOk2 w k v
theorem IsRow.below {k : IntKind} {w w' : World} {A : Option Addr} {n c : Nat} {zs : List Int} (h : IsRow k w A n c zs) (hb : Below w.heap.size w w') : IsRow k w' A n c zs := by
  rcases h with h | ⟨x, h1, h2, h3, h4, h5, h6⟩
  · exact .inl h
  · refine .inr ⟨x, h1, h2, h3, h4, fun i hi => ?_, h6⟩
    have := h5 i hi
    exact (hb.cell (cell_lt this)).trans this
theorem fieldOk2.below {w w' : World} {k : Sum (Sum IntKind Bool) IntKind} {v : Value} (h : fieldOk2 w k v) (hb : Below w.heap.size w w') : fieldOk2 w' k v := by
  cases k with
  | inl k => cases k with
    | inl k => exact h
    | inr b => cases b <;> exact h
  | inr k =>
    obtain ⟨A, n, c, zs, h1, h2, h3⟩ := h
    exact ⟨A, n, c, zs, h1, h2.below hb, h3⟩
theorem StrRows2.below {w w' : World} {ks : List (Sum (Sum IntKind Bool) IntKind)} {a : Option Addr} {len : Nat} (h : StrRows2 w ks a len) (hb : Below w.heap.size w w') : StrRows2 w' ks a len := by
  refine ⟨h.1, fun i hi => ?_⟩
  obtain ⟨b, off, hx, hl, hc⟩ := h.2 i hi
  refine ⟨b, off, hx, Nat.lt_of_lt_of_le hl hb.size, fun j k hk => ?_⟩
  obtain ⟨v, hv, ho⟩ := hc j k hk
  exact ⟨v, (hb.cell hl).trans hv, ho.below hb⟩
def kindDesc2 (P : Program) : Sum (Sum IntKind Bool) IntKind → TypeDesc → Bool
  | .inl k, d => kindDesc k d
  | .inr k, .slice e => (match P.underlying e with | some (.int k') => decide (k = k') | _ => false) && decide (P.cellsOf e = 1) && decide (0 < P.bytesOf e)
  | _, _ => false
def kindsOk2 (P : Program) (ks : List (Sum (Sum IntKind Bool) IntKind)) (fs : List Field) : Bool :=
  (ks.length == fs.length) && (ks.zip fs).all fun kf => match P.underlying kf.2.type with
    | some d => kindDesc2 P kf.1 d
    | none => false
section
variable {H : Type} {enc : TypeId × Value → H} {P : Program} {w : World} {base : Nat} {held : Bool}
theorem field_ok2 {k : Sum (Sum IntKind Bool) IntKind} {t : TypeId} {v : Value} {n : Nat} {y : DataW H × List MemPlace} (hk : (match P.underlying t with | some d => kindDesc2 P k d | none => false) = true)
    (h : DataW.trod enc P w base (fun _ => true) held n t [v] = some y) (hwt : ∀ x ∈ y.1.weights P t, x ≤ 140737488351232) : fieldOk2 w k v := by
  cases hu : P.underlying t with
  | none => rw [hu] at hk; simp at hk
  | some d =>
    rw [hu] at hk
    simp only at hk
    cases k with
    | inl k =>
      cases k with
      | inl k => cases d with
        | int k' =>
          simp only [kindDesc2, kindDesc, decide_eq_true_eq] at hk
          subst hk
          obtain ⟨m, hv, _, hw⟩ := DataW.trod_int hu h
          exact ⟨m, by simpa using hv, hw⟩
        | _ => simp [kindDesc2, kindDesc] at hk
      | inr b => cases b with
        | true => cases d with
          | bool =>
            obtain ⟨m, hv, _⟩ := DataW.trod_bool hu h
            exact ⟨m, by simpa using hv⟩
          | _ => simp [kindDesc2, kindDesc] at hk
        | false => cases d with
          | string =>
            obtain ⟨m, hv, hy, hw⟩ := DataW.trod_string hu h
            refine ⟨m, by simpa using hv, ?_⟩
            rw [hy] at hwt
            exact hwt m.size (by simp [DataW.weights])
          | _ => simp [kindDesc2, kindDesc] at hk
    | inr k =>
      cases d with
      | slice e =>
        simp only [kindDesc2, Bool.and_eq_true, decide_eq_true_eq] at hk
        obtain ⟨⟨hk1, hk2⟩, hk3⟩ := hk
        cases he : P.underlying e with
        | none => rw [he] at hk1; simp at hk1
        | some d2 =>
          rw [he] at hk1
          cases d2 with
          | int k' =>
            simp only [decide_eq_true_eq] at hk1
            subst hk1
            rcases open_ints hu he hk2 h with ⟨hcs, _⟩ | ⟨x, l, c, zs, hcs, _, hl, hm, hz, hy, hcell, hwz⟩
            · simp at hcs
              exact ⟨none, 0, 0, [], hcs, .inl ⟨rfl, rfl, rfl, rfl⟩, by omega⟩
            · simp at hcs
              refine ⟨some x, l, c, zs, hcs, .inr ⟨x, rfl, hl, hm, by simpa using hz, hcell, hwz⟩, ?_⟩
              simp only [if_true] at hz
              rw [hy] at hwt
              have h1 := hwt ((zs.take l).length * P.bytesOf e + (zs.drop l).length * P.bytesOf e) (by
                simp [DataW.weights, hu, lits, Nat.add_mul])
              rw [List.length_take, List.length_drop] at h1
              have h2 : zs.length ≤ zs.length * P.bytesOf e := Nat.le_mul_of_pos_right _ hk3
              have h3 : min l zs.length * P.bytesOf e + (zs.length - l) * P.bytesOf e = zs.length * P.bytesOf e := by
                rw [← Nat.add_mul]
                congr 1
                omega
              omega
          | _ => simp at hk1
      | _ => simp [kindDesc2] at hk
theorem str_rows2 {t e : TypeId} {fs : Array Field} {ks : List (Sum (Sum IntKind Bool) IntKind)} {a : Option Addr} {len cap : Nat} {d : DataW H} {p : List MemPlace} (ht : P.underlying t = some (.slice e)) (he : P.underlying e = some (.struct fs))
    (hone : oneCellFields P fs = true) (hC : P.cellsOf e = fs.size) (hks : kindsOk2 P ks fs.toList = true) (h0 : 0 < fs.size) (h : DataW.Trod enc P w base (fun _ => true) held t (.slice a len cap) d p) (hwt : ∀ x ∈ d.weights P t, x ≤ 140737488351232) : StrRows2 w ks a len := by
  obtain ⟨fuel, hf⟩ := h
  unfold kindsOk2 at hks
  rw [Bool.and_eq_true, beq_iff_eq, List.all_eq_true] at hks
  obtain ⟨hl, hall⟩ := hks
  have hls : ks.length = fs.size := by simpa using hl
  rcases open_slice_fields ht he hone hC hf with ⟨hcs, _⟩ | ⟨x, l, c, m, D, Pl, hcs, _, hle, hm, hmm, hdx, hi⟩
  · simp [Value.cells] at hcs
    obtain ⟨rfl, rfl, rfl⟩ := hcs
    exact ⟨Nat.zero_le _, fun i hi => absurd hi (by omega)⟩
  · simp [Value.cells] at hcs
    obtain ⟨rfl, rfl, rfl⟩ := hcs
    simp only [if_true] at hmm
    refine ⟨Nat.le_trans hle hm, fun i hil => ?_⟩
    obtain ⟨ys, n, hDi, _, hyl, hfd⟩ := hi i (by omega)
    injection hdx with hdx _
    subst hdx
    obtain ⟨b, off, spot⟩ := x
    have hspot : spot = none := by
      obtain ⟨_, _, _, _, _, hfd0⟩ := hi 0 (by omega)
      obtain ⟨v, y, hc, _, _⟩ := hfd0 0 fs[0] (by simp [h0])
      have := World.cell?_spot hc
      simpa [Addr.add] using this
    subst hspot
    have plain : ∀ n, (⟨b, off, none⟩ : Addr).add n = ⟨b, off + n, none⟩ := fun n => by unfold Addr.add; split <;> simp_all
    refine ⟨b, off, rfl, ?_, fun j k hk => ?_⟩
    · obtain ⟨v, y, hc, _, _⟩ := hfd 0 fs[0] (by simp [h0])
      have := cell_lt hc
      rwa [block_of_add] at this
    · have hjl : j < ks.length := (List.getElem?_eq_some_iff.1 hk).1
      obtain ⟨v, y, hc, hyj, hy⟩ := hfd j fs[j] (by simp [← hls, hjl])
      refine ⟨v, ?_, ?_⟩
      · rw [plain] at hc; rw [Nat.add_assoc, hls]; exact hc
      · have := hall (k, fs[j]) (by
          rw [List.mem_iff_getElem?]
          refine ⟨j, ?_⟩
          rw [List.getElem?_zip_eq_some]
          exact ⟨hk, by simp [← hls, hjl]⟩)
        refine field_ok2 this hy fun z hz => hwt z ?_
        simp only [DataW.weights, ht, List.mem_cons, List.mem_append]
        refine .inr (.inl (mem_all (d := D i) ?_ (List.mem_map.2 ⟨i, List.mem_range.2 hil, rfl⟩)))
        rw [hDi]
        simp only [DataW.weights, he]
        exact mem_each hz (j := j) (by rw [List.getElem?_map, Array.getElem?_toList]; simp [← hls, hjl]) (by rw [List.getElem?_map, hyj]; rfl)
end
end Go.Proofs.Ytbiaphichaomaaa
