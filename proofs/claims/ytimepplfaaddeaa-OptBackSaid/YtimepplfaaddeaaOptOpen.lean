/- Options that came in, by value: what they are. -/
import Derived.Test.YtimepplfaaddeaaNest
import Derived.Test.YtimepplfaaddeaaStructs
import Derived.Test.YtimepplfaaddeaaOptMay
set_option linter.unusedVariables false
set_option linter.unusedSimpArgs false
set_option linter.unusedSectionVars false
namespace Go.Proofs.Ytimepplfaaddeaa
open Go.RowKit Go.ChangeShapes Go.WideShapes Go.Deep

section
variable {H : Type} {enc : TypeId × Value → H} {P : Program} {w : World} {base : Nat} {held : Bool}
theorem ReadsAs.structs {t e : TypeId} {fs : Array Field} {ks : List (Sum IntKind Bool)} {c : Value} (h : ReadsAs enc P w base (fun _ => true) held t [c]) (ht : P.underlying t = some (.slice e)) (he : P.underlying e = some (.struct fs))
    (hone : oneCellFields P fs = true) (hC : P.cellsOf e = fs.size) (hks : kindsOk P ks fs.toList = true) (h0 : 0 < fs.size) : ∃ A len cap, c = .slice A len cap ∧ StrRows w ks A len ∧ len ≤ cap ∧ cap ≤ maxLen := by
  obtain ⟨fuel, ⟨d, p⟩, hf⟩ := h
  rcases open_slice_fields ht he hone hC hf with ⟨hcs, _⟩ | ⟨x, l, cp, m, D, Pl, hcs, _, hle, hm, _⟩
  · injection hcs with hcs
    subst hcs
    exact ⟨none, 0, 0, rfl, str_rows (d := d) (p := p) ht he hone hC hks h0 ⟨fuel, hf⟩, Nat.le_refl _, Nat.zero_le _⟩
  · injection hcs with hcs
    subst hcs
    exact ⟨some x, l, cp, rfl, str_rows (d := d) (p := p) ht he hone hC hks h0 ⟨fuel, hf⟩, hle, hm⟩
theorem ReadsAs.of_int {t : TypeId} {k : IntKind} {c : Value} (h : ReadsAs enc P w base (fun _ => true) held t [c]) (ht : P.underlying t = some (.int k)) : ∃ a, c = .int k a ∧ (Lit.int k a).wf = true := h.int ht
end
theorem wf_u16 {a : Int} (h : (Lit.int .u16 a).wf = true) : ∃ n : Nat, a = (n : Int) ∧ n < 65536 := by
  simp [Lit.wf, IntKind.min, IntKind.max, IntKind.signed, IntKind.bits] at h
  exact ⟨a.toNat, by omega, by omega⟩
theorem wf_u32 {a : Int} (h : (Lit.int .u32 a).wf = true) : ∃ n : Nat, a = (n : Int) ∧ n < 4294967296 := by
  simp [Lit.wf, IntKind.min, IntKind.max, IntKind.signed, IntKind.bits] at h
  exact ⟨a.toNat, by omega, by omega⟩
theorem wf_u8 {a : Int} (h : (Lit.int .u8 a).wf = true) : ∃ n : Nat, a = (n : Int) ∧ n < 256 := by
  simp [Lit.wf, IntKind.min, IntKind.max, IntKind.signed, IntKind.bits] at h
  exact ⟨a.toNat, by omega, by omega⟩
theorem pick_blocks {P : Nat → Int × Int → Prop} : ∀ n : Nat, (∀ k, k < n → ∃ x, P k x) → ∃ l : List (Int × Int), l.length = n ∧ ∀ k p, l[k]? = some p → P k p
  | 0, _ => ⟨[], rfl, fun k p h => by simp at h⟩
  | n + 1, h => by
    obtain ⟨l, hl, hp⟩ := pick_blocks n fun k hk => h k (by omega)
    obtain ⟨x, hx⟩ := h n (by omega)
    refine ⟨l ++ [x], by simp [hl], fun k p hk => ?_⟩
    by_cases e : k < n
    · rw [List.getElem?_append_left (by omega)] at hk
      exact hp k p hk
    · have hlt := (List.getElem?_eq_some_iff.1 hk).1
      simp at hlt
      obtain rfl : k = n := by omega
      rw [List.getElem?_append_right (by omega), hl, Nat.sub_self] at hk
      simp at hk
      subst hk
      exact hx
/-- blocks that came in -/
theorem rows_blocks {w : World} {A : Option Addr} {n : Nat} (h : StrRows w [.inl .u32, .inl .u32] A n) : ∃ l : List (Int × Int), l.length = n ∧ BlR w A l ∧ ∀ p ∈ l, (0 ≤ p.1 ∧ p.1 ≤ 4294967295) ∧ 0 ≤ p.2 ∧ p.2 ≤ 4294967295 := by
  obtain ⟨l, hl, hp⟩ := pick_blocks (P := fun k p => (∃ r off, A = some ⟨r, off, none⟩ ∧ r < w.heap.size ∧ w.cell? ⟨r, off + k * 2, none⟩ = some (.int .u32 p.1) ∧ w.cell? ⟨r, off + k * 2 + 1, none⟩ = some (.int .u32 p.2)) ∧ (0 ≤ p.1 ∧ p.1 ≤ 4294967295) ∧ 0 ≤ p.2 ∧ p.2 ≤ 4294967295) n fun k hk => by
    obtain ⟨r, off, hr, hb, hc⟩ := h.2 k hk
    obtain ⟨v0, q0, e, rfl, he⟩ := hc 0 _ rfl
    obtain ⟨v1, q1, f, rfl, hf⟩ := hc 1 _ rfl
    obtain ⟨a, rfl, ha⟩ := wf_u32 he
    obtain ⟨b, rfl, hb2⟩ := wf_u32 hf
    exact ⟨⟨a, b⟩, ⟨r, off, hr, hb, q0, q1⟩, by simp only; omega⟩
  refine ⟨l, hl, ?_, fun p hm => ?_⟩
  · cases hc : l with
    | nil => exact .inl rfl
    | cons p0 lr =>
      right
      obtain ⟨⟨r, off, hA, hr, _⟩, _⟩ := hp 0 p0 (by rw [hc]; rfl)
      refine ⟨r, off, hA, hr, fun j p hj => ?_⟩
      obtain ⟨⟨r2, off2, hA2, _, h1, h2⟩, _⟩ := hp j p (by rw [hc]; exact hj)
      rw [hA] at hA2
      injection hA2 with hA2
      injection hA2 with e1 e2
      subst e1 e2
      exact ⟨h1, h2⟩
  · obtain ⟨k, hk⟩ := List.getElem?_of_mem hm
    exact (hp k p hk).2
theorem cellsOpts : Try.prog.cellsOf 26 = 7 := by kernel_rfl
theorem cellsU16 : Try.prog.cellsOf 22 = 1 := by kernel_rfl
theorem cellsU32 : Try.prog.cellsOf 24 = 1 := by kernel_rfl
theorem cellsInt : Try.prog.cellsOf 3 = 1 := by kernel_rfl
theorem cellsBool : Try.prog.cellsOf 4 = 1 := by kernel_rfl
theorem cellsBlks : Try.prog.cellsOf 23 = 1 := by kernel_rfl
/-- what is known of options that came in -/
def OptF (w : World) (o : Op) (A : Option Addr) (c : Nat) : Prop := o.wf ∧ BlR w A o.bl ∧ o.bl.length ≤ c ∧ c ≤ maxLen
section
variable {H : Type} {enc : TypeId × Value → H} {w : World} {base : Nat} {held : Bool}
theorem opts_cells {c0 c1 c2 c3 c4 c5 c6 : Value} (h0 : ReadsAs enc Try.prog w base (fun _ => true) held 26 [c0, c1, c2, c3, c4, c5, c6]) : ∃ (o : Op) (A : Option Addr) (c : Nat), [c0, c1, c2, c3, c4, c5, c6] = (optC o A c).toList ∧ OptF w o A c := by
  obtain ⟨mss, rfl, w0⟩ := (h0.part Try.underlying26 0 rfl cellsU16 (ds := [c0]) rfl).int Try.underlying22
  obtain ⟨sc, rfl, w1⟩ := (h0.part Try.underlying26 1 rfl cellsInt (ds := [c1]) rfl).int Try.underlying3
  obtain ⟨sk, rfl⟩ := (h0.part Try.underlying26 2 rfl cellsBool (ds := [c2]) rfl).bool Try.underlying4
  obtain ⟨A, n, c, rfl, w3, w3a, w3b⟩ := (h0.part Try.underlying26 3 rfl cellsBlks (ds := [c3]) rfl).structs (ks := [.inl .u32, .inl .u32]) Try.underlying23 Try.underlying56 (by kernel_rfl) (by kernel_rfl) (by kernel_rfl) (by decide)
  obtain ⟨tm, rfl⟩ := (h0.part Try.underlying26 4 rfl cellsBool (ds := [c4]) rfl).bool Try.underlying4
  obtain ⟨vl, rfl, w5⟩ := (h0.part Try.underlying26 5 rfl cellsU32 (ds := [c5]) rfl).int Try.underlying24
  obtain ⟨ec, rfl, w6⟩ := (h0.part Try.underlying26 6 rfl cellsU32 (ds := [c6]) rfl).int Try.underlying24
  obtain ⟨l, hl, hr, hb⟩ := rows_blocks w3
  obtain ⟨m', rfl, hm⟩ := wf_u16 w0
  obtain ⟨v', rfl, hv⟩ := wf_u32 w5
  obtain ⟨e', rfl, he⟩ := wf_u32 w6
  subst hl
  exact ⟨⟨m', sc, sk, l, tm, v', e'⟩, A, c, rfl, ⟨hm, w1, hv, he, hb⟩, hr, w3a, w3b⟩
theorem open_opts {r : Reach} {b0 : Nat} {v : Value} {d : DataW H} {p : List MemPlace} (hv : Value.okWide Try.prog w r b0 26 v) (h : DataW.Trod enc Try.prog w base (fun _ => true) held 26 v d p) :
    ∃ (o : Op) (A : Option Addr) (c : Nat), v = .agg (optC o A c) ∧ OptF w o A c := by
  obtain ⟨cs, rfl, hsz⟩ := okWide_struct Try.underlying26 hv
  obtain ⟨l⟩ := cs
  match l, hsz.trans cellsOpts with
  | [c0, c1, c2, c3, c4, c5, c6], _ =>
    obtain ⟨o, A, c, hc, hf⟩ := opts_cells (ReadsAs.of h)
    refine ⟨o, A, c, ?_, hf⟩
    congr 1
    exact Array.toList_inj.1 hc
end
end Go.Proofs.Ytimepplfaaddeaa
