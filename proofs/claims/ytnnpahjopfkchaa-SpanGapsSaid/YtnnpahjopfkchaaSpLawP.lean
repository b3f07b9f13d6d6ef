/- Plain: what the laws of spans need: one Add or Cut of a list that may be, gaps, coverings, lengths. -/
import Derived.Test.YtnnpahjopfkchaaSpDet
import Derived.Deep.Grids
set_option linter.unusedVariables false
set_option linter.unusedSimpArgs false
namespace Go.Proofs.Ytnnpahjopfkchaa
open Go.RowKit Go.BigFrame

theorem setR_ok {add : Bool} {l : List Sp} {x : Sp} (hn : Norm l) (hl : l.length ≤ 250) (hx : x.1 ≤ x.2) : setR add l x = (setS add l x, 0) := by
  unfold setR
  have h1 : mayB l = true := (mayB_iff l).2 ⟨hn, by omega⟩
  have h2 := setS_len (add := add) hn hx
  rw [if_neg (by rw [h1]; decide), if_neg (by omega), if_neg (by omega)]
theorem setR_bad {add : Bool} {l : List Sp} {x : Sp} (hn : Norm l) (hl : l.length ≤ 250) (hx : x.2 < x.1) : setR add l x = ([], 2) := by
  unfold setR
  have h1 : mayB l = true := (mayB_iff l).2 ⟨hn, by omega⟩
  rw [if_neg (by rw [h1]; decide), if_pos hx]
theorem Norm.apart {l : List Sp} (h : Norm l) {q r : Sp} (hq : q ∈ l) (hr : r ∈ l) : q = r ∨ q.2 < r.1 ∨ r.2 < q.1 := by
  induction l with
  | nil => cases hq
  | cons p l ih =>
    rcases List.mem_cons.1 hq with e1 | e1 <;> rcases List.mem_cons.1 hr with e2 | e2
    · exact .inl (e1.trans e2.symm)
    · rw [e1]; exact .inr (.inl (h.2.1 r e2))
    · rw [e2]; exact .inr (.inr (h.2.1 q e1))
    · exact ih h.2.2 e1 e2
theorem Norm.whole {l : List Sp} (h : Norm l) {x : Sp} (hx : x.1 < x.2) (hc : ∀ n, x.1 ≤ n → n < x.2 → cov l n) : ∃ q ∈ l, q.1 ≤ x.1 ∧ x.2 ≤ q.2 := by
  obtain ⟨q, hq, h1, h2⟩ := hc x.1 (Nat.le_refl _) hx
  refine ⟨q, hq, h1, ?_⟩
  by_cases h3 : x.2 ≤ q.2
  · exact h3
  · obtain ⟨r, hr, h4, h5⟩ := hc q.2 (by omega) (by omega)
    rcases h.apart hq hr with rfl | h6 | h6 <;> omega
theorem cvB_true {l : List Sp} {x : Sp} (hn : Norm l) (hl : l.length ≤ 256) (hx : x.1 ≤ x.2) (hc : ∀ n, x.1 ≤ n → n < x.2 → cov l n) : cvB l x = true := by
  refine (cvB_iff l x).2 ⟨(mayB_iff l).2 ⟨hn, hl⟩, hx, ?_⟩
  by_cases h : x.1 = x.2
  · exact .inl h
  · exact .inr (hn.whole (by omega) hc)
theorem u64_cov {l : List Sp} (h : U64 l) {n : Nat} (hc : cov l n) : n + 1 < 18446744073709551616 := by
  obtain ⟨q, hq, h1, h2⟩ := hc
  have := (h q hq).2
  omega
theorem u64_of {l : List Sp} (hn : Norm l) (h : ∀ n, cov l n → n + 1 < 18446744073709551616) : U64 l := by
  intro q hq
  have h1 := hn.lt q hq
  have h2 := h (q.2 - 1) ⟨q, hq, by omega, by omega⟩
  omega
theorem u64_set {add : Bool} {l : List Sp} {x : Sp} (hn : Norm l) (hx : x.1 ≤ x.2) (hu : U64 l) (hx2 : x.2 < 18446744073709551616) : U64 (setS add l x) := by
  refine u64_of (setS_norm hn hx) fun n hc => ?_
  rcases (setS_cov hn hx n).1 hc with h | h
  · exact u64_cov hu h.1
  · omega
/-- of a number: behind one Add (Cut) it is there just if it is the span's and that was added, or it is not the span's and was there -/
theorem covB_set {add : Bool} {l : List Sp} {x : Sp} (hn : Norm l) (hx : x.1 ≤ x.2) (n : Nat) : covB (setS add l x) n = if x.1 ≤ n ∧ n < x.2 then add else covB l n := by
  refine bool_iff (covB_iff _ _) ?_
  rw [setS_cov hn hx]
  split
  · rename_i h
    constructor
    · intro h1; exact .inr ⟨h1, h⟩
    · rintro (h1 | h1)
      · rcases h1.2 with h2 | h2
        · exact h2
        · exact absurd h h2
      · exact h1.1
  · rename_i h
    rw [covB_iff]
    constructor
    · intro h1; exact .inl ⟨h1, .inr h⟩
    · rintro (h1 | h1)
      · exact h1.1
      · exact absurd h1.2 h
theorem gapN_in {l : List Sp} {n : Nat} (hm : mayB l = true) {q : Sp} (hq : q ∈ l) (h1 : q.1 ≤ n) (h2 : n < q.2) : gapN l n = q.2 := gapN_eq (.inr ⟨hm, .inl ⟨q, hq, ⟨h1, h2⟩, rfl⟩⟩)
theorem gapN_out {l : List Sp} {n : Nat} (hm : mayB l = true) (hc : ¬ cov l n) : gapN l n = n := gapN_eq (.inr ⟨hm, .inr ⟨hc, rfl⟩⟩)
theorem gapN_is {l : List Sp} {n : Nat} (hm : mayB l = true) : gapN l n = n ↔ covB l n = false := by
  constructor
  · intro h
    cases hb : covB l n with
    | false => rfl
    | true =>
      obtain ⟨q, hq, h1, h2⟩ := (covB_iff l n).1 hb
      rw [gapN_in hm hq h1 h2] at h
      omega
  · intro h
    exact gapN_out hm fun hc => by rw [(covB_iff l n).2 hc] at h; cases h
theorem gapN_tells {l : List Sp} {n : Nat} (hm : mayB l = true) (hu : U64 l) (hn : n < 18446744073709551616) :
    n ≤ gapN l n ∧ gapN l n < 18446744073709551616 ∧ covB l (gapN l n) = false ∧ cvB l (n, gapN l n) = true := by
  have hN := ((mayB_iff l).1 hm).1
  by_cases hc : cov l n
  · obtain ⟨q, hq, h1, h2⟩ := hc
    rw [gapN_in hm hq h1 h2]
    refine ⟨by omega, (hu q hq).2, ?_, (cvB_iff _ _).2 ⟨hm, by simp only; omega, .inr ⟨q, hq, h1, Nat.le_refl _⟩⟩⟩
    cases hb : covB l q.2 with
    | false => rfl
    | true =>
      obtain ⟨r, hr, h3, h4⟩ := (covB_iff l _).1 hb
      rcases hN.apart hq hr with rfl | h6 | h6 <;> omega
  · rw [gapN_out hm hc]
    refine ⟨Nat.le_refl _, hn, ?_, (cvB_iff _ _).2 ⟨hm, Nat.le_refl _, .inl rfl⟩⟩
    cases hb : covB l n with
    | false => rfl
    | true => exact absurd ((covB_iff l n).1 hb) hc
/-- where a span begins: it is the list's, the number ahead is not -/
theorem begins {l : List Sp} (hN : Norm l) {q : Sp} (hq : q ∈ l) : covB l q.1 = true ∧ (0 < q.1 → covB l (q.1 - 1) = false) := by
  refine ⟨(covB_iff _ _).2 ⟨q, hq, Nat.le_refl _, hN.lt q hq⟩, fun h0 => ?_⟩
  cases hb : covB l (q.1 - 1) with
  | false => rfl
  | true =>
    obtain ⟨r, hr, h3, h4⟩ := (covB_iff l _).1 hb
    have := hN.lt q hq
    rcases hN.apart hq hr with rfl | h6 | h6 <;> omega
theorem set_comm {l : List Sp} {x y : Sp} (hN : Norm l) (hx : x.1 ≤ x.2) (hy : y.1 ≤ y.2) : setS true (setS true l x) y = setS true (setS true l y) x := by
  refine Norm.ext (setS_norm (setS_norm hN hx) hy) (setS_norm (setS_norm hN hy) hx) fun n => ?_
  simp only [setS_cov (setS_norm hN hx) hy, setS_cov (setS_norm hN hy) hx, setS_cov hN hx, setS_cov hN hy, true_or, and_true, true_and]
  constructor
  · rintro ((h | h) | h)
    · exact .inl (.inl h)
    · exact .inr h
    · exact .inl (.inr h)
  · rintro ((h | h) | h)
    · exact .inl (.inl h)
    · exact .inr h
    · exact .inl (.inr h)
theorem set_back {l : List Sp} {x : Sp} (hN : Norm l) (hx : x.1 ≤ x.2) (hc : ∀ n, x.1 ≤ n → n < x.2 → cov l n) : setS true (setS false l x) x = l := by
  refine Norm.ext (setS_norm (setS_norm hN hx) hx) hN fun n => ?_
  simp only [setS_cov (setS_norm hN hx) hx, setS_cov hN hx, true_or, and_true, true_and, false_and, or_false, Bool.false_eq_true, false_or]
  constructor
  · rintro (h | h)
    · exact h.1
    · exact hc n h.1 h.2
  · intro h
    by_cases h1 : x.1 ≤ n ∧ n < x.2
    · exact .inr h1
    · exact .inl ⟨h, h1⟩
def lenS (l : List Sp) : Nat := (l.map fun q => q.2 - q.1).sum
theorem lenS_append (l m : List Sp) : lenS (l ++ m) = lenS l + lenS m := by simp [lenS]
theorem lenS_cons (q : Sp) (l : List Sp) : lenS (q :: l) = (q.2 - q.1) + lenS l := by simp [lenS]
theorem lenK_take (l : List Sp) : ∀ k, k ≤ l.length → lenK l k = lenS (l.take k)
  | 0, _ => rfl
  | k + 1, h => by
    rw [lenK, lenK_take l k (by omega), List.take_succ_eq_append_getElem (by omega), lenS_append, spn_get l (by omega)]
    simp [lenS]
theorem lenN_eq {l : List Sp} (hm : mayB l = true) : lenN l = lenS l := by
  unfold lenN
  rw [if_pos hm, lenK_take l _ (Nat.le_refl _), List.take_length]
theorem cutS_far2 : ∀ (l : List Sp) (x : Sp), x.1 < x.2 → Norm l → (∀ q ∈ l, q.2 ≤ x.1 ∨ x.2 ≤ q.1) → cutS l x = l
  | [], x, _, _, _ => rfl
  | q :: l, x, hx, hl, h => by
    have ih : List.flatMap (cutP x) l = l := cutS_far2 l x hx hl.2.2 fun r hr => h r (List.mem_cons_of_mem _ hr)
    have h1 := h q List.mem_cons_self
    have h2 := hl.1
    have e : cutP x q = [q] := by
      unfold cutP
      rcases h1 with h1 | h1
      · rw [if_pos (by omega), if_neg (by omega)]
        rw [show min q.2 x.1 = q.2 by omega]; simp
      · rw [if_neg (by omega), if_pos (by omega)]
        rw [show max q.1 x.2 = q.1 by omega]; simp
    rw [cutS, List.flatMap_cons, e, ih]; rfl
theorem cut_sum : ∀ (l : List Sp) (x q : Sp), x.1 < x.2 → Norm l → q ∈ l → q.1 ≤ x.1 → x.2 ≤ q.2 → lenS (cutS l x) + (x.2 - x.1) = lenS l
  | p :: l, x, q, hx, hl, hq, h1, h2 => by
    have e : cutS (p :: l) x = cutP x p ++ cutS l x := by rw [cutS, List.flatMap_cons]; rfl
    rw [e, lenS_append, lenS_cons]
    by_cases hp : q = p
    · subst hp
      rw [cutS_far2 l x hx hl.2.2 fun r hr => by have := hl.2.1 r hr; omega]
      have : lenS (cutP x q) + (x.2 - x.1) = q.2 - q.1 := by
        unfold cutP
        rw [lenS_append, show min q.2 x.1 = x.1 by omega, show max q.1 x.2 = x.2 by omega]
        split <;> split <;> simp [lenS] <;> omega
      omega
    · have hql : q ∈ l := by
        rcases List.mem_cons.1 hq with h | h
        · exact absurd h hp
        · exact h
      have ih := cut_sum l x q hx hl.2.2 hql h1 h2
      have h3 := hl.2.1 q hql
      have e2 : cutP x p = [p] := by
        have := cutS_far2 [p] x hx (norm_one hl.1) fun r hr => by rw [List.mem_singleton.1 hr]; left; omega
        rw [cutS, List.flatMap_cons, List.flatMap_nil, List.append_nil] at this
        exact this
      rw [e2]
      have : lenS [p] = p.2 - p.1 := by simp [lenS]
      omega
theorem len_cut {l : List Sp} {x : Sp} (hN : Norm l) (hl : l.length ≤ 250) (hx : x.1 ≤ x.2) (hc : ∀ n, x.1 ≤ n → n < x.2 → cov l n) : lenN (setS false l x) + (x.2 - x.1) = lenN l := by
  have h1 := setS_len (add := false) hN hx
  rw [lenN_eq ((mayB_iff _).2 ⟨setS_norm hN hx, by omega⟩), lenN_eq ((mayB_iff _).2 ⟨hN, by omega⟩)]
  unfold setS
  by_cases h : x.1 = x.2
  · rw [if_pos h]; omega
  · rw [if_neg h, if_neg (by decide)]
    obtain ⟨q, hq, h2, h3⟩ := hN.whole (x := x) (by omega) hc
    exact cut_sum l x q (by omega) hN hq h2 h3
/-- the numbers of a list that may be are 64 bits -/
theorem lenS_le {l : List Sp} (hN : Norm l) (hu : U64 l) : ∀ b, (∀ q ∈ l, b ≤ q.1) → lenS l = 0 ∨ lenS l + b < 18446744073709551616 := by
  induction l with
  | nil => intro b _; exact .inl rfl
  | cons q l ih =>
    intro b hb
    rw [lenS_cons]
    have h1 := ih hN.2.2 (fun r hr => hu r (List.mem_cons_of_mem _ hr)) q.2 fun r hr => Nat.le_of_lt (hN.2.1 r hr)
    have h2 := hb q List.mem_cons_self
    have h3 := hu q List.mem_cons_self
    have h4 := hN.1
    right
    rcases h1 with h1 | h1 <;> omega
theorem lenN_lt {l : List Sp} (hu : U64 l) : lenN l < 18446744073709551616 := by
  cases hm : mayB l with
  | false => unfold lenN; rw [if_neg (by rw [hm]; decide)]; decide
  | true =>
    rw [lenN_eq hm]
    rcases lenS_le ((mayB_iff l).1 hm).1 hu 0 (fun _ _ => Nat.zero_le _) with h | h <;> omega
/-- a slice of bools -/
def BoolRow (w : World) (a : Option Addr) (len : Nat) : Prop := ∀ i, i < len → ∃ b off v, a = some ⟨b, off, none⟩ ∧ b < w.heap.size ∧ w.cell? ⟨b, off + i, none⟩ = some (.bool v)
theorem BoolRow.below {w w' : World} {a : Option Addr} {len : Nat} (h : BoolRow w a len) (hb : Below w.heap.size w w') : BoolRow w' a len := fun i hi => by
  obtain ⟨b, off, v, h1, h2, h3⟩ := h i hi
  exact ⟨b, off, v, h1, Nat.lt_of_lt_of_le h2 hb.size, (hb.cell (p := ⟨b, off + i, none⟩) h2).trans h3⟩
section
variable {H : Type} {enc : TypeId × Value → H} {P : Program} {w : World} {base : Nat} {held : Bool}
theorem bool_rows {t e : TypeId} {a : Option Addr} {len cap : Nat} {d : DataW H} {p : List MemPlace} (ht : P.underlying t = some (.slice e)) (he : P.underlying e = some .bool) (hC : P.cellsOf e = 1)
    (h : DataW.Trod enc P w base (fun _ => true) held t (.slice a len cap) d p) : BoolRow w a len := by
  obtain ⟨fuel, hf⟩ := h
  rcases Go.Deep.open_bools ht he hC hf with ⟨hcs, _⟩ | ⟨x, l, c, B, hcs, _, hl, hm, hz, hcell⟩
  · simp [Value.cells] at hcs
    obtain ⟨rfl, rfl, rfl⟩ := hcs
    exact fun i hi => absurd hi (Nat.not_lt_zero _)
  · simp [Value.cells] at hcs
    obtain ⟨rfl, rfl, rfl⟩ := hcs
    intro i hi
    have hc := hcell i (by omega)
    obtain ⟨b, off, spot⟩ := x
    have hspot : spot = none := by
      have := World.cell?_spot (hcell 0 (by omega))
      simpa [Addr.add] using this
    subst hspot
    have plain : ∀ n, (⟨b, off, none⟩ : Addr).add n = ⟨b, off + n, none⟩ := fun n => by unfold Addr.add; split <;> simp_all
    rw [plain] at hc
    exact ⟨b, off, _, rfl, cell_lt hc, hc⟩
end
end Go.Proofs.Ytnnpahjopfkchaa
