/- slices.Collect, SortedStableFunc at spans; span.sorted: a new row: the same spans, in order of their beginnings. -/
import Derived.Test.YtnnpahjopfkchaaSpSeq
set_option linter.unusedVariables false
set_option linter.unusedSimpArgs false
namespace Go.Proofs.Ytnnpahjopfkchaa
open Go.RowKit Go.BigFrame Go.Shelf

def seqF (Bs : Nat) : Value := .func (.func 40) #[] #[.pointer (some ⟨Bs, 0, none⟩)]
section
variable (Bs : Nat) (A : Option Addr) (cap : Nat) (l : List Sp) (w : World)
theorem values_any : Calls Try.prog 32 #[.slice A l.length cap] w fun e w' => e = .returned (seqF w.heap.size) ∧ w' = w.alloc (.cells #[.slice A l.length cap] 22) := by
  go_enter Try.func32, Try.ntmps32
  go_wp2
  go_ret
  exact ⟨rfl, rfl⟩
theorem app_any (hm : l.length ≤ 1000000) (hB : Bs < w.heap.size) (hBs : w.cell? ⟨Bs, 0, none⟩ = some (.slice A l.length cap)) (hI : SpAt w.heap.size w A l) :
    Calls Try.prog 43 #[.slice none 0 0, seqF Bs] w fun e w' => ∃ (v : Value), e = .returned v ∧ w'.ownsRow w.heap.size 25 2 v l.length (l.flatMap spC) ∧ Below w.heap.size w w' := callsIn_wide.1 (app_in Bs A cap l hm w hB hBs hI)
theorem coll_any (hm : l.length ≤ 1000000) (hB : Bs < w.heap.size) (hBs : w.cell? ⟨Bs, 0, none⟩ = some (.slice A l.length cap)) (hI : SpAt w.heap.size w A l) :
    Calls Try.prog 38 #[seqF Bs] w fun e w' => ∃ (v : Value), e = .returned v ∧ w'.ownsRow w.heap.size 25 2 v l.length (l.flatMap spC) ∧ Below w.heap.size w w' := by
  have c1 := app_any Bs A cap l w hm hB hBs hI
  unfold seqF at c1 ⊢
  clear hB hBs hI
  go_enter Try.func38, Try.ntmps38
  go_wp2_with fail
  refine c1.mono ?_
  rintro e w1 ⟨v, rfl, h1⟩
  go_wp2
  go_ret
  exact ⟨v, rfl, h1⟩
end
theorem flat2_get : ∀ (l : List Sp) (j : Nat) (hj : j < l.length), (l.flatMap spC)[j * 2]? = some (.int .u64 (l[j].1 : Int)) ∧ (l.flatMap spC)[j * 2 + 1]? = some (.int .u64 (l[j].2 : Int))
  | x :: l, 0, hj => by simp [List.flatMap_cons, spC]
  | x :: l, j + 1, hj => by
    have e1 : ((x :: l).flatMap spC)[(j + 1) * 2]? = (l.flatMap spC)[j * 2]? := by
      rw [List.flatMap_cons, List.getElem?_append_right (by show 2 ≤ _; omega)]
      congr 1
      show _ - 2 = _
      omega
    have e2 : ((x :: l).flatMap spC)[(j + 1) * 2 + 1]? = (l.flatMap spC)[j * 2 + 1]? := by
      rw [List.flatMap_cons, List.getElem?_append_right (by show 2 ≤ _; omega)]
      congr 1
      show _ - 2 = _
      omega
    rw [e1, e2]
    exact flat2_get l j (by simpa using hj)
def rowOfL (l : List Sp) : Row := fun j => l.getD j (0, 0)
theorem rowOfL_get (l : List Sp) {j : Nat} (hj : j < l.length) : rowOfL l j = l[j] := by simp [rowOfL, hj]
/-- a row that the call owns, as a row of spans -/
theorem rowS_own {W : World} {base cap g : Nat} {l : List Sp} (h : W.ownsRow base 25 2 (.slice (some ⟨g, 0, none⟩) l.length cap) l.length (l.flatMap spC)) : RowS W g l.length (rowOfL l) ∧ base ≤ g := by
  rcases h.2 with ⟨e, _⟩ | ⟨g', cap', cur, e, h1, h2, h3, h4, h5, h6⟩
  · cases e
  · injection e with e1 _ e2
    injection e1 with e1
    injection e1 with e1
    subst e1 e2
    refine ⟨⟨cur, h2, by rw [h5]; omega, fun j hj => ?_⟩, h1⟩
    obtain ⟨r1, r2⟩ := flat2_get l j hj
    rw [← h6, List.getElem?_take_of_lt (by omega), Array.getElem?_toList] at r1 r2
    rw [rowOfL_get l hj]
    exact ⟨r1, r2⟩
/-- the spans of a row, as a list -/
def listOf (n : Nat) (d : Row) : List Sp := (List.range n).map d
theorem listOf_len (n : Nat) (d : Row) : (listOf n d).length = n := by simp [listOf]
theorem listOf_get (n : Nat) (d : Row) {j : Nat} (hj : j < (listOf n d).length) : (listOf n d)[j] = d j := by simp [listOf]
theorem listOf_mem (n : Nat) (d : Row) (x : Sp) : x ∈ listOf n d ↔ ∃ j, j < n ∧ d j = x := by simp [listOf]
theorem listOf_same {n : Nat} {l : List Sp} {d : Row} (hn : l.length = n) (h : Same 0 n (rowOfL l) d) (x : Sp) : x ∈ listOf n d ↔ x ∈ l := by
  rw [listOf_mem]
  constructor
  · rintro ⟨j, hj, rfl⟩
    obtain ⟨i, _, hi, e⟩ := h.to_ j (Nat.zero_le _) hj
    rw [e, rowOfL_get l (by omega)]
    exact List.getElem_mem _
  · intro hx
    obtain ⟨i, hi, rfl⟩ := List.mem_iff_getElem.1 hx
    obtain ⟨j, _, hj, e⟩ := h.from_ i (Nat.zero_le _) (by omega)
    exact ⟨j, hj, by rw [e, rowOfL_get l hi]⟩
theorem listOf_srt {n : Nat} {d : Row} (h : Srt 0 n d) : (listOf n d).Pairwise (fun a b => a.1 ≤ b.1) := by
  rw [List.pairwise_iff_getElem]
  intro i j hi hj hij
  rw [listOf_get, listOf_get]
  rw [listOf_len] at hi hj
  exact h i j (Nat.zero_le _) hij hj
theorem RowS.spAt {W : World} {g n : Nat} {d : Row} (h : RowS W g n d) : SpAt W.heap.size W (some ⟨g, 0, none⟩) (listOf n d) := by
  refine .inr ⟨g, 0, rfl, h.lt, fun j hj => ?_⟩
  rw [listOf_get]
  rw [listOf_len] at hj
  have := h.cell hj
  simpa using this
/-- behind span.sorted -/
def SortedP (w : World) (l : List Sp) (e : Ending) (w' : World) : Prop :=
  ∃ (g cap : Nat) (L : List Sp), e = .returned (.slice (some ⟨g, 0, none⟩) L.length cap) ∧ L.length = l.length ∧ (∀ x, x ∈ L ↔ x ∈ l) ∧ L.Pairwise (fun a b => a.1 ≤ b.1) ∧ w.heap.size ≤ g ∧ SpAt w'.heap.size w' (some ⟨g, 0, none⟩) L ∧ Below w.heap.size w w'
section
variable (B Bs : Nat) (A : Option Addr) (cap : Nat) (l : List Sp) (w : World)
theorem sfunc_any (hm : l.length ≤ 1000000) (h0 : 0 < l.length) (hB : Bs < w.heap.size) (hBs : w.cell? ⟨Bs, 0, none⟩ = some (.slice A l.length cap)) (hI : SpAt w.heap.size w A l) (hk : HasKey w B) :
    Calls Try.prog 31 #[seqF Bs, cmpF B] w (SortedP w l) := by
  have c1 := coll_any Bs A cap l w hm hB hBs hI
  have HK := Lib.hid hk
  unfold seqF at c1 ⊢
  unfold cmpF
  clear hB hBs hI hk
  go_enter Try.func31, Try.ntmps31
  go_wp2_with fail
  refine c1.mono ?_
  rintro e w1 ⟨v, rfl, h1, h2⟩
  obtain ⟨n, hn⟩ : ∃ n, l.length = n + 1 := ⟨l.length - 1, by omega⟩
  have h1' := h1
  rw [hn] at h1'
  obtain ⟨g, cap2, rfl⟩ := ownsRow_succ2 h1'
  rw [← hn] at h1
  obtain ⟨hr, hg⟩ := rowS_own h1
  have hA : AtS w1 w1 g l.length B (rowOfL l) := AtS.start hr (HK.out.below h2) (by have := HK.out.1; omega)
  have c2 := ssort_any cap2 hA hm
  unfold cmpF at c2
  rw [← hn]
  have HX := Lib.hid (And.intro h2 hg)
  clear h1 h1' hr hg hA h2 hn
  go_wp2_with fail
  refine c2.mono ?_
  rintro e w2 ⟨rfl, d, hA, hs, ht⟩
  have HA := Lib.hid (And.intro hA (And.intro hs ht))
  clear hA hs ht
  go_wp2
  go_ret
  obtain ⟨hA, hs, ht⟩ := HA.out
  refine ⟨g, cap2, listOf l.length d, by rw [listOf_len]; rfl, listOf_len _ _, listOf_same rfl hs, listOf_srt ht, HX.out.2, hA.row.spAt, ?_⟩
  exact HX.out.1.grown hA.grown HX.out.1.size (fun j hj => by cases hj; exact HX.out.2)
theorem sorted_any (hm : l.length ≤ 1000000) (h0 : 0 < l.length) (hI : SpAt w.heap.size w A l) :
    Calls Try.prog 27 #[.slice A l.length cap, keyF] w (SortedP w l) := by
  obtain ⟨w1, hw1⟩ : ∃ w1, w1 = w.alloc (.cells #[keyF] 46) := ⟨_, rfl⟩
  have hB1 : Below w.heap.size w w1 := by rw [hw1]; exact (Below.refl _ _).alloc (Nat.le_refl _) _
  have hk1 : HasKey w1 w.heap.size := by rw [hw1]; exact ⟨by simp, (Blk.new w 46 #[keyF]).cell 0⟩
  have c1 := values_any A cap l w1
  obtain ⟨w2, hw2⟩ : ∃ w2, w2 = w1.alloc (.cells #[.slice A l.length cap] 22) := ⟨_, rfl⟩
  have hB2 : Below w1.heap.size w1 w2 := by rw [hw2]; exact (Below.refl _ _).alloc (Nat.le_refl _) _
  have hb2 : w1.heap.size < w2.heap.size ∧ w2.cell? ⟨w1.heap.size, 0, none⟩ = some (.slice A l.length cap) := by rw [hw2]; exact ⟨by simp, (Blk.new w1 22 #[.slice A l.length cap]).cell 0⟩
  have hB12 : Below w.heap.size w w2 := hB1.trans (hB2.mono hB1.size)
  have c2 := sfunc_any w.heap.size w1.heap.size A cap l w2 hm h0 hb2.1 hb2.2 ((hI.below hB12).mono hB12.size) (hk1.below hB2)
  rw [← hw2] at c1
  have HW := Lib.hid hw1
  have HB := Lib.hid hB12
  unfold keyF seqF cmpF at *
  clear hw1 hB1 hk1 hw2 hB2 hb2 hB12 hI
  go_enter Try.func27, Try.ntmps27
  go_upto_region 1 with fail
  rw [← HW.out]
  go_wp2_with fail
  refine c1.mono ?_
  rintro e w3 ⟨rfl, hw3⟩
  rw [hw3]
  clear hw3
  go_wp2_with fail
  refine c2.mono ?_
  rintro e w4 ⟨g, cap2, L, rfl, r1, r2, r3, r4, r5, r6⟩
  have HR := Lib.hid (And.intro r1 (And.intro r2 (And.intro r3 (And.intro r4 (And.intro r5 r6)))))
  clear r1 r2 r3 r4 r5 r6
  go_wp2
  go_ret
  obtain ⟨r1, r2, r3, r4, r5, r6⟩ := HR.out
  exact ⟨g, cap2, L, rfl, r1, r2, r3, Nat.le_trans HB.out.size r4, r5, HB.out.trans (r6.mono HB.out.size)⟩
end
end Go.Proofs.Ytnnpahjopfkchaa
