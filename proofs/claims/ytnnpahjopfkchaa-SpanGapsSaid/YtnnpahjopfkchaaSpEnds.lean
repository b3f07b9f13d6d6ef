/- transomref02.ends: all places at which something may begin or end. -/
import Derived.Test.YtnnpahjopfkchaaSpPut
import Derived.Test.YtnnpahjopfkchaaSpan1
set_option linter.unusedVariables false
set_option linter.unusedSimpArgs false
namespace Go.Proofs.Ytnnpahjopfkchaa
open Go.RowKit Go.BigFrame

/-- the places of the first k spans -/
structure EndK (m : List Sp) (p : List Nat) : Prop where
  sorted : p.Pairwise (· < ·)
  mem : ∀ v, v ∈ p ↔ ∃ q ∈ m, v = q.1 ∨ v = q.2
  len : p.length ≤ 2 * m.length
theorem endK_nil : EndK [] [] := ⟨List.Pairwise.nil, fun v => by simp, by simp⟩
theorem EndK.step {m : List Sp} {p R R2 : List Nat} {q : Sp} (h : EndK m p) (h1 : PutP p q.1 R) (h2 : PutP R q.2 R2) : EndK (m ++ [q]) R2 := by
  refine ⟨h2.sorted, fun v => ?_, ?_⟩
  · rw [h2.mem, h1.mem, h.mem]
    constructor
    · rintro ((⟨r, hr, h⟩ | h) | h)
      · exact ⟨r, List.mem_append_left _ hr, h⟩
      · exact ⟨q, List.mem_append_right _ (List.mem_singleton.2 rfl), .inl h⟩
      · exact ⟨q, List.mem_append_right _ (List.mem_singleton.2 rfl), .inr h⟩
    · rintro ⟨r, hr, h⟩
      rcases List.mem_append.1 hr with hr | hr
      · exact .inl (.inl ⟨r, hr, h⟩)
      · rw [List.mem_singleton.1 hr] at h
        rcases h with h | h
        · exact .inl (.inr h)
        · exact .inr h
  · have a := h.len; have b := h1.len; have c := h2.len
    simp; omega
def EndsPost (w : World) (l : List Sp) (x : Sp) (e : Ending) (w' : World) : Prop :=
  ∃ p A' c', EndK (l ++ [x]) p ∧ e = .returned (.slice A' p.length c') ∧ NmAt w'.heap.size w' A' p ∧ Below w.heap.size w w'
theorem endsPost {w w' : World} {l : List Sp} {x : Sp} {p : List Nat} {e : Ending} (A' : Option Addr) (c' : Nat) (h1 : EndK (l ++ [x]) p) (h2 : e = .returned (.slice A' p.length c')) (h3 : NmAt w'.heap.size w' A' p) (h4 : Below w.heap.size w w') : EndsPost w l x e w' := ⟨p, A', c', h1, h2, h3, h4⟩
section
variable {w : World} {A : Option Addr} {l : List Sp} {cap : Nat}
set_option maxRecDepth 100000 in
set_option maxHeartbeats 4000000 in
theorem ends_any (x : Sp) (hm : l.length ≤ 1000) (hI : SpAt w.heap.size w A l) : Calls Try.prog 35 #[.slice A l.length cap, spV x] w (EndsPost w l x) := by
  obtain ⟨w1, hw1⟩ : ∃ w1, w1 = w.alloc (.cells #[.int .u64 (x.1 : Int), .int .u64 (x.2 : Int)] 25) := ⟨_, rfl⟩
  have hB1 : Below w.heap.size w w1 := by rw [hw1]; exact (Below.refl _ w).alloc (Nat.le_refl _) _
  have hx : Blk w1 w.heap.size 25 #[.int .u64 (x.1 : Int), .int .u64 (x.2 : Int)] := by rw [hw1]; exact Blk.new _ _ _
  have hI1 := (hI.below hB1).mono hB1.size
  have lm : (l.length : Int) ≤ 1000 := by omega
  have HW := Lib.hid hw1
  have HX := Lib.hid (And.intro hB1 (And.intro hx hI1))
  clear hw1 hB1 hx hI1 hI
  unfold spV
  go_enter Try.func35, Try.ntmps35
  go_upto_region 1 with fail
  rw [← HW.out]
  go_wp2
  go_loopw [5, 6] (fun out i wr => ∃ (k m : Nat) (A' : Option Addr) (c' : Nat) (p : List Nat), out = .slice A' m c' ∧ i = .int .i64 k ∧ k ≤ l.length ∧ Hid (m = p.length ∧ EndK (l.take k) p ∧ NmAt wr.heap.size wr A' p ∧ Below w1.heap.size w1 wr)) (fun _ i _ => l.length - (intOf i).toNat)
  case atStart => exact ⟨0, 0, none, 0, [], rfl, rfl, Nat.zero_le _, Lib.hid ⟨rfl, endK_nil, .inl rfl, Below.refl _ _⟩⟩
  case round =>
    obtain ⟨k, m, A', c', p, rfl, rfl, hk, HO⟩ := hrel
    by_cases h1 : k < l.length
    · have h1z : (k : Int) < (l.length : Int) := by omega
      have k0 : (0 : Int) ≤ (k : Int) := by omega
      obtain ⟨b, off, rfl, hb, r1, r2⟩ := (HX.out.2.2.below HO.out.2.2.2).at_ h1
      have htk : l.take k ++ [l[k]] = l.take (k + 1) := List.take_append_getElem h1
      have hpl : p.length ≤ 2000 := by have := HO.out.2.1.len; rw [List.length_take] at this; omega
      obtain ⟨q, eq⟩ : ∃ q, q = l[k] := ⟨_, rfl⟩
      rw [← eq] at r1 r2 htk
      have c1 := put_any (cap := c') q.1 (by omega) HO.out.2.1.sorted HO.out.2.2.1
      rw [← HO.out.1] at c1
      have HT := Lib.hid (And.intro htk hpl)
      clear htk hpl eq
      go_wp2_with fail
      refine c1.mono ?_
      rintro e w3 ⟨R, A5, c5, hp, rfl, hn, hb3⟩
      have c2 := put_any (cap := c5) q.2 (by have := hp.len; have := HT.out.2; omega) hp.sorted hn
      have hB3 := HO.out.2.2.2.trans (hb3.mono HO.out.2.2.2.size)
      have s2 := (hb3.cell (p := ⟨b, off + k * 2 + 1, none⟩) (Nat.lt_of_lt_of_le hb HO.out.2.2.2.size)).trans r2
      have H3 := Lib.hid (And.intro hp hB3)
      clear hp hn hb3 hB3 c1 r1 r2
      go_wp2_with fail
      refine c2.mono ?_
      rintro e w4 ⟨R2, A6, c6, hp4, rfl, hn4, hb4⟩
      have H4 := Lib.hid (And.intro hp4 (And.intro hn4 (H3.out.2.trans (hb4.mono H3.out.2.size))))
      clear hp4 hn4 hb4 c2 s2
      go_wp2
      go_roundw
      case rel => exact ⟨k + 1, _, A6, c6, R2, rfl, by go_num, h1, Lib.hid ⟨rfl, by rw [← HT.out.1]; exact HO.out.2.1.step H3.out.1 H4.out.1, H4.out.2.1, H4.out.2.2⟩⟩
      case measure => simp [intOf]; omega
    · obtain rfl : k = l.length := by omega
      have h1z : ¬ (l.length : Int) < (l.length : Int) := by omega
      have hE := HO.out.2.1
      rw [List.take_length] at hE
      have hpl : p.length ≤ 2000 := by have := hE.len; omega
      have c1 := put_any (cap := c') x.1 (by omega) hE.sorted HO.out.2.2.1
      rw [← HO.out.1] at c1
      have hx2 := HX.out.2.1.below HO.out.2.2.2 HX.out.2.1.lt
      have y0 := hx2.cell 0
      simp only [List.getElem?_toArray, List.getElem?_cons_zero, List.getElem?_cons_succ] at y0
      have HT := Lib.hid (And.intro hE hpl)
      clear hE hpl hx2
      go_wp2_with fail
      refine c1.mono ?_
      rintro e w3 ⟨R, A5, c5, hp, rfl, hn, hb3⟩
      have c2 := put_any (cap := c5) x.2 (by have := hp.len; have := HT.out.2; omega) hp.sorted hn
      have hB3 := HO.out.2.2.2.trans (hb3.mono HO.out.2.2.2.size)
      have hx3 := HX.out.2.1.below hB3 HX.out.2.1.lt
      have s1 := hx3.cell 1
      simp only [List.getElem?_toArray, List.getElem?_cons_zero, List.getElem?_cons_succ] at s1
      have H3 := Lib.hid (And.intro hp hB3)
      clear hp hn hb3 hB3 c1 y0 hx3
      go_wp2_with fail
      refine c2.mono ?_
      rintro e w4 ⟨R2, A6, c6, hp4, rfl, hn4, hb4⟩
      have H4 := Lib.hid (And.intro hp4 (And.intro hn4 (H3.out.2.trans (hb4.mono H3.out.2.size))))
      clear hp4 hn4 hb4 c2 s1
      go_wp2
      go_ret
      exact endsPost A6 c6 (HT.out.1.step H3.out.1 H4.out.1) rfl H4.out.2.1 (HX.out.1.trans (H4.out.2.2.mono HX.out.1.size))
end
end Go.Proofs.Ytnnpahjopfkchaa
