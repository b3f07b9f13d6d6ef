/- Rows of spans of the call's own; slices.Clone. -/
import Derived.Test.YtnnpahjopfkchaaSpAdd
import Derived.Test.YtnnpahjopfkchaaWords
import Derived.Lib.SliceRun
set_option linter.unusedVariables false
set_option linter.unusedSimpArgs false
namespace Go.Proofs.Ytnnpahjopfkchaa
open Go.RowKit Go.BigFrame

theorem spC_one (l : List Sp) : ∀ u ∈ l.flatMap spC, u.oneCell' = true := by
  intro u hu
  obtain ⟨q, _, hq⟩ := List.mem_flatMap.1 hu
  simp only [spC, List.mem_cons, List.not_mem_nil, or_false] at hq
  rcases hq with rfl | rfl <;> rfl
theorem flat2_at (l : List Sp) (j : Nat) (u : Value) (h : (l.flatMap spC)[j]? = some u) : ∃ i, ∃ hi : i < l.length, (j = i * 2 ∧ u = .int .u64 (l[i].1 : Int)) ∨ (j = i * 2 + 1 ∧ u = .int .u64 (l[i].2 : Int)) := by
  have hj := (List.getElem?_eq_some_iff.1 h).1
  rw [flat2_len] at hj
  have hi : j / 2 < l.length := by omega
  obtain ⟨r1, r2⟩ := flat2_get l (j / 2) hi
  refine ⟨j / 2, hi, ?_⟩
  rcases Nat.mod_two_eq_zero_or_one j with e | e
  · refine .inl ⟨by omega, ?_⟩
    rw [show j / 2 * 2 = j by omega, h] at r1
    exact Option.some.inj r1
  · refine .inr ⟨by omega, ?_⟩
    rw [show j / 2 * 2 + 1 = j by omega, h] at r2
    exact Option.some.inj r2
theorem add_off (b off j : Nat) : (⟨b, off, none⟩ : Addr).add j = ⟨b, off + j, none⟩ := by unfold Addr.add; split <;> simp_all
theorem SpAt.reads {n : Nat} {W : World} {A : Option Addr} {l : List Sp} (h : SpAt n W A l) : Reads W n 2 A l.length (l.flatMap spC) := by
  refine ⟨flat2_len l, fun h0 => ?_⟩
  rcases h with rfl | ⟨b, off, e, h1, h2⟩
  · simp at h0
  · refine ⟨_, e, h1, fun j u hu => ?_⟩
    rw [add_off]
    obtain ⟨i, hi, ⟨rfl, rfl⟩ | ⟨rfl, rfl⟩⟩ := flat2_at l j u hu
    · exact (h2 i hi).1
    · rw [← Nat.add_assoc]; exact (h2 i hi).2
/-- a slice v, of a row of the call's own, has the spans o -/
def OwnL (base : Nat) (W : World) (v : Value) (o : List Sp) : Prop := W.ownsRow base 25 2 v o.length (o.flatMap spC)
section
variable {base : Nat} {W W' : World} {v : Value} {o : List Sp}
theorem OwnL.nil (base : Nat) (W : World) : OwnL base W (.slice none 0 0) [] := World.ownsRow_nil _ _ _ _
theorem OwnL.more {n : Nat} (h : OwnL n W v o) (hn : base ≤ n) : OwnL base W v o := ⟨h.1, h.2.imp id fun ⟨g, cap, cur, e, h1, h2⟩ => ⟨g, cap, cur, e, Nat.le_trans hn h1, h2⟩⟩
theorem OwnL.spAt (h : OwnL base W v o) : ∃ A c, v = .slice A o.length c ∧ SpAt W.heap.size W A o := by
  rcases h.2 with ⟨e, h0⟩ | ⟨g, cap, cur, e, h1, h2, h3, h4, h5, h6⟩
  · exact ⟨none, 0, by rw [h0]; exact e, .inl (List.eq_nil_of_length_eq_zero h0)⟩
  · refine ⟨_, cap, e, .inr ⟨g, 0, rfl, (Array.getElem?_eq_some_iff.1 h2).1, fun j hj => ?_⟩⟩
    obtain ⟨r1, r2⟩ := flat2_get o j hj
    rw [← h6, List.getElem?_take_of_lt (by omega), Array.getElem?_toList] at r1 r2
    have hb : Blk W g 25 cur := h2
    rw [Nat.zero_add]
    exact ⟨(hb.cell (j * 2)).trans r1, (hb.cell (j * 2 + 1)).trans r2⟩
end
section
variable {w : World} {A : Option Addr} {l : List Sp} {cap : Nat}
set_option maxRecDepth 100000 in
set_option maxHeartbeats 1000000 in
theorem clone_any (hm : l.length ≤ 1000000) (hI : SpAt w.heap.size w A l) : Calls Try.prog 26 #[.slice A l.length cap] w fun e w' => ∃ v, e = .returned v ∧ OwnL w.heap.size w' v l ∧ Below w.heap.size w w' := by
  have e1 := @Lib.run_eql_slice_nil
  obtain ⟨i0, hi, h0, h1, h2⟩ := infoSp_parts
  rcases A with _ | ad
  · obtain rfl : l = [] := by
      rcases hI with h | ⟨b, off, e, _⟩
      · exact h
      · cases e
    clear hI hi h0 h1 h2
    go_enter Try.func26, Try.ntmps26
    go_wp2
    go_ret
    exact ⟨_, rfl, OwnL.nil _ _, Below.refl _ _⟩
  · have hr2 := hI.reads.alloc (Nat.le_refl _) (.cells #[] 25)
    have hown := World.ownsRow_made (base := w.heap.size) (e := 25) (size := 2) w #[] 0 (Nat.le_refl _) (by simp) (by simp)
    have hB0 : Below w.heap.size w (w.alloc (.cells #[] 25)) := (Below.refl _ _).alloc (Nat.le_refl _) _
    obtain ⟨n, hn⟩ : ∃ n, n = l.length := ⟨_, rfl⟩
    have hpost : ∀ v' w', w'.ownsRow w.heap.size 25 2 v' (0 + n) ([] ++ l.flatMap spC) → (w.alloc (.cells #[] 25)).grownBy w' (some w.heap.size) → ∃ v, Ending.returned v' = .returned v ∧ OwnL w.heap.size w' v l ∧ Below w.heap.size w w' := by
      intro v' w' ho hg
      rw [Nat.zero_add, List.nil_append, hn] at ho
      exact ⟨v', rfl, ho, hB0.grown hg (by simp) (by intro k hk; injection hk with hk; omega)⟩
    rw [← hn] at hr2 ⊢
    have hn2 : n ≤ 1000000 := by omega
    have Hr2 := Lib.hid hr2
    clear hr2
    have Hown := Lib.hid hown
    clear hown
    have Hpost := Lib.hid hpost
    clear hpost
    have Hi := Lib.hid hi
    clear hi
    have H0 := Lib.hid h0
    clear h0
    have H1 := Lib.hid h1
    clear h1
    have H2 := Lib.hid h2
    clear h2
    clear hn hm hB0 hI
    go_enter Try.func26, Try.ntmps26
    go_wp2_with (at_builtin; refine wpList_append_any _ rfl _ _ _ rfl w.heap.size 25 i0 _ 2 16 Try.underlying22 Hi.out H0.out H1.out H2.out rfl (by decide) (.slice (some ⟨w.heap.size, 0, none⟩) 0 0) 0 [] rfl Hown.out _ (some ad) n cap (l.flatMap spC) rfl Hr2.out (spC_one l) (by simp only [maxLen]; omega) (by omega) (by simp) ?_; intro v1 w1 hown1 hg1 hat1)
    have hp := Hpost.out v1 w1 hown1 hg1
    clear hown1 hg1 hat1
    have HP := Lib.hid hp
    clear hp
    go_wp2
    go_ret
    exact HP.out
end
/-- what Add, Cut and transomref02.Set answer -/
def SetPost (w : World) (R : List Sp × Nat) (e : Ending) (w' : World) : Prop :=
  ∃ A c, e = .returned (.tuple #[.slice A R.1.length c, .int .i64 (R.2 : Int)]) ∧ SpAt w'.heap.size w' A R.1 ∧ Below w.heap.size w w'
end Go.Proofs.Ytnnpahjopfkchaa
