/- Layer 16 (reasm): Window, Next, Ready, Parts, New, Take. -/
import Derived.Test.YtbiaphichaomaaaReasmM
import Derived.Test.YtbiaphichaomaaaBytes
set_option linter.unusedVariables false
set_option linter.unusedSimpArgs false
namespace Go.Proofs.Ytbiaphichaomaaa
open Go.RowKit Go.BigFrame Go.Maps Go.ChangeShapes Go.WideShapes Go.ChangeAt

/-- where a row may lie behind a call -/
def Later (w : World) (rv rv' : Value) : Prop := ∀ i, rv'.ownBlock = some i → rv.ownBlock = some i ∨ w.heap.size ≤ i
theorem Later.refl (w : World) (rv : Value) : Later w rv rv := fun i h => .inl h
theorem Later.of {w : World} {rv rv' : Value} (h : rv'.ownBlock = rv.ownBlock ∨ ∃ g, w.heap.size ≤ g ∧ rv'.ownBlock = some g) : Later w rv rv' := by
  intro i hi
  rcases h with h | ⟨g, h1, h2⟩
  · exact .inl (h ▸ hi)
  · rw [h2] at hi; injection hi with hi; subst hi; exact .inr h1
theorem Later.trans {w w1 : World} {a b c : Value} (h : Later w a b) (k : Later w1 b c) (hs : w.heap.size ≤ w1.heap.size) : Later w a c := by
  intro i hi
  rcases k i hi with h1 | h1
  · exact h i h1
  · exact .inr (Nat.le_trans hs h1)
/-- what a call on a Reasm leaves: the answer, the Reasm's new state -/
def RGo (b bm : Nat) (rv : Value) (s' : Rs) (v : Value) (w : World) (e : Ending) (w' : World) : Prop :=
  ∃ rv' pv', e = .returned v ∧ RsAt w' b bm rv' pv' s' ∧ Out (OwnR b bm rv) w w' ∧ Later w rv rv'
theorem int_sub {a b : Nat} (h : b ≤ a) : (a : Int) - (b : Int) = ((a - b : Nat) : Int) := by omega
theorem window_r (b bm : Nat) (rv pv : Value) (s : Rs) (w : World) (h : RsAt w b bm rv pv s) (hl : s.ready.length ≤ s.most) (hm : s.most ≤ 65536) :
    Calls Try.prog 11 #[.pointer (some ⟨b, 0, none⟩)] w fun e w' => e = .returned (.int .i64 ((s.most - s.ready.length : Nat) : Int)) ∧ ∃ n, w' = w.drewN n := by
  obtain ⟨A, c, hrv, hrc, hrm⟩ := own_slice0 h.row
  subst hrv
  have c0 := h.blk.cell 0
  have c2 := h.blk.cell 2
  have hbl := h.blk.lt
  simp at c0 c2
  have e := int_sub hl
  have H := Lib.hid h
  clear h
  have E := Lib.hid e
  clear e
  go_enter Try.func11, Try.ntmps11
  go_wp2
  go_quiet (fail)
  go_wp2
  go_ret
  exact ⟨ret_int E.out, _, rfl⟩
theorem next_r (b bm : Nat) (rv pv : Value) (s : Rs) (w : World) (h : RsAt w b bm rv pv s) :
    Calls Try.prog 9 #[.pointer (some ⟨b, 0, none⟩)] w fun e w' => e = .returned (.int .u64 (s.next : Int)) ∧ w = w' := by
  have c1 := h.blk.cell 1
  have hbl := h.blk.lt
  simp at c1
  have H := Lib.hid h
  clear h
  go_enter Try.func9, Try.ntmps9
  go_wp2
  go_ret
  exact ⟨rfl, rfl⟩
theorem ready_r (b bm : Nat) (rv pv : Value) (s : Rs) (w : World) (h : RsAt w b bm rv pv s) :
    Calls Try.prog 10 #[.pointer (some ⟨b, 0, none⟩)] w fun e w' => e = .returned (.int .i64 (s.ready.length : Int)) ∧ w = w' := by
  obtain ⟨A, c, hrv, hrc, hrm⟩ := own_slice0 h.row
  subst hrv
  have c2 := h.blk.cell 2
  have hbl := h.blk.lt
  simp at c2
  have H := Lib.hid h
  clear h
  go_enter Try.func10, Try.ntmps10
  go_wp2
  go_ret
  exact ⟨rfl, rfl⟩
theorem parts_r (b bm : Nat) (rv pv : Value) (s : Rs) (w : World) (h : RsAt w b bm rv pv s) (hl : s.parts.length ≤ 1000) :
    Calls Try.prog 12 #[.pointer (some ⟨b, 0, none⟩)] w fun e w' => ∃ v, e = .returned v ∧ OwnP w v s.parts w' ∧ Below w.heap.size w w' := by
  obtain ⟨i0, hi, h0, h1, h2⟩ := info_parts infoPart
  obtain ⟨A, c, hpv, hc1, hc2, hpp⟩ := h.parts
  subst hpv
  have c4 := h.blk.cell 4
  have hbl := h.blk.lt
  simp at c4
  have hrd : Reads w w.heap.size 2 A s.parts.length (s.parts.flatMap partCells) := by
    refine ⟨partCells_len _, fun hn => ?_⟩
    rcases hpp with h0 | ⟨g, off, cs, rfl, hg, hcc⟩
    · rw [h0] at hn; simp at hn
    · refine ⟨_, rfl, hg.lt, fun j u hj => ?_⟩
      have hjl : j < s.parts.length * 2 := by have := (List.getElem?_eq_some_iff.1 hj).1; rw [partCells_len] at this; exact this
      have hq : s.parts[j / 2]? = some (s.parts[j / 2]'(by omega)) := List.getElem?_eq_getElem (by omega)
      obtain ⟨a1, a2⟩ := partCells_at _ _ _ hq
      obtain ⟨b1, b2⟩ := hcc _ _ hq
      rw [add_plain, hg.cell]
      rcases Nat.mod_two_eq_zero_or_one j with h2 | h2
      · rw [show j = j / 2 * 2 by omega] at hj ⊢
        rw [a1] at hj
        rw [b1]; exact hj
      · rw [show j = j / 2 * 2 + 1 by omega] at hj ⊢
        rw [a2] at hj
        rw [← Nat.add_assoc, b2]; exact hj
  have hone : ∀ u ∈ s.parts.flatMap partCells, u.oneCell' = true := by
    intro u hu
    obtain ⟨q, _, hq⟩ := List.mem_flatMap.1 hu
    simp [partCells] at hq
    rcases hq with rfl | rfl <;> rfl
  have hown0 : w.ownsRow w.heap.size 45 2 (.slice none 0 0) 0 [] := World.ownsRow_nil _ _ _ _
  have H := Lib.hid h
  clear h
  have Hrd := Lib.hid hrd
  clear hrd
  have Hi := Lib.hid hi
  clear hi
  have H0 := Lib.hid h0
  clear h0
  have H1 := Lib.hid h1
  clear h1
  have H2 := Lib.hid h2
  clear h2
  have Hone := Lib.hid hone
  clear hone
  have Hown0 := Lib.hid hown0
  clear hown0
  clear hpp
  go_enter Try.func12, Try.ntmps12
  go_wp2_with (at_builtin; refine wpList_append_any _ rfl _ _ _ rfl w.heap.size 45 i0 _ 2 16 Try.underlying34 Hi.out H0.out H1.out H2.out rfl (by decide) (.slice none 0 0) 0 [] rfl Hown0.out _ A s.parts.length _ _ rfl Hrd.out Hone.out (by simp only [maxLen]; omega) (by omega) (Nat.le_refl _) ?_; intro v1 w1 hown1 hg1 hat1)
  go_ret
  refine ⟨_, rfl, ?_, (Below.refl _ _).grown hg1 (Nat.le_refl _) (by simp [Value.ownBlock])⟩
  unfold OwnP
  simpa using hown1
end Go.Proofs.Ytbiaphichaomaaa
