/- The law TablePlays: a step of both, in a region that draws: what holds until each call, and what stays. -/
import Derived.Test.YtlikngepcbmhdaaTabV
import Derived.Test.YtlikngepcbmhdaaFlowUA
set_option linter.unusedVariables false
set_option linter.unusedSimpArgs false
namespace Go.Proofs.Ytlikngepcbmhdaa
open Go.ChangeShapes Go.WideShapes Go.ChangeAt Go.RowKit Go.Maps

def SX (gs : Nat) (st : St12) (W : World) : Prop := Blk W gs 46 st.cells.toArray
def UX (w : World) (t b most : Nat) (s : Tab) (l : List PE) (A : Option Addr) (c : Nat) : List (Nat × (World → Prop)) := [(5, fun W => Has TI w W t s), (11, fun W => RefAt w.heap.size W b most s.last l A c)]
def FT (w : World) (t : Nat) (er : Int) (s' : Tab) (l : List Value) (W : World) : Prop := l = [.int .i64 er] ∧ Has TI w W t s'
def FR (w : World) (b most last : Nat) (er : Int) (l' : List PE) (A : Option Addr) (c : Nat) (l : List Value) (W : World) : Prop := l = [.int .i64 er] ∧ RefAt w.heap.size W b most last l' A c
def RX (w : World) (t b most : Nat) (s s' : Tab) (l' : List PE) (A : Option Addr) (c : Nat) (i : Nat) (w1 w2 : World) : Prop :=
  Below w1.heap.size w1 w2 ∨ (i = 5 ∧ Out (Own t s) w1 w2 ∧ Has TI w w2 t s') ∨ (i = 11 ∧ Out (ROwn b A) w1 w2 ∧ RefAt w.heap.size w2 b most s.last l' A c)
section
variable {w W W' : World} {t b gs most k c : Nat} {st : St12} {s s' : Tab} {l l' : List PE} {A : Option Addr} {f g : FuncId} {vt vr : Array Value} {er : Int}
theorem RX.refl (i : Nat) (W : World) : RX w t b most s s' l' A c i W W := .inl (Below.refl _ _)
theorem sx_below {w1 w2 : World} (h : SX gs st w1) (hb : Below w1.heap.size w1 w2) : SX gs st w2 := Blk.below h hb (Blk.lt h)
theorem rx_u (h : PT w t b gs most st k s l l s.last A c W) : ∀ q ∈ UX w t b most s l A c, ∀ i w1 w2, i ≠ q.1 → RX w t b most s s' l' A c i w1 w2 → q.2 w1 → q.2 w2 := by
  intro q hq
  simp only [UX, List.mem_cons, List.not_mem_nil, or_false] at hq
  rcases hq with rfl | rfl
  · rintro i w1 w2 hi (hb | ⟨e, _⟩ | ⟨_, ho, _⟩) hw
    · exact hw.step hb
    · exact absurd e hi
    · exact h.has_ref hw ho
  · rintro i w1 w2 hi (hb | ⟨_, ho, _⟩ | ⟨e, _⟩) hw
    · exact hw.below hb
    · exact hw.out ho (fun e => h.apart _ e (.inl rfl)) (fun g hg e => h.apart _ e (.inr hg))
    · exact absurd e hi
theorem rx_t (h : PT w t b gs most st k s l l s.last A c W) (D : Step2 w t b gs most st k s l A c f g vt vr er s' l') (v : List Value) (i : Nat) (w1 w2 : World) (hr : RX w t b most s s' l' A c i w1 w2) (hf : FT w t er s' v w1) : FT w t er s' v w2 := by
  obtain ⟨q1, q2⟩ := hf
  refine ⟨q1, ?_⟩
  rcases hr with hb | ⟨_, _, hh⟩ | ⟨_, ho, _⟩
  · exact q2.step hb
  · exact hh
  · exact ⟨q2.tab.keep fun i hi hw => ho.block i hi (h.apart i (D.own i hw)), q2.own, q2.below.trans (ho.below q2.below.size h.old)⟩
theorem rx_r (h : PT w t b gs most st k s l l s.last A c W) (v : List Value) (i : Nat) (w1 w2 : World) (hr : RX w t b most s s' l' A c i w1 w2) (hf : FR w b most s.last er l' A c v w1) : FR w b most s.last er l' A c v w2 := by
  obtain ⟨q1, q2⟩ := hf
  refine ⟨q1, ?_⟩
  rcases hr with hb | ⟨_, ho, _⟩ | ⟨_, _, hh⟩
  · exact q2.below hb
  · exact q2.out ho (fun e => h.apart _ e (.inl rfl)) (fun g hg e => h.apart _ e (.inr hg))
  · exact hh
theorem rx_5 (h : PT w t b gs most st k s l l s.last A c W) (D : Step2 w t b gs most st k s l A c f g vt vr er s' l') : ∀ W1, SX gs st W1 → untilU (UX w t b most s l A c) 5 W1 → Calls Try.prog f vt W1 fun e w2 => ∃ v, e = .returned v ∧ FT w t er s' [v] w2 ∧ SX gs st w2 ∧ RX w t b most s s' l' A c 5 W1 w2 := by
  intro W1 hS hu
  refine (D.one W1 (hu _ List.mem_cons_self rfl)).mono ?_
  rintro e w2 ⟨rfl, r1, r2⟩
  exact ⟨_, rfl, ⟨rfl, r1⟩, (r2.block _ (Blk.lt hS) h.gs1).trans hS, .inr (.inl ⟨rfl, r2, r1⟩)⟩
theorem rx_11 (h : PT w t b gs most st k s l l s.last A c W) (D : Step2 w t b gs most st k s l A c f g vt vr er s' l') : ∀ W1, SX gs st W1 → untilU (UX w t b most s l A c) 11 W1 → Calls Try.prog g vr W1 fun e w2 => ∃ v, e = .returned v ∧ FR w b most s.last er l' A c [v] w2 ∧ SX gs st w2 ∧ RX w t b most s s' l' A c 11 W1 w2 := by
  intro W1 hS hu
  refine (D.two W1 (hu _ (List.mem_cons_of_mem _ List.mem_cons_self) rfl)).mono ?_
  rintro e w2 ⟨rfl, r1, r2⟩
  exact ⟨_, rfl, ⟨rfl, r1⟩, (r2.block _ (Blk.lt hS) h.gs2).trans hS, .inr (.inr ⟨rfl, r2, r1⟩)⟩
theorem rx_u0 (h : PT w t b gs most st k s l l s.last A c W) : ∀ q ∈ UX w t b most s l A c, q.2 W.drew := by
  intro q hq
  simp only [UX, List.mem_cons, List.not_mem_nil, or_false] at hq
  rcases hq with rfl | rfl
  · exact h.has.step (Below.drew (Below.refl _ _))
  · exact h.ref.below (Below.drew (Below.refl _ _))
theorem rx_end {l1 l2 : List Value} (h : PT w t b gs most st k s l l s.last A c W) (D : Step2 w t b gs most st k s l A c f g vt vr er s' l') (h1 : FT w t er s' l1 W') (h2 : FR w b most s.last er l' A c l2 W') (hS : SX gs st W') : Good w t b gs most st (k + 1) W' := by
  refine ⟨s', l', A, c, ⟨h1.2, D.rel, ?_, hS, by rw [D.most_]; exact h.hm, by rw [D.last_]; have := h.le; omega, by rw [D.len]; exact h.lrl, h.hb⟩⟩
  rw [D.last_]
  exact h2.2
end
end Go.Proofs.Ytlikngepcbmhdaa
