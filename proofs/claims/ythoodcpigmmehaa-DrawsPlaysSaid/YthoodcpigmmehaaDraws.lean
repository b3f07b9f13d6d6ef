/- Contracts of layer 14 (draws), first part: the numbers in memory; none, first, Peek, drop, Next, Used. -/
import Derived.Test.YthoodcpigmmehaaFlat
import Derived.Lib.MinMax
import Derived.StillTailTactics
import Derived.Deep.DeepCutAuto
set_option linter.unusedVariables false
set_option linter.unusedSimpArgs false
namespace Go.Proofs.Ythoodcpigmmehaa
open Go.RowKit

/-- the number behind another one -/
def rule (x : Nat) : Nat := (x * 1664525 + 1013904223) % 4294967296
/-- the numbers l, from A on, in another block than b -/
def R32 (w : World) (b : Nat) (A : Option Addr) (l : List Nat) : Prop :=
  l = [] ∨ ∃ r off, A = some ⟨r, off, none⟩ ∧ r ≠ b ∧ (r < w.heap.size ∧ ∃ cs, Blk w r 32 cs) ∧ ∀ j, j < l.length → w.cell? ⟨r, off + j, none⟩ = some (.int .u32 ((l.getD j 0 : Nat) : Int))
/-- draws in memory -/
def DrAt (w : World) (b : Nat) (A : Option Addr) (c : Nat) (l : List Nat) (last used : Nat) : Prop :=
  Blk w b 89 #[.slice A l.length c, .int .u32 (last : Int), .int .u64 (used : Int), .bool true] ∧ R32 w b A l ∧ l.length ≤ c ∧ c ≤ 9223372036854775807
def headN (l : List Nat) (last : Nat) : Nat := match l with | [] => rule last | x :: _ => x
section
variable {w w' : World} {b : Nat} {A : Option Addr} {c last used : Nat} {l : List Nat}
theorem R32.of (h : R32 w b A l) (hs : w.heap.size ≤ w'.heap.size) (hk : ∀ g, g < w.heap.size → g ≠ b → w'.heap[g]? = w.heap[g]?) : R32 w' b A l := by
  rcases h with rfl | ⟨r, off, rfl, h1, h2, h3⟩
  · exact .inl rfl
  · obtain ⟨h2, cs, h4⟩ := h2
    exact .inr ⟨r, off, rfl, h1, ⟨by omega, cs, (hk r h2 h1).trans h4⟩, fun j hj => (World.cell?_of_block (hk r h2 h1)).trans (h3 j hj)⟩
theorem DrAt.of (h : DrAt w b A c l last used) (hs : w.heap.size ≤ w'.heap.size) (hk : ∀ g, g < w.heap.size → w'.heap[g]? = w.heap[g]?) : DrAt w' b A c l last used :=
  ⟨(hk b h.1.lt).trans h.1, h.2.1.of hs fun g hg _ => hk g hg, h.2.2⟩
theorem DrAt.below (h : DrAt w b A c l last used) (hb : Below w.heap.size w w') : DrAt w' b A c l last used := h.of hb.size hb.block
theorem DrAt.lt (h : DrAt w b A c l last used) : b < w.heap.size := h.1.lt
theorem DrAt.c0 (h : DrAt w b A c l last used) : w.cell? ⟨b, 0, none⟩ = some (.slice A l.length c) := by have := h.1.cell 0; simpa using this
theorem DrAt.c1 (h : DrAt w b A c l last used) : w.cell? ⟨b, 1, none⟩ = some (.int .u32 (last : Int)) := by have := h.1.cell 1; simpa using this
theorem DrAt.c2 (h : DrAt w b A c l last used) : w.cell? ⟨b, 2, none⟩ = some (.int .u64 (used : Int)) := by have := h.1.cell 2; simpa using this
theorem DrAt.c3 (h : DrAt w b A c l last used) : w.cell? ⟨b, 3, none⟩ = some (.bool true) := by have := h.1.cell 3; simpa using this
end

theorem none_at (w : World) (b : Nat) (h3 : w.cell? ⟨b, 3, none⟩ = some (.bool true)) :
    Calls Try.prog 45 #[.pointer (some ⟨b, 0, none⟩)] w fun e w' => e = .returned (.bool false) ∧ w = w' := by
  go_enter Try.func45, Try.ntmps45
  go_wp2
  go_ret
  exact ⟨rfl, rfl⟩
theorem none_nil (w : World) :
    Calls Try.prog 45 #[.pointer none] w fun e w' => e = .returned (.bool true) ∧ w = w' := by
  go_enter Try.func45, Try.ntmps45
  go_wp2
  go_ret
  exact ⟨rfl, rfl⟩
theorem first_nil (w : World) (b : Nat) (A : Option Addr) (c : Nat) (h0 : w.cell? ⟨b, 0, none⟩ = some (.slice A 0 c)) :
    Calls Try.prog 46 #[.pointer (some ⟨b, 0, none⟩)] w fun e w' => e = .returned (.tuple #[.int .u32 0, .bool false]) ∧ w = w' := by
  go_enter Try.func46, Try.ntmps46
  go_wp2
  go_ret2
  exact ⟨rfl, rfl⟩
theorem first_cons (w : World) (b r off n c x : Nat) (h0 : w.cell? ⟨b, 0, none⟩ = some (.slice (some ⟨r, off, none⟩) (n + 1) c)) (hx : w.cell? ⟨r, off, none⟩ = some (.int .u32 (x : Int))) (hc : c ≤ 9223372036854775807) (hn : n + 1 ≤ c) :
    Calls Try.prog 46 #[.pointer (some ⟨b, 0, none⟩)] w fun e w' => e = .returned (.tuple #[.int .u32 (x : Int), .bool true]) ∧ w = w' := by
  go_enter Try.func46, Try.ntmps46
  go_wp2
  go_ret2
  exact ⟨rfl, rfl⟩
theorem rule_int (x : Nat) (hx : x < 4294967296) : ((x : Int) * 1664525 % 4294967296 + 1013904223) % 4294967296 = ((rule x : Nat) : Int) := by
  unfold rule
  omega
theorem peek_at (w : World) (b : Nat) (A : Option Addr) (c : Nat) (l : List Nat) (last used : Nat) (h : DrAt w b A c l last used) (hl : last < 4294967296) :
    Calls Try.prog 16 #[.pointer (some ⟨b, 0, none⟩)] w fun e w' => e = .returned (.int .u32 ((headN l last : Nat) : Int)) ∧ w = w' := by
  have k0 := h.c0
  have c1 := h.c1
  have c3 := h.c3
  have hR := h.2.1
  have hc1 := h.2.2.1
  have hc2 := h.2.2.2
  clear h
  cases l with
  | nil =>
    have hru := rule_int last hl
    have HR := Lib.hid hru
    have K := Lib.hid k0
    have C3 := Lib.hid c3
    clear hru hR k0 c3
    go_enter Try.func16, Try.ntmps16
    go_wp2_with fail
    (with_reducible refine (none_at _ b C3.out).mono ?_)
    rintro e w' ⟨rfl, rfl⟩
    go_wp2_with fail
    (with_reducible refine (first_nil _ b A c K.out).mono ?_)
    rintro e w' ⟨rfl, rfl⟩
    go_wp2
    go_ret
    exact ⟨ret_int HR.out, rfl⟩
  | cons x t =>
    rcases hR with h | ⟨r, off, rfl, h1, h2, h3⟩
    · cases h
    have hx := h3 0 (by simp)
    simp only [Nat.add_zero, List.getD_cons_zero] at hx
    have hn : t.length + 1 ≤ c := hc1
    have k9 : w.cell? ⟨b, 0, none⟩ = some (.slice (some ⟨r, off, none⟩) (t.length + 1) c) := k0
    have K9 := Lib.hid k9
    clear k9
    have Hx := Lib.hid hx
    clear hx
    have C3 := Lib.hid c3
    clear c3
    clear h3 k0 hc1
    go_enter Try.func16, Try.ntmps16
    go_wp2_with fail
    (with_reducible refine (none_at _ b C3.out).mono ?_)
    rintro e w' ⟨rfl, rfl⟩
    go_wp2_with fail
    (with_reducible refine (first_cons _ b r off t.length c x K9.out Hx.out hc2 hn).mono ?_)
    rintro e w' ⟨rfl, rfl⟩
    go_wp2
    go_ret
    exact ⟨rfl, rfl⟩
theorem used_at (w : World) (b : Nat) (A : Option Addr) (c : Nat) (l : List Nat) (last used : Nat) (h : DrAt w b A c l last used) :
    Calls Try.prog 22 #[.pointer (some ⟨b, 0, none⟩)] w fun e w' => e = .returned (.int .u64 (used : Int)) ∧ w = w' := by
  have c2 := h.c2
  have c3 := h.c3
  have C3 := Lib.hid c3
  clear c3
  go_enter Try.func22, Try.ntmps22
  go_wp2_with fail
  (with_reducible refine (none_at _ b C3.out).mono ?_)
  rintro e w' ⟨rfl, rfl⟩
  go_wp2
  go_ret
  exact ⟨rfl, rfl⟩
/-- what becomes of draws: they have the numbers l now; nothing else has turned -/
def DrPost (w : World) (b : Nat) (l : List Nat) (last used : Nat) (w' : World) : Prop := (∃ A c, DrAt w' b A c l last used) ∧ w.grownBy w' (some b)
theorem R32.grown {w w' : World} {b : Nat} {A : Option Addr} {l : List Nat} (h : R32 w b A l) (hg : w.grownBy w' (some b)) : R32 w' b A l := h.of hg.size fun g h1 h2 => hg.block g h1 (by intro e; injection e with e; exact h2 e)
theorem only_below_set {w W : World} {b : Nat} (h : Below w.heap.size w W) (i : Nat) (v : Value) : w.grownBy (W.setCell ⟨b, i, none⟩ v) (some b) := only_set (only_of_below h _) i v
theorem drop_at (w : World) (b : Nat) (A : Option Addr) (c : Nat) (l : List Nat) (last used : Nat) (h : DrAt w b A c l last used) :
    Calls Try.prog 48 #[.pointer (some ⟨b, 0, none⟩)] w fun e w' => e = .returned (.tuple #[]) ∧ DrPost w b l.tail last used w' := by
  obtain ⟨h, hR, hc0, hc2⟩ := h
  cases l with
  | nil =>
    have hmin : min (1 : Int) 0 = 0 := by omega
    have hc1 : (0 : Int) ≤ (c : Int) := by omega
    have hc3 : (c : Int) ≤ 9223372036854775807 := by omega
    obtain ⟨v1, e1⟩ : ∃ v, v = Value.int .u32 (last : Int) := ⟨_, rfl⟩
    obtain ⟨v2, e2⟩ : ∃ v, v = Value.int .u64 (used : Int) := ⟨_, rfl⟩
    obtain ⟨v3, e3⟩ : ∃ v, v = Value.bool true := ⟨_, rfl⟩
    rw [← e1, ← e2, ← e3] at h
    have hS0 : KeepS w b 89 #[.slice A 0 c, v1, v2, v3] w := ⟨Below.refl _ _, h⟩
    have ne : Nonempty (Cls (KeepS w b 89 #[.slice A 0 c, v1, v2, v3])) := ⟨⟨w, hS0⟩⟩
    have k0 : ∀ y : Cls (KeepS w b 89 #[.slice A 0 c, v1, v2, v3]), y.w.cell? ⟨b, 0, none⟩ = some (.slice A 0 c) := fun y => (y.h.2.cell 0).trans (by simp)
    have E1 := Lib.hid e1
    clear e1
    have E2 := Lib.hid e2
    clear e2
    have E3 := Lib.hid e3
    clear e3
    have HR := Lib.hid hR
    clear hR
    clear h
    go_enter Try.func48, Try.ntmps48
    refine wp_region_flat1 14 (KeepS w b 89 #[.slice A 0 c, v1, v2, v3]) (fun w w' => Below w.heap.size w w') (by kernel_rfl) (by kernel_rfl) (by kernel_rfl) (fun w => Below.refl _ _) hS0.drew ?_
    simp only [List.take_succ_cons, List.take_zero, List.drop_succ_cons, List.drop_zero]
    repeat (first
      | (refine nilCheck_quiet ⟨b, 0, none⟩ rfl (fun w => Below.refl _ _) rfl rfl rfl w ?_; intro K hK; go_big_quiet_op; go_big_quiet_on)
      | (refine flat_quiet (fun w => Below.refl _ _) rfl rfl rfl rfl ?_; intro K hK; go_big_quiet_op; go_big_quiet_on))
    refine flat_nil ?_
    intro W hW
    simp only [endF]
    clear ne hS0 k0
    have c0 := hW.2.cell 0
    simp at c0
    have fz := hW.2.frozen 0
    have hpost : ∀ A', DrPost w b [] last used (W.setCell ⟨b, 0, none⟩ (.slice A' 0 c)) := fun A' => by
      have hk := hW.2.set_ 0 (.slice A' 0 c)
      rw [E1.out, E2.out, E3.out] at hk
      exact ⟨⟨A', c, ⟨by simpa using hk, .inl rfl, hc0, hc2⟩⟩, only_below_set hW.1 0 _⟩
    have Hpost := Lib.hid hpost
    clear hpost
    clear hW
    go_wp2
    all_goals go_end0
    all_goals exact ⟨rfl, Hpost.out _⟩
  | cons x t =>
    obtain ⟨n, hn⟩ : ∃ n, n = t.length := ⟨_, rfl⟩
    have hln : (x :: t).length = n + 1 := by rw [hn]; rfl
    rw [hln] at h hc0
    rcases hR with h | ⟨r, off, rfl, hr1, hr2, hr3⟩
    · cases h
    have hmin : min (1 : Int) ((n : Int) + 1) = 1 := by omega
    have hc1 : (n : Int) + 1 ≤ (c : Int) := by omega
    have hc3 : (c : Int) ≤ 9223372036854775807 := by omega
    obtain ⟨v1, e1⟩ : ∃ v, v = Value.int .u32 (last : Int) := ⟨_, rfl⟩
    obtain ⟨v2, e2⟩ : ∃ v, v = Value.int .u64 (used : Int) := ⟨_, rfl⟩
    obtain ⟨v3, e3⟩ : ∃ v, v = Value.bool true := ⟨_, rfl⟩
    rw [← e1, ← e2, ← e3] at h
    have hS0 : KeepS w b 89 #[.slice (some ⟨r, off, none⟩) (n + 1) c, v1, v2, v3] w := ⟨Below.refl _ _, h⟩
    have ne : Nonempty (Cls (KeepS w b 89 #[.slice (some ⟨r, off, none⟩) (n + 1) c, v1, v2, v3])) := ⟨⟨w, hS0⟩⟩
    have k0 : ∀ y : Cls (KeepS w b 89 #[.slice (some ⟨r, off, none⟩) (n + 1) c, v1, v2, v3]), y.w.cell? ⟨b, 0, none⟩ = some (.slice (some ⟨r, off, none⟩) (n + 1) c) := fun y => (y.h.2.cell 0).trans (by simp)
    have hpost : ∀ W A', KeepS w b 89 #[.slice (some ⟨r, off, none⟩) (n + 1) c, v1, v2, v3] W → (A' = some ⟨r, off + 1, none⟩ ∨ n = 0) → DrPost w b t last used (W.setCell ⟨b, 0, none⟩ (.slice A' n (c - 1))) := fun W A' hW hA => by
      have hk := hW.2.set_ 0 (.slice A' n (c - 1))
      rw [e1, e2, e3] at hk
      have hg := only_below_set (b := b) hW.1 0 (.slice A' n (c - 1))
      refine ⟨⟨A', c - 1, ⟨by rw [hn] at hk ⊢; simpa using hk, ?_, by rw [← hn]; omega, by omega⟩⟩, hg⟩
      rcases hA with rfl | h0
      · obtain ⟨hr2, cs, hr4⟩ := hr2
        refine .inr ⟨r, off + 1, rfl, hr1, ⟨Nat.lt_of_lt_of_le hr2 hg.size, cs, Blk.grown hr4 hg (by intro e; injection e with e; exact hr1 e)⟩, fun j hj => ?_⟩
        have := hr3 (j + 1) (by rw [hln]; omega)
        rw [World.cell?_of_block (hg.block r hr2 (by intro e; injection e with e; exact hr1 e))]
        rw [show off + 1 + j = off + (j + 1) by omega]
        simpa using this
      · exact .inl (List.eq_nil_of_length_eq_zero (by omega))
    have E1 := Lib.hid e1
    clear e1
    have E2 := Lib.hid e2
    clear e2
    have E3 := Lib.hid e3
    clear e3
    have Hpost := Lib.hid hpost
    clear hpost
    have Hr3 := Lib.hid hr3
    clear hr3
    have Hn := Lib.hid hn
    clear hn
    clear h hln
    go_enter Try.func48, Try.ntmps48
    refine wp_region_flat1 14 (KeepS w b 89 #[.slice (some ⟨r, off, none⟩) (n + 1) c, v1, v2, v3]) (fun w w' => Below w.heap.size w w') (by kernel_rfl) (by kernel_rfl) (by kernel_rfl) (fun w => Below.refl _ _) hS0.drew ?_
    simp only [List.take_succ_cons, List.take_zero, List.drop_succ_cons, List.drop_zero]
    repeat (first
      | (refine nilCheck_quiet ⟨b, 0, none⟩ rfl (fun w => Below.refl _ _) rfl rfl rfl w ?_; intro K hK; go_big_quiet_op; go_big_quiet_on)
      | (refine flat_quiet (fun w => Below.refl _ _) rfl rfl rfl rfl ?_; intro K hK; go_big_quiet_op; go_big_quiet_on))
    refine flat_nil ?_
    intro W hW
    simp only [endF]
    clear ne hS0 k0
    have c0 := hW.2.cell 0
    simp at c0
    have fz := hW.2.frozen 0
    have HW := Lib.hid hW
    clear hW
    go_wp2
    · have hn0 : n = 0 := by omega
      go_end0
      have hp := Hpost.out W (some ⟨r, off, none⟩) HW.out (.inr hn0)
      rw [show c - 1 = 0 by omega] at hp
      exact ⟨rfl, hp⟩
    · go_end0
      exact ⟨rfl, Hpost.out _ _ HW.out (.inl rfl)⟩
theorem DrAt.set1 {w : World} {b : Nat} {A : Option Addr} {c : Nat} {l : List Nat} {last used : Nat} (h : DrAt w b A c l last used) (x : Nat) : DrAt (w.setCell ⟨b, 1, none⟩ (.int .u32 (x : Int))) b A c l x used := by
  have hk := h.1.set_ 1 (.int .u32 (x : Int))
  exact ⟨by simpa using hk, h.2.1.grown (only_set (World.grownBy.refl w _) 1 _), h.2.2⟩
theorem DrAt.set2 {w : World} {b : Nat} {A : Option Addr} {c : Nat} {l : List Nat} {last used : Nat} (h : DrAt w b A c l last used) (x : Nat) : DrAt (w.setCell ⟨b, 2, none⟩ (.int .u64 (x : Int))) b A c l last x := by
  have hk := h.1.set_ 2 (.int .u64 (x : Int))
  exact ⟨by simpa using hk, h.2.1.grown (only_set (World.grownBy.refl w _) 2 _), h.2.2⟩
theorem grown_trans' {a b c : World} {g : Nat} (h : a.grownBy b (some g)) (k : b.grownBy c (some g)) : a.grownBy c (some g) :=
  ⟨k.os.trans h.os, k.tape.trans h.tape, k.output.trans h.output, Nat.le_trans h.size k.size, fun i hi hne => (k.block i (Nat.lt_of_lt_of_le hi h.size) hne).trans (h.block i hi hne)⟩
theorem next_at (w : World) (b : Nat) (A : Option Addr) (c : Nat) (l : List Nat) (last used : Nat) (h : DrAt w b A c l last used) (hl : last < 4294967296) (hu : used < 1099511627776) :
    Calls Try.prog 20 #[.pointer (some ⟨b, 0, none⟩)] w fun e w' => e = .returned (.int .u32 ((headN l last : Nat) : Int)) ∧ DrPost w b l.tail (headN l last) (used + 1) w' := by
  have c3 := h.c3
  have f1 := h.1.frozen 1
  have c1 := h.c1
  have p := peek_at w b A c l last used h hl
  generalize headN l last = x at *
  have C3 := Lib.hid c3
  clear c3
  have P := Lib.hid p
  clear p
  have H := Lib.hid h
  clear h
  go_enter Try.func20, Try.ntmps20
  go_wp2_with fail
  (with_reducible refine (none_at _ b C3.out).mono ?_)
  rintro e w' ⟨rfl, rfl⟩
  go_wp2_with fail
  (with_reducible refine (P.out).mono ?_)
  rintro e w' ⟨rfl, rfl⟩
  go_upto_region 4 with fail
  have h2 := H.out.set1 x
  have g2 : w.grownBy (w.setCell ⟨b, 1, none⟩ (.int .u32 (x : Int))) (some b) := only_set (World.grownBy.refl w _) 1 _
  clear c1 f1 H
  generalize w.setCell _ _ = w2 at *
  go_wp2_with fail
  with_reducible refine (drop_at _ b A c l x used h2).mono ?_
  rintro e w3 ⟨rfl, ⟨A3, c3, h3⟩, g3⟩
  have c2 := h3.c2
  have c1 := h3.c1
  have f2 := h3.1.frozen 2
  have h4 := h3.set2 (used + 1)
  have g4 := grown_trans' (grown_trans' g2 g3) (only_set (World.grownBy.refl w3 (some b)) 2 (.int .u64 ((used + 1 : Nat) : Int)))
  have e4 : ((used + 1 : Nat) : Int) = (used : Int) + 1 := by omega
  rw [e4] at h4 g4
  have hpost : DrPost w b l.tail x (used + 1) (w3.setCell ⟨b, 2, none⟩ (.int .u64 ((used : Int) + 1))) := ⟨⟨A3, c3, h4⟩, g4⟩
  have Hpost := Lib.hid hpost
  clear hpost
  clear h3 g3 h2 g2 h4 g4 e4
  go_wp2
  go_ret
  exact ⟨rfl, Hpost.out⟩
end Go.Proofs.Ythoodcpigmmehaa
