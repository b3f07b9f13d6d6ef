/- The example of layer 14 (draws) that the document fixes: alive answers true; the document's New. -/
import Derived.Test.YthoodcpigmmehaaDraws3
set_option linter.unusedVariables false
set_option linter.unusedSimpArgs false
namespace Go.Proofs.Ythoodcpigmmehaa
open Go.RowKit

theorem next_v {w : World} {b : Nat} {A : Option Addr} {c : Nat} {l : List Nat} {last used : Nat} (h : DrAt w b A c l last used) (x : Nat) (X : Int) (t : List Nat) (hx : headN l last = x) (hX : (x : Int) = X) (ht : l.tail = t) (hl : last < 4294967296) (hu : used < 1099511627776) :
    Calls Try.prog 20 #[.pointer (some ⟨b, 0, none⟩)] w fun e w' => e = .returned (.int .u32 X) ∧ DrPost w b t x (used + 1) w' := by
  subst hx hX ht
  exact next_at w b A c l last used h hl hu
theorem peek_v {w : World} {b : Nat} {A : Option Addr} {c : Nat} {l : List Nat} {last used : Nat} (h : DrAt w b A c l last used) (x : Nat) (X : Int) (hx : headN l last = x) (hX : (x : Int) = X) (hl : last < 4294967296) :
    Calls Try.prog 16 #[.pointer (some ⟨b, 0, none⟩)] w fun e w' => e = .returned (.int .u32 X) ∧ w = w' := by
  subst hx hX
  exact peek_at w b A c l last used h hl
theorem used_v {w : World} {b : Nat} {A : Option Addr} {c : Nat} {l : List Nat} {last used : Nat} (h : DrAt w b A c l last used) (X : Int) (hX : (used : Int) = X) :
    Calls Try.prog 22 #[.pointer (some ⟨b, 0, none⟩)] w fun e w' => e = .returned (.int .u64 X) ∧ w = w' := by
  subst hX
  exact used_at w b A c l last used h
theorem rule_v (x r : Nat) (X R : Int) (hX : (x : Int) = X) (hr : rule x = r) (hR : (r : Int) = R) (w : World) (hx : x < 4294967296) : Calls Try.prog 43 #[.int .u32 X] w fun e w' => e = .returned (.int .u32 R) ∧ w = w' := by
  subst hX hr hR
  exact ref_rule x w hx
theorem lit1 (w : World) (x : Nat) : Reads (w.alloc (.cells #[.int .u32 (x : Int)] 32)) (w.alloc (.cells #[.int .u32 (x : Int)] 32)).heap.size 1 (some ⟨w.heap.size, 0, none⟩) ([x] : List Nat).length ([x].map u32v) :=
  Reads.of_blk (Blk.new w 32 #[.int .u32 (x : Int)]) (by simp) _ rfl _ rfl
/-- New of one number -/
theorem new_lit (w : World) (x : Nat) (X : Int) (hX : (x : Int) = X) : Calls Try.prog 14 #[.slice (some ⟨w.heap.size, 0, none⟩) 1 1] (w.alloc (.cells #[.int .u32 X] 32)) (NewPost (w.alloc (.cells #[.int .u32 X] 32)) [x]) := by
  subst hX
  exact new_at _ _ 1 [x] (lit1 w x) (by intro h; cases h) (by simp) (by simp) (by decide)
/-- New of none -/
theorem new_none (w : World) : Calls Try.prog 14 #[.slice none 0 0] w (NewPost w []) :=
  new_at w none 0 [] Reads.none_ (fun _ => rfl) (by decide) (by decide) (by decide)
/-- Add of one number -/
theorem add_lit (w : World) (b : Nat) (A : Option Addr) (c : Nat) (l : List Nat) (last used : Nat) (h : DrAt w b A c l last used) (x : Nat) (X : Int) (hX : (x : Int) = X) (hf : l.length + 1 ≤ 4096) :
    Calls Try.prog 18 #[.pointer (some ⟨b, 0, none⟩), .slice (some ⟨w.heap.size, 0, none⟩) 1 1] (w.alloc (.cells #[.int .u32 X] 32)) fun e w' => e = .returned (.int .i64 0) ∧ DrPost (w.alloc (.cells #[.int .u32 X] 32)) b (l ++ [x]) last used w' := by
  subst hX
  exact add_ok _ b A c l last used (h.below ((Below.refl _ _).alloc (Nat.le_refl _) _)) _ 1 [x] (lit1 w x) hf
set_option maxRecDepth 100000 in
set_option maxHeartbeats 2000000 in
theorem alive_dr (w : World) : Calls Try.prog 13 #[] w fun e w' => e = .returned (.bool true) ∧ Below w.heap.size w w' := by
  have n5 := new_lit w 5 5 rfl
  have N5 := Lib.hid n5
  clear n5
  go_enter Try.func13, Try.ntmps13
  go_wp2_with fail
  with_reducible refine N5.out.mono ?_
  rintro e w1 ⟨b, rfl, ⟨A1, k1, h1⟩, hB1, hb⟩
  have hwb : w.heap.size ≤ b := by have : (w.alloc (.cells #[.int .u32 5] 32)).heap.size = w.heap.size + 1 := by simp
                                   omega
  have hB := ((Below.refl w.heap.size w).alloc (Nat.le_refl _) (.cells #[.int .u32 5] 32)).trans (hB1.mono (by simp))
  clear hB1 hb N5
  have HB := Lib.hid hB
  clear hB
  go_wp2_with fail
  with_reducible refine (next_v h1 5 5 [] rfl rfl rfl (by decide) (by decide)).mono ?_
  rintro e w2 ⟨rfl, ⟨A2, k2, h2⟩, hg⟩
  have hB2 := below_only HB.out hg hwb HB.out.size
  clear HB hg h1
  go_wp2_with fail
  with_reducible refine (peek_v h2 1022226848 1022226848 (by decide) rfl (by decide)).mono ?_
  rintro e w3 ⟨rfl, rfl⟩
  go_wp2_with fail
  with_reducible refine (next_v h2 1022226848 1022226848 [] (by decide) rfl rfl (by decide) (by decide)).mono ?_
  rintro e w4 ⟨rfl, ⟨A4, k4, h4⟩, hg⟩
  have hB4 := below_only hB2 hg hwb hB2.size
  clear hB2 hg h2
  go_wp2_with fail
  with_reducible refine (add_lit w4 b A4 k4 [] 1022226848 2 h4 7 7 rfl (by decide)).mono ?_
  rintro e w5 ⟨rfl, ⟨A5, k5, h5⟩, hg⟩
  have hB5 := below_only (hB4.alloc hB4.size (.cells #[.int .u32 7] 32)) hg hwb (Nat.le_trans hB4.size (by simp))
  clear hB4 hg h4
  go_wp2_with fail
  with_reducible refine (next_v h5 7 7 [] rfl rfl rfl (by decide) (by decide)).mono ?_
  rintro e w6 ⟨rfl, ⟨A6, k6, h6⟩, hg⟩
  have hB6 := below_only hB5 hg hwb hB5.size
  clear hB5 hg h5
  go_wp2_with fail
  with_reducible refine (next_v h6 1025555898 1025555898 [] (by decide) rfl rfl (by decide) (by decide)).mono ?_
  rintro e w7 ⟨rfl, ⟨A7, k7, h7⟩, hg⟩
  have hB7 := below_only hB6 hg hwb hB6.size
  clear hB6 hg h6
  go_wp2_with fail
  with_reducible refine (rule_v 5 1022226848 5 1022226848 rfl (by decide) rfl _ (by decide)).mono ?_
  rintro e w8 ⟨rfl, rfl⟩
  go_wp2_with fail
  with_reducible refine (rule_v 7 1025555898 7 1025555898 rfl (by decide) rfl _ (by decide)).mono ?_
  rintro e w8 ⟨rfl, rfl⟩
  go_wp2_with fail
  with_reducible refine (used_v h7 4 rfl).mono ?_
  rintro e w8 ⟨rfl, rfl⟩
  clear h7
  go_wp2_with fail
  with_reducible refine (new_none _).mono ?_
  rintro e w9 ⟨d, rfl, ⟨A9, k9, h9⟩, hB9, hd⟩
  have hB10 := hB7.trans (hB9.mono hB7.size)
  have hwd : w.heap.size ≤ d := Nat.le_trans hB7.size hd
  clear hB7 hB9 hd
  go_wp2_with fail
  with_reducible refine (next_v h9 1013904223 1013904223 [] (by decide) rfl rfl (by decide) (by decide)).mono ?_
  rintro e w11 ⟨rfl, ⟨A11, k11, h11⟩, hg⟩
  have hB11 := below_only hB10 hg hwd hB10.size
  clear hB10 hg h9
  go_wp2
  go_ret
  exact ⟨rfl, hB11⟩
end Go.Proofs.Ythoodcpigmmehaa
