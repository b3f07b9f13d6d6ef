/- Contracts of layer 9 (clock): package clock and the document's answer. -/
import Derived.Test.YtcfomapeiaobaaaWords
import Derived.IntWalk
set_option linter.unusedVariables false
set_option linter.unusedSimpArgs false
set_option linter.unusedSectionVars false
namespace Go.Proofs.Ytcfomapeiaobaaa
open Go.RowKit

def cMay (t : Int) : Bool := decide (0 ≤ t) && decide (t ≤ 17592186044416)
theorem cMay_true {t : Int} : cMay t = true ↔ 0 ≤ t ∧ t ≤ 17592186044416 := by simp [cMay]
theorem cMay_false {t : Int} : cMay t = false ↔ t < 0 ∨ 17592186044416 < t := by
  cases h : cMay t
  · have : ¬ cMay t = true := by simp [h]
    rw [cMay_true] at this
    simp only [true_iff]; omega
  · rw [cMay_true] at h
    simp only [Bool.true_eq_false, false_iff]; omega
def cAdd (t b : Int) : Int × Int := if t < 0 ∨ 17592186044416 < t ∨ b < 0 then (0, 2) else if 17592186044416 - t < b then (0, 9) else (t + b, 0)

theorem may_any (t : Int) (w : World) (h1 : -9223372036854775808 ≤ t) (h2 : t ≤ 9223372036854775807) :
    Calls Try.prog 27 #[.int .i64 t] w fun e w' => e = .returned (.bool (cMay t)) ∧ w = w' := by
  by_cases h : 0 ≤ t
  · have hv : cMay t = decide (t ≤ 17592186044416) := by simp [cMay, h]
    have H := Lib.hid hv
    clear hv
    go_enter Try.func27, Try.ntmps27
    go_wp2
    go_ret
    exact ⟨ret_bool H.out.symm, rfl⟩
  · have hv : cMay t = false := by simp [cMay, h]
    have H := Lib.hid hv
    clear hv
    go_enter Try.func27, Try.ntmps27
    go_wp2
    go_ret
    exact ⟨ret_bool H.out.symm, rfl⟩
theorem ref_may_any (t : Int) (w : World) (h1 : -9223372036854775808 ≤ t) (h2 : t ≤ 9223372036854775807) :
    Calls Try.prog 28 #[.int .i64 t] w fun e w' => e = .returned (.bool (cMay t)) ∧ w = w' := by
  by_cases h : 0 ≤ t
  · have hv : cMay t = decide (t ≤ 17592186044416) := by simp [cMay, h]
    have H := Lib.hid hv
    clear hv
    go_enter Try.func28, Try.ntmps28
    go_wp2
    go_ret
    exact ⟨ret_bool H.out.symm, rfl⟩
  · have hv : cMay t = false := by simp [cMay, h]
    have H := Lib.hid hv
    clear hv
    go_enter Try.func28, Try.ntmps28
    go_wp2
    go_ret
    exact ⟨ret_bool H.out.symm, rfl⟩
theorem may_v (t : Int) (v : Bool) (hv : cMay t = v) (w : World) (h1 : -9223372036854775808 ≤ t) (h2 : t ≤ 9223372036854775807) :
    Calls Try.prog 27 #[.int .i64 t] w fun e w' => e = .returned (.bool v) ∧ w = w' := by subst hv; exact may_any t w h1 h2
theorem ref_may_v (t : Int) (v : Bool) (hv : cMay t = v) (w : World) (h1 : -9223372036854775808 ≤ t) (h2 : t ≤ 9223372036854775807) :
    Calls Try.prog 28 #[.int .i64 t] w fun e w' => e = .returned (.bool v) ∧ w = w' := by subst hv; exact ref_may_any t w h1 h2

def pair2 (a b : Int) : Ending := .returned (.tuple #[.int .i64 a, .int .i64 b])
theorem add_any (t b x e : Int) (hx : cAdd t b = (x, e)) (w : World) (h1 : -9223372036854775808 ≤ t) (h2 : t ≤ 9223372036854775807) (h3 : -9223372036854775808 ≤ b) (h4 : b ≤ 9223372036854775807) :
    Calls Try.prog 25 #[.int .i64 t, .int .i64 b] w fun r w' => r = .returned (.tuple #[.int .i64 x, .int .i64 e]) ∧ w = w' := by
  unfold cAdd at hx
  by_cases c : t < 0 ∨ 17592186044416 < t
  · rw [if_pos (by omega)] at hx
    cases hx
    have H := Lib.hid (fun w => may_v t false (cMay_false.2 c) w h1 h2)
    go_enter Try.func25, Try.ntmps25
    go_wp2_with fail
    (with_reducible refine (H.out _).mono ?_)
    rintro e w' ⟨rfl, rfl⟩
    go_wp2
    go_ret2
    exact ⟨rfl, rfl⟩
  · have H := Lib.hid (fun w => may_v t true (cMay_true.2 (by omega)) w h1 h2)
    by_cases d : b < 0
    · rw [if_pos (by omega)] at hx
      cases hx
      go_enter Try.func25, Try.ntmps25
      go_wp2_with fail
      (with_reducible refine (H.out _).mono ?_)
      rintro e w' ⟨rfl, rfl⟩
      go_wp2
      go_ret2
      exact ⟨rfl, rfl⟩
    · rw [if_neg (by omega)] at hx
      by_cases f : 17592186044416 - t < b
      · rw [if_pos (by omega)] at hx
        cases hx
        go_enter Try.func25, Try.ntmps25
        go_wp2_with fail
        (with_reducible refine (H.out _).mono ?_)
        rintro e w' ⟨rfl, rfl⟩
        go_wp2
        go_ret2
        exact ⟨rfl, rfl⟩
      · rw [if_neg (by omega)] at hx
        cases hx
        go_enter Try.func25, Try.ntmps25
        go_wp2_with fail
        (with_reducible refine (H.out _).mono ?_)
        rintro e w' ⟨rfl, rfl⟩
        go_wp2
        go_ret2
        exact ⟨rfl, rfl⟩
theorem ref_add_any (t b x e : Int) (hx : cAdd t b = (x, e)) (w : World) (h1 : -9223372036854775808 ≤ t) (h2 : t ≤ 9223372036854775807) (h3 : -9223372036854775808 ≤ b) (h4 : b ≤ 9223372036854775807) :
    Calls Try.prog 26 #[.int .i64 t, .int .i64 b] w fun r w' => r = .returned (.tuple #[.int .i64 x, .int .i64 e]) ∧ w = w' := by
  unfold cAdd at hx
  by_cases c : t < 0 ∨ 17592186044416 < t
  · rw [if_pos (by omega)] at hx
    cases hx
    have H := Lib.hid (fun w => ref_may_v t false (cMay_false.2 c) w h1 h2)
    go_enter Try.func26, Try.ntmps26
    go_wp2_with fail
    (with_reducible refine (H.out _).mono ?_)
    rintro e w' ⟨rfl, rfl⟩
    go_wp2
    go_ret2
    exact ⟨rfl, rfl⟩
  · have H := Lib.hid (fun w => ref_may_v t true (cMay_true.2 (by omega)) w h1 h2)
    by_cases d : b < 0
    · rw [if_pos (by omega)] at hx
      cases hx
      go_enter Try.func26, Try.ntmps26
      go_wp2_with fail
      (with_reducible refine (H.out _).mono ?_)
      rintro e w' ⟨rfl, rfl⟩
      go_wp2
      go_ret2
      exact ⟨rfl, rfl⟩
    · rw [if_neg (by omega)] at hx
      by_cases f : 17592186044416 - t < b
      · rw [if_pos (by omega)] at hx
        cases hx
        go_enter Try.func26, Try.ntmps26
        go_wp2_with fail
        (with_reducible refine (H.out _).mono ?_)
        rintro e w' ⟨rfl, rfl⟩
        go_wp2
        go_ret2
        exact ⟨rfl, rfl⟩
      · rw [if_neg (by omega)] at hx
        cases hx
        go_enter Try.func26, Try.ntmps26
        go_wp2_with fail
        (with_reducible refine (H.out _).mono ?_)
        rintro e w' ⟨rfl, rfl⟩
        go_wp2
        go_ret2
        exact ⟨rfl, rfl⟩
theorem cAdd_bounds (t b : Int) : 0 ≤ (cAdd t b).1 ∧ (cAdd t b).1 ≤ 17592186044416 := by
  unfold cAdd
  split
  · simp
  · split
    · simp
    · simp only; omega
theorem cAdd_err (t b : Int) : (cAdd t b).2 = 0 ∨ (cAdd t b).2 = 2 ∨ (cAdd t b).2 = 9 := by
  unfold cAdd
  split
  · simp
  · split <;> simp

/-- a clock in memory -/
def Clk (w : World) (g : Nat) (now : Int) : Prop := Blk w g 74 #[.int .i64 now, .bool true]
theorem Clk.c0 {w : World} {g : Nat} {now : Int} (h : Clk w g now) : w.cell? ⟨g, 0, none⟩ = some (.int .i64 now) := Blk.cell h 0
theorem Clk.c1 {w : World} {g : Nat} {now : Int} (h : Clk w g now) : w.cell? ⟨g, 1, none⟩ = some (.bool true) := Blk.cell h 1
theorem Clk.f0 {w : World} {g : Nat} {now : Int} (h : Clk w g now) : w.frozen? ⟨g, 0, none⟩ = false := Blk.frozen h 0
theorem Clk.set_ {w : World} {g : Nat} {now : Int} (h : Clk w g now) (t : Int) : Clk (w.setCell ⟨g, 0, none⟩ (.int .i64 t)) g t := Blk.set_ h 0 (.int .i64 t)
theorem Clk.grown {w w' : World} {g : Nat} {now : Int} {row : Option Nat} (h : Clk w g now) (hb : w.grownBy w' row) (hg : some g ≠ row) : Clk w' g now := Blk.grown h hb hg

theorem clk_new (t : Int) (w : World) (h1 : -9223372036854775808 ≤ t) (h2 : t ≤ 9223372036854775807) (hm : cMay t = true) :
    Calls Try.prog 31 #[.int .i64 t] w fun r w' => r = .returned (.tuple #[.pointer (some ⟨w.heap.size, 0, none⟩), .int .i64 0]) ∧ Clk w' w.heap.size t ∧ Below w.heap.size w w' := by
  have H := Lib.hid (fun w => may_v t true hm w h1 h2)
  clear hm
  go_enter Try.func31, Try.ntmps31
  go_wp2_with fail
  (with_reducible refine (H.out _).mono ?_)
  rintro e w' ⟨rfl, rfl⟩
  go_wp2
  go_ret2
  exact ⟨rfl, Blk.new _ _ _, (Below.refl _ _).alloc (Nat.le_refl _) _⟩
theorem clk_none (t : Int) (w : World) (h1 : -9223372036854775808 ≤ t) (h2 : t ≤ 9223372036854775807) (hm : cMay t = false) :
    Calls Try.prog 31 #[.int .i64 t] w fun r w' => r = .returned (.tuple #[.pointer none, .int .i64 2]) ∧ w = w' := by
  have H := Lib.hid (fun w => may_v t false hm w h1 h2)
  clear hm
  go_enter Try.func31, Try.ntmps31
  go_wp2_with fail
  (with_reducible refine (H.out _).mono ?_)
  rintro e w' ⟨rfl, rfl⟩
  go_wp2
  go_ret2
  exact ⟨rfl, rfl⟩

theorem clk_now (g : Nat) (now : Int) (w : World) (h : Clk w g now) :
    Calls Try.prog 33 #[.pointer (some ⟨g, 0, none⟩)] w fun r w' => r = .returned (.int .i64 now) ∧ w = w' := by
  have h0 := h.c0
  go_enter Try.func33, Try.ntmps33
  go_wp2
  go_ret
  exact ⟨rfl, rfl⟩
theorem clk_left (g : Nat) (now at_ : Int) (w : World) (h : Clk w g now) (n0 : 0 ≤ now) (n1 : now ≤ 17592186044416) (h1 : -9223372036854775808 ≤ at_) (h2 : at_ ≤ 9223372036854775807) (v : Int) (hv : v = if now < at_ then at_ - now else 0) :
    Calls Try.prog 34 #[.pointer (some ⟨g, 0, none⟩), .int .i64 at_] w fun r w' => r = .returned (.int .i64 v) ∧ w = w' := by
  have k0 := h.c0
  have k1 := h.c1
  by_cases c : now < at_
  · rw [if_pos c] at hv
    have H := Lib.hid hv
    clear hv
    go_enter Try.func34, Try.ntmps34
    go_wp2
    go_ret
    exact ⟨ret_int H.out.symm, rfl⟩
  · rw [if_neg c] at hv
    have H := Lib.hid hv
    clear hv
    go_enter Try.func34, Try.ntmps34
    go_wp2
    go_ret
    exact ⟨ret_int H.out.symm, rfl⟩
theorem clk_go (g : Nat) (now b : Int) (w : World) (h : Clk w g now) (n0 : 0 ≤ now) (n1 : now ≤ 17592186044416) (h1 : -9223372036854775808 ≤ b) (h2 : b ≤ 9223372036854775807) (x e : Int) (hx : cAdd now b = (x, e)) (x' : Int) (hx' : x' = if e = 0 then x else now) :
    Calls Try.prog 32 #[.pointer (some ⟨g, 0, none⟩), .int .i64 b] w fun r w' => r = .returned (.int .i64 e) ∧ Clk w' g x' ∧ w.grownBy w' (some g) := by
  have k0 := h.c0
  have k1 := h.c1
  have kf := h.f0
  have H := Lib.hid (fun w => add_any now b x e hx w (by omega) (by omega) h1 h2)
  by_cases c : e = 0
  · subst c
    rw [if_pos rfl] at hx'
    subst hx'
    clear hx
    go_enter Try.func32, Try.ntmps32
    go_wp2_with fail
    (with_reducible refine (H.out _).mono ?_)
    rintro e w' ⟨rfl, rfl⟩
    go_wp2
    go_ret
    exact ⟨rfl, h.set_ _, only_setCell (World.grownBy.refl _ _) (.inl rfl) _⟩
  · rw [if_neg c] at hx'
    subst hx'
    have c' : (e == 0) = false := by simpa using c
    clear hx c
    go_enter Try.func32, Try.ntmps32
    go_wp2_with fail
    (with_reducible refine (H.out _).mono ?_)
    rintro e w' ⟨rfl, rfl⟩
    go_wp2
    go_ret
    exact ⟨rfl, h, World.grownBy.refl _ _⟩
theorem clk_nil_now (w : World) : Calls Try.prog 33 #[.pointer none] w fun r w' => r = .returned (.int .i64 0) ∧ w = w' := by
  go_enter Try.func33, Try.ntmps33
  go_wp2
  go_ret
  exact ⟨rfl, rfl⟩
theorem clk_nil_go (w : World) (b : Int) : Calls Try.prog 32 #[.pointer none, .int .i64 b] w fun r w' => r = .returned (.int .i64 1) ∧ w = w' := by
  go_enter Try.func32, Try.ntmps32
  go_wp2
  go_ret
  exact ⟨rfl, rfl⟩
theorem clk_nil_left (w : World) (b : Int) : Calls Try.prog 34 #[.pointer none, .int .i64 b] w fun r w' => r = .returned (.int .i64 0) ∧ w = w' := by
  go_enter Try.func34, Try.ntmps34
  go_wp2
  go_ret
  exact ⟨rfl, rfl⟩
end Go.Proofs.Ytcfomapeiaobaaa
