/- A row of spans in memory; the order by which Add sorts (a closure, with a key that is a closure). -/
import Derived.Test.YtnnpahjopfkchaaSpSort
import Derived.Test.YtnnpahjopfkchaaClass
import Derived.Test.YtnnpahjopfkchaaFlatK
import Derived.Deep.DeepCutAuto
set_option linter.unusedVariables false
set_option linter.unusedSimpArgs false
namespace Go.Proofs.Ytnnpahjopfkchaa
open Go.RowKit Go.BigFrame

def spV (x : Sp) : Value := .agg #[.int .u64 (x.1 : Int), .int .u64 (x.2 : Int)]
/-- block g holds n spans -/
def RowS (W : World) (g n : Nat) (d : Row) : Prop := ∃ cs : Array Value, W.heap[g]? = some (.cells cs 25 (0, 0)) ∧ n * 2 ≤ cs.size ∧ ∀ j, j < n → cs[j * 2]? = some (.int .u64 ((d j).1 : Int)) ∧ cs[j * 2 + 1]? = some (.int .u64 ((d j).2 : Int))
section
variable {w W W' : World} {g n : Nat} {d : Row}
theorem RowS.lt (h : RowS W g n d) : g < W.heap.size := by obtain ⟨cs, h1, _⟩ := h; exact (Array.getElem?_eq_some_iff.1 h1).1
theorem RowS.of_eq (h : RowS W g n d) (he : W'.heap[g]? = W.heap[g]?) : RowS W' g n d := by obtain ⟨cs, h1, h2⟩ := h; exact ⟨cs, he.trans h1, h2⟩
theorem RowS.below (h : RowS W g n d) (hb : Below W.heap.size W W') : RowS W' g n d := h.of_eq (hb.block g h.lt)
theorem RowS.drewN (h : RowS W g n d) (q : Nat) : RowS (W.drewN q) g n d := h
theorem RowS.drew (h : RowS W g n d) : RowS W.drew g n d := h
theorem RowS.cell (h : RowS W g n d) {j : Nat} (hj : j < n) : W.cell? ⟨g, j * 2, none⟩ = some (.int .u64 ((d j).1 : Int)) ∧ W.cell? ⟨g, j * 2 + 1, none⟩ = some (.int .u64 ((d j).2 : Int)) := by
  obtain ⟨cs, h1, h2, h3⟩ := h
  rw [cell_of_row W g (j * 2) cs _ _ h1, cell_of_row W g (j * 2 + 1) cs _ _ h1]
  exact h3 j hj
theorem RowS.frozen (h : RowS W g n d) (j : Nat) : W.frozen? ⟨g, j, none⟩ = false := by
  obtain ⟨cs, h1, _⟩ := h
  simp [World.frozen?, h1]
theorem RowS.put (h : RowS W g n d) {i : Nat} (hi : i < n) (x : Sp) : RowS ((W.setCell ⟨g, i * 2, none⟩ (.int .u64 (x.1 : Int))).setCell ⟨g, i * 2 + 1, none⟩ (.int .u64 (x.2 : Int))) g n (fun k => if k = i then x else d k) := by
  obtain ⟨cs, h1, h2, h3⟩ := h
  refine ⟨(cs.setIfInBounds (i * 2) (.int .u64 (x.1 : Int))).setIfInBounds (i * 2 + 1) (.int .u64 (x.2 : Int)), by simp [World.setCell, Array.getElem?_modify, h1], by simpa using h2, fun j hj => ?_⟩
  have h4 := h3 j hj
  by_cases e : j = i
  · subst e
    dsimp only
    rw [if_pos rfl]
    constructor
    · rw [Array.getElem?_setIfInBounds_ne (by omega), Array.getElem?_setIfInBounds_self_of_lt (by omega)]
    · rw [Array.getElem?_setIfInBounds_self_of_lt (by simp; omega)]
  · dsimp only
    rw [if_neg e]
    constructor
    · rw [Array.getElem?_setIfInBounds_ne (by omega), Array.getElem?_setIfInBounds_ne (by omega)]; exact h4.1
    · rw [Array.getElem?_setIfInBounds_ne (by omega), Array.getElem?_setIfInBounds_ne (by omega)]; exact h4.2
/-- two spans change places: first i is written, then j -/
theorem RowS.swap (h : RowS W g n d) {i j : Nat} (hi : i < n) (hj : j < n) :
    RowS ((((W.setCell ⟨g, i * 2, none⟩ (.int .u64 ((d j).1 : Int))).setCell ⟨g, i * 2 + 1, none⟩ (.int .u64 ((d j).2 : Int))).setCell ⟨g, j * 2, none⟩ (.int .u64 ((d i).1 : Int))).setCell ⟨g, j * 2 + 1, none⟩ (.int .u64 ((d i).2 : Int))) g n (swF d i j) := by
  have h1 := (h.put hi (d j)).put hj (d i)
  have e : (fun k => if k = j then d i else (fun k => if k = i then d j else d k) k) = swF d i j := by
    funext k
    unfold swF
    simp only
    by_cases k1 : k = j
    · subst k1
      rw [if_pos rfl]
      by_cases k2 : k = i
      · subst k2; rw [if_pos rfl]
      · rw [if_neg k2, if_pos rfl]
    · rw [if_neg k1]
      by_cases k2 : k = i
      · rw [if_pos k2, if_pos k2]
      · rw [if_neg k2, if_neg k2, if_neg k1]
  rw [← e]
  exact h1
theorem grown_swap4 (h : w.grownBy W (some g)) (i j : Nat) (x y u v : Value) : w.grownBy ((((W.setCell ⟨g, i, none⟩ x).setCell ⟨g, i + 1, none⟩ y).setCell ⟨g, j, none⟩ u).setCell ⟨g, j + 1, none⟩ v) (some g) := only_set (only_set (only_set (only_set h i x) (i + 1) y) j u) (j + 1) v
end
/-- the key's closure, and the order's, which has captured the key's cell -/
def keyF : Value := .func (.func 28) #[] #[]
def cmpF (B : Nat) : Value := .func (.func 33) #[] #[.pointer (some ⟨B, 0, none⟩)]
def HasKey (W : World) (B : Nat) : Prop := B < W.heap.size ∧ W.cell? ⟨B, 0, none⟩ = some keyF
theorem HasKey.below {W W' : World} {B : Nat} (h : HasKey W B) (hb : Below W.heap.size W W') : HasKey W' B := ⟨Nat.lt_of_lt_of_le h.1 hb.size, (hb.cell (p := ⟨B, 0, none⟩) h.1).trans h.2⟩
theorem HasKey.grown {W W' : World} {B g : Nat} (h : HasKey W B) (hb : W.grownBy W' (some g)) (hne : B ≠ g) : HasKey W' B :=
  ⟨Nat.lt_of_lt_of_le h.1 hb.size, (World.cell?_of_block (hb.block B h.1 (fun e => hne (Option.some.inj e)))).trans h.2⟩
def cmpN (x y : Nat) : Int := if x < y then -1 else if y < x then 1 else 0
theorem cmpN_lt (x y : Nat) : (cmpN x y < 0) ↔ x < y := by
  unfold cmpN
  split
  · simp_all
  · split <;> simp_all
section
variable (w : World)
theorem key_any (x : Sp) : Calls Try.prog 28 #[spV x] w fun e w' => e = .returned (.int .u64 (x.1 : Int)) ∧ Below w.heap.size w w' := by
  unfold spV
  go_enter Try.func28, Try.ntmps28
  go_wp2
  go_ret
  exact ⟨rfl, (Below.refl _ _).alloc (Nat.le_refl _) _⟩
theorem isnan_any (x : Int) : Calls Try.prog 41 #[.int .u64 x] w fun e w' => e = .returned (.bool false) ∧ w = w' := by
  go_enter Try.func41, Try.ntmps41
  go_wp2
  go_ret
  exact ⟨rfl, rfl⟩
theorem compare_any (x y : Nat) : Calls Try.prog 34 #[.int .u64 (x : Int), .int .u64 (y : Int)] w fun e w' => e = .returned (.int .i64 (cmpN x y)) ∧ w = w' := by
  by_cases h1 : x < y
  · have e : cmpN x y = -1 := by unfold cmpN; rw [if_pos h1]
    have h1z : (x : Int) < (y : Int) := by omega
    rw [e]
    clear e
    go_enter Try.func34, Try.ntmps34
    go_wp2_with (go_at_call 41; with_reducible refine (isnan_any _ _).mono ?_; rintro e w1 ⟨rfl, rfl⟩)
    go_ret
    exact ⟨rfl, rfl⟩
  · by_cases h2 : y < x
    · have e : cmpN x y = 1 := by unfold cmpN; rw [if_neg h1, if_pos h2]
      have h1z : ¬ (x : Int) < (y : Int) := by omega
      have h2z : (x : Int) > (y : Int) := by omega
      rw [e]
      clear e
      go_enter Try.func34, Try.ntmps34
      go_wp2_with (go_at_call 41; with_reducible refine (isnan_any _ _).mono ?_; rintro e w1 ⟨rfl, rfl⟩)
      go_ret
      exact ⟨rfl, rfl⟩
    · have e : cmpN x y = 0 := by unfold cmpN; rw [if_neg h1, if_neg h2]
      have h1z : ¬ (x : Int) < (y : Int) := by omega
      have h2z : ¬ (x : Int) > (y : Int) := by omega
      rw [e]
      clear e
      go_enter Try.func34, Try.ntmps34
      go_wp2_with (go_at_call 41; with_reducible refine (isnan_any _ _).mono ?_; rintro e w1 ⟨rfl, rfl⟩)
      go_ret
      exact ⟨rfl, rfl⟩
theorem cmp_any (B : Nat) (x y : Sp) (hk : HasKey w B) : Calls Try.prog 33 #[spV x, spV y, .pointer (some ⟨B, 0, none⟩)] w fun e w' => e = .returned (.int .i64 (cmpN x.1 y.1)) ∧ Below w.heap.size w w' := by
  unfold spV
  obtain ⟨W1, hW1⟩ : ∃ W1, W1 = (w.alloc (.cells #[.int .u64 (x.1 : Int), .int .u64 (x.2 : Int)] 25)).alloc (.cells #[.int .u64 (y.1 : Int), .int .u64 (y.2 : Int)] 25) := ⟨_, rfl⟩
  have hB : Below w.heap.size w W1 := by rw [hW1]; exact ((Below.refl _ w).alloc (Nat.le_refl _) _).alloc (by simp) _
  have hx : Blk W1 w.heap.size 25 #[.int .u64 (x.1 : Int), .int .u64 (x.2 : Int)] := by rw [hW1]; exact (Blk.new w _ _).alloc _
  have hy : Blk W1 (w.heap.size + 1) 25 #[.int .u64 (y.1 : Int), .int .u64 (y.2 : Int)] := by
    rw [hW1]
    have := Blk.new (w.alloc (.cells #[.int .u64 (x.1 : Int), .int .u64 (x.2 : Int)] 25)) 25 #[.int .u64 (y.1 : Int), .int .u64 (y.2 : Int)]
    rwa [World.size_alloc] at this
  have hS0 : (fun W => Below W1.heap.size W1 W) W1.drew := Below.drew (Below.refl _ _)
  have ne : Nonempty (Cls (fun W => Below W1.heap.size W1 W)) := ⟨⟨_, hS0⟩⟩
  have hk1 := hk.below hB
  have c0 : ∀ z : Cls (fun W => Below W1.heap.size W1 W), z.w.cell? ⟨B, 0, none⟩ = some (.func (.func 28) #[] #[]) := fun z => (z.h.cell (p := ⟨B, 0, none⟩) hk1.1).trans hk1.2
  have c1 : ∀ z : Cls (fun W => Below W1.heap.size W1 W), z.w.cell? ⟨w.heap.size, 0, none⟩ = some (.int .u64 (x.1 : Int)) := fun z => (z.h.cell (p := ⟨w.heap.size, 0, none⟩) hx.lt).trans (hx.cell 0)
  have c2 : ∀ z : Cls (fun W => Below W1.heap.size W1 W), z.w.cell? ⟨w.heap.size, 1, none⟩ = some (.int .u64 (x.2 : Int)) := fun z => (z.h.cell (p := ⟨w.heap.size, 1, none⟩) hx.lt).trans (hx.cell 1)
  have c3 : ∀ z : Cls (fun W => Below W1.heap.size W1 W), z.w.cell? ⟨w.heap.size + 1, 0, none⟩ = some (.int .u64 (y.1 : Int)) := fun z => (z.h.cell (p := ⟨w.heap.size + 1, 0, none⟩) hy.lt).trans (hy.cell 0)
  have c4 : ∀ z : Cls (fun W => Below W1.heap.size W1 W), z.w.cell? ⟨w.heap.size + 1, 1, none⟩ = some (.int .u64 (y.2 : Int)) := fun z => (z.h.cell (p := ⟨w.heap.size + 1, 1, none⟩) hy.lt).trans (hy.cell 1)
  have hSb : ∀ W W', (fun W => Below W1.heap.size W1 W) W → Below W.heap.size W W' → (fun W => Below W1.heap.size W1 W) W' := fun W W' h hb => Below.trans h (hb.mono (Below.size h))
  have HW1 := Lib.hid hW1
  have HB := Lib.hid hB
  clear hB
  have Hx := Lib.hid hx
  clear hx
  have Hy := Lib.hid hy
  clear hy
  have Hk := Lib.hid hk
  clear hk
  have Hk1 := Lib.hid hk1
  clear hk1
  have HS0 := Lib.hid hS0
  clear hS0
  have HSb := Lib.hid hSb
  clear hSb
  clear hW1
  go_enter Try.func33, Try.ntmps33
  go_upto_region 1 with fail
  rw [← HW1.out]
  refine wp_region_class (fun W => Below W1.heap.size W1 W) (by kernel_rfl) (by kernel_rfl) HS0.out ?_
  repeat (go_big_quiet_step (first
    | (go_at_call 28; exact cls_call HSb.out _ (key_any _ x))
    | (go_at_call 28; exact cls_call HSb.out _ (key_any _ y))
    | (go_at_call 34; exact cls_same _ (compare_any _ _ _))))
  refine wpQuiet_nil ?_
  rintro W2 hW2
  have HW2 := Lib.hid (cls_out hW2)
  clear hW2 c0 c1 c2 c3 c4 ne
  go_wp2
  go_ret
  exact ⟨rfl, HB.out.trans (Below.mono HW2.out HB.out.size)⟩
end
end Go.Proofs.Ytnnpahjopfkchaa
