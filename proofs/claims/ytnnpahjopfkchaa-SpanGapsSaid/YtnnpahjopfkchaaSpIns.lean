/- slices.insertionSortCmpFunc, swapRangeCmpFunc, rotateCmpFunc at spans. -/
import Derived.Test.YtnnpahjopfkchaaSpRow
set_option linter.unusedVariables false
set_option linter.unusedSimpArgs false
namespace Go.Proofs.Ytnnpahjopfkchaa
open Go.RowKit Go.BigFrame

/-- between two steps of the sort -/
structure AtS (w wr : World) (g n B : Nat) (d : Row) : Prop where
  row : RowS wr g n d
  grown : w.grownBy wr (some g)
  key : HasKey wr B
  ne : B ≠ g
section
variable {w wr W : World} {g n B : Nat} {d : Row}
theorem AtS.start (hr : RowS w g n d) (hk : HasKey w B) (hne : B ≠ g) : AtS w w g n B d := ⟨hr, World.grownBy.refl _ _, hk, hne⟩
theorem AtS.below (h : AtS w wr g n B d) (hb : Below wr.heap.size wr W) : AtS w W g n B d :=
  ⟨h.row.below hb, ⟨hb.os.trans h.grown.os, hb.tape.trans h.grown.tape, hb.output.trans h.grown.output, Nat.le_trans h.grown.size hb.size, fun i hi hn => (hb.block i (Nat.lt_of_lt_of_le hi h.grown.size)).trans (h.grown.block i hi hn)⟩, h.key.below hb, h.ne⟩
theorem AtS.drew (h : AtS w wr g n B d) : AtS w wr.drew g n B d := h.below (Below.drew (Below.refl _ _))
theorem AtS.swap (h : AtS w wr g n B d) {i j : Nat} (hi : i < n) (hj : j < n) : AtS w ((((wr.setCell ⟨g, i * 2, none⟩ (.int .u64 ((d j).1 : Int))).setCell ⟨g, i * 2 + 1, none⟩ (.int .u64 ((d j).2 : Int))).setCell ⟨g, j * 2, none⟩ (.int .u64 ((d i).1 : Int))).setCell ⟨g, j * 2 + 1, none⟩ (.int .u64 ((d i).2 : Int))) g n B (swF d i j) := by
  have hg := grown_swap4 (World.grownBy.refl wr (some g)) (i * 2) (j * 2) (.int .u64 ((d j).1 : Int)) (.int .u64 ((d j).2 : Int)) (.int .u64 ((d i).1 : Int)) (.int .u64 ((d i).2 : Int))
  exact ⟨h.row.swap hi hj, grown_swap4 h.grown _ _ _ _ _ _, h.key.grown hg h.ne, h.ne⟩
theorem AtS.trans {wr' : World} {d' : Row} (h : AtS w wr g n B d) (k : AtS wr wr' g n B d') : AtS w wr' g n B d' :=
  ⟨k.row, ⟨k.grown.os.trans h.grown.os, k.grown.tape.trans h.grown.tape, k.grown.output.trans h.grown.output, Nat.le_trans h.grown.size k.grown.size, fun i hi hn => (k.grown.block i (Nat.lt_of_lt_of_le hi h.grown.size) hn).trans (h.grown.block i hi hn)⟩, k.key, h.ne⟩
end
/-- behind a call of the sort -/
def SPost (w : World) (g n B : Nat) (R : Row → Prop) (e : Ending) (w' : World) : Prop := e = .returned (.tuple #[]) ∧ ∃ d, AtS w w' g n B d ∧ R d
section
variable {w : World} {g n B : Nat} {d : Row}
set_option maxRecDepth 100000 in
set_option maxHeartbeats 4000000 in
theorem ins_any (cap a b : Nat) (h : AtS w w g n B d) (hab : a ≤ b) (hb : b ≤ n) (hn : n ≤ 1000000) :
    Calls Try.prog 45 #[.slice (some ⟨g, 0, none⟩) n cap, .int .i64 a, .int .i64 b, cmpF B] w (SPost w g n B fun d' => Same a b d d' ∧ Srt a b d') := by
  have l1 : (n : Int) ≤ 1000000 := by omega
  have l2 : (b : Int) ≤ (n : Int) := by omega
  have l3 : (a : Int) ≤ (b : Int) := by omega
  unfold cmpF
  have H0 := Lib.hid h
  clear h
  go_enter Try.func45, Try.ntmps45
  go_wp2
  go_loopw [8] (fun vi wr => ∃ (i : Nat) (dk : Row), vi = .int .i64 i ∧ a < i ∧ i ≤ b + 1 ∧ Hid (AtS w wr g n B dk ∧ Same a b d dk ∧ Srt a (min i b) dk)) (fun vi _ => b + 1 - (intOf vi).toNat)
  case atStart => exact ⟨a + 1, d, by go_num, by omega, by omega, Lib.hid ⟨H0.out, Same.refl _ _ _, Srt.small _ (by omega)⟩⟩
  case round =>
    clear H0
    obtain ⟨i, dk, rfl, hai, hib, HI⟩ := hrel
    by_cases hlt : i < b
    · have hlt' : (i : Int) < (b : Int) := by omega
      go_wp2
      go_loopw [9] (fun vj wr2 => ∃ (j : Nat) (dj : Row), vj = .int .i64 j ∧ a ≤ j ∧ j ≤ i ∧ Hid (AtS w wr2 g n B dj ∧ Same a b d dj ∧ Ins a i j dj)) (fun vj _ => (intOf vj).toNat)
      case atStart => exact ⟨i, dk, rfl, by omega, Nat.le_refl _, Lib.hid ⟨HI.out.1, HI.out.2.1, Ins.start (HI.out.2.2.mono (Nat.le_refl _) (by omega))⟩⟩
      case round =>
        clear HI
        obtain ⟨j, dj, rfl, haj, hji, HJ⟩ := hrel
        by_cases hja : a < j
        · have hjz : (j : Int) > (a : Int) := by omega
          obtain ⟨j', ej⟩ : ∃ j' : Nat, (j : Int) - 1 = (j' : Int) := ⟨j - 1, by omega⟩
          have ej2 : j' = j - 1 := by omega
          have hjn : (j : Int) < (n : Int) := by omega
          have hjn' : (j' : Int) < (n : Int) := by omega
          have hj0 : (0 : Int) ≤ (j' : Int) := by omega
          have hj00 : (0 : Int) ≤ (j : Int) := by omega
          have r1 := HJ.out.1.row.cell (j := j) (by omega)
          have r2 := HJ.out.1.row.cell (j := j') (by omega)
          obtain ⟨x, hx⟩ : ∃ x, x = dj j := ⟨_, rfl⟩
          obtain ⟨y, hy⟩ : ∃ y, y = dj j' := ⟨_, rfl⟩
          rw [← hx] at r1
          rw [← hy] at r2
          have hgl := HJ.out.1.row.lt
          have hS0 : (fun W => Below wr.heap.size wr W) wr.drew := Below.drew (Below.refl _ _)
          have hSb : ∀ W W', (fun W => Below wr.heap.size wr W) W → Below W.heap.size W W' → (fun W => Below wr.heap.size wr W) W' := fun W W' h hb => Below.trans h (hb.mono (Below.size h))
          have hkey : ∀ z : Cls (fun W => Below wr.heap.size wr W), HasKey z.w B := fun z => HJ.out.1.key.below z.h
          have c1 : ∀ z : Cls (fun W => Below wr.heap.size wr W), z.w.cell? ⟨g, j * 2, none⟩ = some (.int .u64 (x.1 : Int)) := fun z => (z.h.cell (p := ⟨g, j * 2, none⟩) hgl).trans r1.1
          have c2 : ∀ z : Cls (fun W => Below wr.heap.size wr W), z.w.cell? ⟨g, j * 2 + 1, none⟩ = some (.int .u64 (x.2 : Int)) := fun z => (z.h.cell (p := ⟨g, j * 2 + 1, none⟩) hgl).trans r1.2
          have c3 : ∀ z : Cls (fun W => Below wr.heap.size wr W), z.w.cell? ⟨g, j' * 2, none⟩ = some (.int .u64 (y.1 : Int)) := fun z => (z.h.cell (p := ⟨g, j' * 2, none⟩) hgl).trans r2.1
          have c4 : ∀ z : Cls (fun W => Below wr.heap.size wr W), z.w.cell? ⟨g, j' * 2 + 1, none⟩ = some (.int .u64 (y.2 : Int)) := fun z => (z.h.cell (p := ⟨g, j' * 2 + 1, none⟩) hgl).trans r2.2
          have ne : Nonempty (Cls (fun W => Below wr.heap.size wr W)) := ⟨⟨_, hS0⟩⟩
          have hcl := cmpN_lt x.1 y.1
          have Hx := Lib.hid hx
          clear hx
          have Hy := Lib.hid hy
          clear hy
          have Hgl := Lib.hid hgl
          clear hgl
          have HS0 := Lib.hid hS0
          clear hS0
          have HSb := Lib.hid hSb
          clear hSb
          have Hkey := Lib.hid hkey
          clear hkey
          have Ej2 := Lib.hid ej2
          clear ej2
          have Hcl := Lib.hid hcl
          clear hcl
          clear r1 r2
          go_upto_region 4 with fail
          refine wp_region_class (fun W => Below wr.heap.size wr W) (by kernel_rfl) (by kernel_rfl) HS0.out ?_
          repeat (go_big_quiet_step (first | (go_at_call 33; exact cls_call HSb.out _ (cmp_any _ B x y (Hkey.out _)))))
          refine wpQuiet_nil ?_
          rintro W2 hW2
          have hA := HJ.out.1.below (cls_out hW2)
          clear hW2 c1 c2 c3 c4 ne
          by_cases hlt2 : x.1 < y.1
          · have hcz : cmpN x.1 y.1 < 0 := Hcl.out.2 hlt2
            have r1 := hA.row.cell (j := j) (by omega)
            have r2 := hA.row.cell (j := j') (by omega)
            rw [← Hx.out] at r1
            rw [← Hy.out] at r2
            obtain ⟨r1, r1'⟩ := r1
            obtain ⟨r2, r2'⟩ := r2
            have fr := hA.row.frozen
            have HA := Lib.hid hA
            clear hA
            go_wp2
            go_region
            clear r1 r1' r2 r2' fr
            go_wp2
            go_roundw
            case rel =>
              have h3 := HJ.out.2.2.step hja hji (by rw [← Ej2.out, ← Hx.out, ← Hy.out]; exact hlt2)
              have h4 := HJ.out.2.1.trans (Same.swap (a := a) (b := b) dj (i := j) (j := j') ⟨haj, by omega⟩ ⟨by have := Ej2.out; omega, by have := Ej2.out; omega⟩)
              have h5 := (HA.out.drew).swap (i := j) (j := j') (by omega) (by have := Ej2.out; omega)
              rw [← Hx.out, ← Hy.out] at h5
              rw [← Ej2.out] at h3
              exact ⟨j', swF dj j j', by first | rfl | go_num, by have := Ej2.out; omega, by have := Ej2.out; omega, Lib.hid ⟨h5, h4, h3⟩⟩
            case measure => simp [intOf]; omega
          · have hcz : ¬ cmpN x.1 y.1 < 0 := fun e => hlt2 (Hcl.out.1 e)
            have HA := Lib.hid hA
            clear hA
            go_wp2
            go_roundw
            case rel => exact ⟨i + 1, dj, by go_num, by omega, by omega, Lib.hid ⟨HA.out, HJ.out.2.1, (HJ.out.2.2.stop (.inr (by rw [← Ej2.out, ← Hx.out, ← Hy.out]; omega))).mono (Nat.le_refl _) (by omega)⟩⟩
            case measure => simp [intOf]; omega
        · have hjz : ¬ (j : Int) > (a : Int) := by omega
          go_upto_region 4 with fail
          go_quiet (fail)
          go_wp2
          go_roundw
          case rel => exact ⟨i + 1, dj, by go_num, by omega, by omega, Lib.hid ⟨HJ.out.1.below (below_drewN (Below.refl _ _) _), HJ.out.2.1, (HJ.out.2.2.stop (.inl (by omega))).mono (Nat.le_refl _) (by omega)⟩⟩
          case measure => simp [intOf]; omega
    · have hlt' : ¬ (i : Int) < (b : Int) := by omega
      go_wp2
      go_end0
      exact ⟨rfl, dk, HI.out.1, HI.out.2.1, HI.out.2.2.mono (Nat.le_refl _) (by omega)⟩
end
end Go.Proofs.Ytnnpahjopfkchaa
