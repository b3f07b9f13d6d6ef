/- slices.order2Ordered, medianOrdered, medianAdjacentOrdered, choosePivotOrdered at uint64. -/
import Derived.Test.YtlikngepcbmhdaaSqHeap
import Derived.Sort.WalkD1
import Derived.Sort.LotD4
import Derived.Sort.AtCall
import Derived.Sort.Walk11
import Derived.LoopTactic
set_option linter.unusedVariables false
set_option linter.unusedSimpArgs false
namespace Go.Proofs.Ytlikngepcbmhdaa.S64
open Go.RowKit Go.BigFrame

/-- the row holds d, the count of exchanges (block c) holds k; nothing else has turned -/
def Pv (w wr : World) (g off n : Nat) (d : Array Int) (c k : Nat) : Prop := d.size = n ∧ RowK wr g off d ∧ Blk wr c 3 #[.int .i64 k] ∧ c ≠ g ∧ w.grownBy wr (some c)
section
variable {w wr wr' : World} {g off n c k k' : Nat} {d : Array Int}
theorem Pv.drewN (h : Pv w wr g off n d c k) (q : Nat) : Pv w (wr.drewN q) g off n d c k := ⟨h.1, h.2.1, h.2.2.1, h.2.2.2.1, only_drewN h.2.2.2.2 q⟩
theorem Pv.self (h : Pv w wr g off n d c k) : Pv wr wr g off n d c k := ⟨h.1, h.2.1, h.2.2.1, h.2.2.2.1, World.grownBy.refl _ _⟩
theorem Pv.cell (h : Pv w wr g off n d c k) (G : Nat → Int) (hG : ∀ t, G t = d[t]!) : ∀ t, t < n → wr.cell? ⟨g, off + t, none⟩ = some (.int .u64 (G t)) := fun t ht => by
  rw [hG]; exact h.2.1.cell (by rw [h.1]; exact ht)
theorem Pv.cnt (h : Pv w wr g off n d c k) : wr.cell? ⟨c, 0, none⟩ = some (.int .i64 k) := h.2.2.1.cell 0
theorem Pv.cntf (h : Pv w wr g off n d c k) : wr.frozen? ⟨c, 0, none⟩ = false := h.2.2.1.frozen 0
theorem Pv.one (h : Pv w wr g off n d c k) : Pv w (wr.setCell ⟨c, 0, none⟩ (.int .i64 ((k : Int) + 1))) g off n d c (k + 1) :=
  ⟨h.1, h.2.1.of_eq (Below.heap_setCell _ _ _ g (fun e => h.2.2.2.1 e.symm)), h.2.2.1.set_ 0 _, h.2.2.2.1, only_set h.2.2.2.2 0 _⟩
theorem Pv.trans (h : Pv w wr g off n d c k) (h' : Pv wr wr' g off n d c k') : Pv w wr' g off n d c k' :=
  ⟨h'.1, h'.2.1, h'.2.2.1, h'.2.2.2.1, h'.2.2.2.2.os.trans h.2.2.2.2.os, h'.2.2.2.2.tape.trans h.2.2.2.2.tape, h'.2.2.2.2.output.trans h.2.2.2.2.output, Nat.le_trans h.2.2.2.2.size h'.2.2.2.2.size, fun i hi hn => (h'.2.2.2.2.block i (Nat.lt_of_lt_of_le hi h.2.2.2.2.size) hn).trans (h.2.2.2.2.block i hi hn)⟩
/-- the count is new: for who called, nothing has turned -/
theorem Pv.end_ (h : Pv (w.alloc (.cells #[.int .i64 0] 3)) wr g off n d w.heap.size k) (row : Option Nat) : RowK wr g off d ∧ w.grownBy wr row := by
  refine ⟨h.2.1, ?_⟩
  have hb := Below.heap_alloc w
  refine ⟨h.2.2.2.2.os.trans rfl, h.2.2.2.2.tape.trans rfl, h.2.2.2.2.output.trans rfl, Nat.le_trans (by show w.heap.size ≤ (w.heap.push _).size; simp) h.2.2.2.2.size, fun i hi hn => ?_⟩
  rw [h.2.2.2.2.block i (by show i < (w.heap.push _).size; simp; omega) (fun e => by cases e; omega)]
  exact hb _ i hi
theorem Pv.new (h : RowK w g off d) (hn : d.size = n) : Pv (w.alloc (.cells #[.int .i64 0] 3)) (w.alloc (.cells #[.int .i64 0] 3)) g off n d w.heap.size (0 : Nat) :=
  ⟨hn, h.of_eq (Below.heap_alloc w _ g h.lt), Blk.new w _ _, Nat.ne_of_gt h.lt, World.grownBy.refl _ _⟩
end
set_option maxHeartbeats 4000000 in
theorem o2_any {w wr : World} {g off n cap a b c k : Nat} {d : Array Int} (h : Pv w wr g off n d c k) (ha : a < n) (hb : b < n) (hsz : n ≤ 1000000) (hk : k ≤ 1000) :
    Calls Try.prog 58 #[.slice (some ⟨g, off, none⟩) n cap, .int .i64 a, .int .i64 b, .pointer (some ⟨c, 0, none⟩)] wr fun e w' => e = .returned (.tuple #[.int .i64 (Sort.order2 Sort.ltInt d a b k).1, .int .i64 (Sort.order2 Sort.ltInt d a b k).2.1]) ∧ Pv w w' g off n d c (Sort.order2 Sort.ltInt d a b k).2.2 := by
  obtain ⟨G, hG⟩ : ∃ G : Nat → Int, ∀ t, G t = d[t]! := ⟨fun t => d[t]!, fun _ => rfl⟩
  have hcw := h.cell G hG
  have hcc := h.cnt
  have hcf := h.cntf
  obtain ⟨r, hr⟩ : ∃ r, r = Sort.order2 Sort.ltInt d a b k := ⟨_, rfl⟩
  rw [← hr]
  have H := Lib.hid h
  clear h
  have HG := Lib.hid hG
  clear hG
  have Hr := Lib.hid hr
  clear hr
  go_enter Try.func58, Try.ntmps58
  go_wp2
  go_big_quiet (first | (go_at_call 47; refine Calls.quiet_of_same (less_any _ _ _)))
  go_wp2
  · have hl : Sort.ltInt (G b) (G a) = true := by assumption
    have e : r = (b, a, k + 1) := by
      rw [HG.out, HG.out] at hl
      rw [Hr.out, Sort.order2, if_pos hl]
    go_ret2
    rw [e]
    exact ⟨rfl, (H.out.drewN nq).one⟩
  · have hl : Sort.ltInt (G b) (G a) = false := by assumption
    have e : r = (a, b, k) := by
      rw [HG.out, HG.out] at hl
      rw [Hr.out, Sort.order2, if_neg (by rw [hl]; decide)]
    go_ret2
    rw [e]
    exact ⟨rfl, H.out.drewN nq⟩
theorem o2_lt (d : Array Int) {a b n : Nat} (s : Nat) (ha : a < n) (hb : b < n) : (Sort.order2 Sort.ltInt d a b s).1 < n ∧ (Sort.order2 Sort.ltInt d a b s).2.1 < n := by
  unfold Sort.order2; split <;> exact ⟨by assumption, by assumption⟩
set_option maxHeartbeats 4000000 in
theorem med_any {w wr : World} {g off n cap x y z c k : Nat} {d : Array Int} (h : Pv w wr g off n d c k) (hx : x < n) (hy : y < n) (hz : z < n) (hsz : n ≤ 1000000) (hk : k ≤ 900) :
    Calls Try.prog 56 #[.slice (some ⟨g, off, none⟩) n cap, .int .i64 x, .int .i64 y, .int .i64 z, .pointer (some ⟨c, 0, none⟩)] wr fun e w' => e = .returned (.int .i64 (Sort.median Sort.ltInt d x y z k).1) ∧ Pv w w' g off n d c (Sort.median Sort.ltInt d x y z k).2 := by
  unfold Sort.median
  simp only []
  have m1 := o2_lt d k hx hy
  have n1 := Sort.order2_count Sort.ltInt d x y k
  have c1 := o2_any (cap := cap) h hx hy hsz (by omega)
  generalize Sort.order2 Sort.ltInt d x y k = r1 at *
  obtain ⟨x1, y1, k1⟩ := r1
  simp only [] at m1 n1 c1 ⊢
  have m2 := o2_lt d k1 m1.2 hz
  have n2 := Sort.order2_count Sort.ltInt d y1 z k1
  have c2 : ∀ W (h : Pv w W g off n d c k1), _ := fun W h => o2_any (cap := cap) h m1.2 hz hsz (by omega)
  generalize Sort.order2 Sort.ltInt d y1 z k1 = r2 at *
  obtain ⟨y2, z2, k2⟩ := r2
  simp only [] at m2 n2 c2 ⊢
  have c3 : ∀ W (h : Pv w W g off n d c k2), _ := fun W h => o2_any (cap := cap) h m1.1 m2.1 hsz (by omega)
  generalize Sort.order2 Sort.ltInt d x1 y2 k2 = r3 at *
  obtain ⟨x3, y3, k3⟩ := r3
  simp only [] at c3 ⊢
  clear m1 m2 n1 n2 hx hy hz h
  go_enter Try.func56, Try.ntmps56
  go_wp2_with (go_at_call 58; with_reducible refine c1.mono ?_; rintro e w1 ⟨rfl, h1⟩)
  clear c1
  have H1 := Lib.hid h1
  clear h1
  go_wp2_with (go_at_call 58; with_reducible refine (c2 _ H1.out).mono ?_; rintro e w2 ⟨rfl, h2⟩)
  clear c2
  have H2 := Lib.hid h2
  clear h2
  go_wp2_with (go_at_call 58; with_reducible refine (c3 _ H2.out).mono ?_; rintro e w3 ⟨rfl, h3⟩)
  clear c3
  go_ret
  exact ⟨rfl, h3⟩
set_option maxHeartbeats 4000000 in
theorem adj_any {w wr : World} {g off n cap x c k : Nat} {d : Array Int} (h : Pv w wr g off n d c k) (hx : 1 ≤ x) (hx1 : x + 1 < n) (hsz : n ≤ 1000000) (hk : k ≤ 900) :
    Calls Try.prog 55 #[.slice (some ⟨g, off, none⟩) n cap, .int .i64 x, .pointer (some ⟨c, 0, none⟩)] wr fun e w' => e = .returned (.int .i64 (Sort.medianAdjacent Sort.ltInt d x k).1) ∧ Pv w w' g off n d c (Sort.medianAdjacent Sort.ltInt d x k).2 := by
  unfold Sort.medianAdjacent
  have c1 := med_any (cap := cap) (x := x - 1) (y := x) (z := x + 1) h (by omega) (by omega) hx1 hsz hk
  rw [show ((x - 1 : Nat) : Int) = (x : Int) - 1 by omega, show ((x + 1 : Nat) : Int) = (x : Int) + 1 by omega] at c1
  have H := Lib.hid h
  clear h
  go_enter Try.func55, Try.ntmps55
  go_wp2_with (go_at_call 56; with_reducible refine c1.mono ?_; rintro e w1 ⟨rfl, h1⟩)
  go_ret
  exact ⟨rfl, h1⟩
-- behind the switch: HP : Hid (Pv .. s)
set_option maxHeartbeats 4000000 in
set_option maxRecDepth 100000 in
theorem piv_any (g off cap a b : Nat) (d : Array Int) (w : World) (hr : RowK w g off d) (hab : a < b) (hb : b ≤ d.size) (hsz : d.size ≤ 1000000) :
    Calls Try.prog 44 #[.slice (some ⟨g, off, none⟩) d.size cap, .int .i64 a, .int .i64 b] w fun e w' => e = .returned (.tuple #[.int .i64 (Sort.choosePivot Sort.ltInt d a b).1, .int .i64 (Sort.hintCode (Sort.choosePivot Sort.ltInt d a b).2)]) ∧ RowK w' g off d ∧ w.grownBy w' (some g) := by
  have h0 := Pv.new (n := d.size) hr rfl
  obtain ⟨n, hn⟩ : ∃ n, n = d.size := ⟨_, rfl⟩
  rw [← hn] at hb hsz h0 ⊢
  rw [Sort.choosePivot_eq]
  show Calls _ _ _ _ fun e w' => e = .returned (.tuple #[.int .i64 (Sort.rawPivot Sort.ltInt d a b).1, .int .i64 (Sort.hintCode (Sort.hintOf (Sort.rawPivot Sort.ltInt d a b).2))]) ∧ _
  obtain ⟨I, hI⟩ : ∃ I : Nat, I = a + (b - a) / 4 * 1 := ⟨_, rfl⟩
  obtain ⟨J, hJ⟩ : ∃ J : Nat, J = a + (b - a) / 4 * 2 := ⟨_, rfl⟩
  obtain ⟨K, hK⟩ : ∃ K : Nat, K = a + (b - a) / 4 * 3 := ⟨_, rfl⟩
  have eI : ((a : Int) + ((b : Int) - (a : Int)) / 4) = (I : Int) := by omega
  have eJ : ((a : Int) + ((b : Int) - (a : Int)) / 4 * 2) = (J : Int) := by omega
  have eK : ((a : Int) + ((b : Int) - (a : Int)) / 4 * 3) = (K : Int) := by omega
  clear hr hn
  by_cases h8 : b - a ≥ 8
  · by_cases h50 : b - a ≥ 50
    · obtain ⟨i1, s1, h1⟩ : ∃ i1 s1, Sort.medianAdjacent Sort.ltInt d I 0 = (i1, s1) := ⟨_, _, rfl⟩
      obtain ⟨j1, s2, h2⟩ : ∃ j1 s2, Sort.medianAdjacent Sort.ltInt d J s1 = (j1, s2) := ⟨_, _, rfl⟩
      obtain ⟨k1, s3, h3⟩ : ∃ k1 s3, Sort.medianAdjacent Sort.ltInt d K s2 = (k1, s3) := ⟨_, _, rfl⟩
      obtain ⟨p, s, h4⟩ : ∃ p s, Sort.median Sort.ltInt d i1 j1 k1 s3 = (p, s) := ⟨_, _, rfl⟩
      have hraw : Sort.rawPivot Sort.ltInt d a b = (p, s) := by simp only [Sort.rawPivot, if_pos h8, if_pos h50, ← hI, ← hJ, ← hK, h1, h2, h3, h4]
      have m1 := Sort.medianAdjacent_mem Sort.ltInt d I 0; rw [h1] at m1
      have m2 := Sort.medianAdjacent_mem Sort.ltInt d J s1; rw [h2] at m2
      have m3 := Sort.medianAdjacent_mem Sort.ltInt d K s2; rw [h3] at m3
      have n1 := Sort.medianAdjacent_count Sort.ltInt d I 0; rw [h1] at n1
      have n2 := Sort.medianAdjacent_count Sort.ltInt d J s1; rw [h2] at n2
      have n3 := Sort.medianAdjacent_count Sort.ltInt d K s2; rw [h3] at n3
      simp only [] at m1 m2 m3 n1 n2 n3
      have c1 := adj_any (cap := cap) (x := I) h0 (by omega) (by omega) hsz (by omega)
      have c2 : ∀ W (h : Pv (w.alloc (.cells #[.int .i64 0] 3)) W g off n d w.heap.size s1), _ := fun W h => adj_any (cap := cap) (x := J) h (by omega) (by omega) hsz (by omega)
      have c3 : ∀ W (h : Pv (w.alloc (.cells #[.int .i64 0] 3)) W g off n d w.heap.size s2), _ := fun W h => adj_any (cap := cap) (x := K) h (by omega) (by omega) hsz (by omega)
      have c4 : ∀ W (h : Pv (w.alloc (.cells #[.int .i64 0] 3)) W g off n d w.heap.size s3), _ := fun W h => med_any (cap := cap) (x := i1) (y := j1) (z := k1) h (by omega) (by omega) (by omega) hsz (by omega)
      rw [h1] at c1
      rw [h2] at c2
      rw [h3] at c3
      rw [h4] at c4
      rw [hraw]
      obtain ⟨Hc, hHc⟩ : ∃ Hc : Int, Hc = Sort.hintCode (Sort.hintOf s) := ⟨_, rfl⟩
      have hh0 : s = 0 → Hc = 1 := fun h => by rw [hHc, h]; rfl
      have hh12 : s = 12 → Hc = 2 := fun h => by rw [hHc, h]; rfl
      have hhx : s ≠ 0 → s ≠ 12 → Hc = 0 := fun h1 h2 => by rw [hHc]; unfold Sort.hintOf; rw [if_neg h1, if_neg h2]; rfl
      rw [← hHc]
      clear hHc hraw
      have Hh0 := Lib.hid hh0
      clear hh0
      have Hh12 := Lib.hid hh12
      clear hh12
      have Hhx := Lib.hid hhx
      clear hhx
      clear h1 h2 h3 h4 hI hJ hK m1 m2 m3 n1 n2 n3 h0
      go_enter Try.func44, Try.ntmps44
      go_wp2_with (go_at_call_has 55 (Value.int .i64 (I : Int)); refine c1.mono ?_; rintro e w1 ⟨rfl, h1⟩)
      clear c1
      have c2 := c2 _ h1
      clear h1
      go_wp2_with (go_at_call_has 55 (Value.int .i64 (J : Int)); refine c2.mono ?_; rintro e w2 ⟨rfl, h2⟩)
      clear c2
      have c3 := c3 _ h2
      clear h2
      go_wp2_with (go_at_call_has 55 (Value.int .i64 (K : Int)); refine c3.mono ?_; rintro e w3 ⟨rfl, h3⟩)
      clear c3
      have c4 := c4 _ h3
      clear h3
      go_wp2_with (go_at_call 56; refine c4.mono ?_; clear c4; rintro e w4 ⟨rfl, h4⟩; have hcc := h4.cnt; have HP := Lib.hid h4; clear h4)
      all_goals
        go_ret2
        refine ⟨?_, HP.out.end_ _⟩
        first
          | (have e0 : (s : Int) = 0 := of_beq_int (by assumption)
             rw [Hh0.out (by omega)]; rfl)
          | (have e1 : (s : Int) = 12 := of_beq_int (by assumption)
             rw [Hh12.out (by omega)]; rfl)
          | (have e0 : (s : Int) ≠ 0 := of_bne_int (by assumption)
             have e1 : (s : Int) ≠ 12 := of_bne_int (by assumption)
             rw [Hhx.out (by omega) (by omega)]; rfl)
          | (rw [Hh0.out (by omega)]; rfl)
    · obtain ⟨p, s, h4⟩ : ∃ p s, Sort.median Sort.ltInt d I J K 0 = (p, s) := ⟨_, _, rfl⟩
      have hraw : Sort.rawPivot Sort.ltInt d a b = (p, s) := by simp only [Sort.rawPivot, if_pos h8, if_neg h50, ← hI, ← hJ, ← hK, h4]
      have c4 := med_any (cap := cap) (x := I) (y := J) (z := K) h0 (by omega) (by omega) (by omega) hsz (by omega)
      rw [h4] at c4
      rw [hraw]
      obtain ⟨Hc, hHc⟩ : ∃ Hc : Int, Hc = Sort.hintCode (Sort.hintOf s) := ⟨_, rfl⟩
      have hh0 : s = 0 → Hc = 1 := fun h => by rw [hHc, h]; rfl
      have hh12 : s = 12 → Hc = 2 := fun h => by rw [hHc, h]; rfl
      have hhx : s ≠ 0 → s ≠ 12 → Hc = 0 := fun h1 h2 => by rw [hHc]; unfold Sort.hintOf; rw [if_neg h1, if_neg h2]; rfl
      rw [← hHc]
      clear hHc hraw
      have Hh0 := Lib.hid hh0
      clear hh0
      have Hh12 := Lib.hid hh12
      clear hh12
      have Hhx := Lib.hid hhx
      clear hhx
      clear h4 hI hJ hK h0
      go_enter Try.func44, Try.ntmps44
      go_wp2_with (go_at_call 56; refine c4.mono ?_; clear c4; rintro e w4 ⟨rfl, h4⟩; have hcc := h4.cnt; have HP := Lib.hid h4; clear h4)
      all_goals
        go_ret2
        refine ⟨?_, HP.out.end_ _⟩
        first
          | (have e0 : (s : Int) = 0 := of_beq_int (by assumption)
             rw [Hh0.out (by omega)]; rfl)
          | (have e1 : (s : Int) = 12 := of_beq_int (by assumption)
             rw [Hh12.out (by omega)]; rfl)
          | (have e0 : (s : Int) ≠ 0 := of_bne_int (by assumption)
             have e1 : (s : Int) ≠ 12 := of_bne_int (by assumption)
             rw [Hhx.out (by omega) (by omega)]; rfl)
          | (rw [Hh0.out (by omega)]; rfl)
  · obtain ⟨p, hp⟩ : ∃ p : Nat, p = J := ⟨_, rfl⟩
    obtain ⟨s, hs⟩ : ∃ s : Nat, s = 0 := ⟨_, rfl⟩
    have hraw : Sort.rawPivot Sort.ltInt d a b = (p, s) := by simp only [Sort.rawPivot, if_neg h8, ← hJ, hp, hs]
    rw [hraw]
    obtain ⟨Hc, hHc⟩ : ∃ Hc : Int, Hc = Sort.hintCode (Sort.hintOf s) := ⟨_, rfl⟩
    have hh0 : s = 0 → Hc = 1 := fun h => by rw [hHc, h]; rfl
    have hh12 : s = 12 → Hc = 2 := fun h => by rw [hHc, h]; rfl
    have hhx : s ≠ 0 → s ≠ 12 → Hc = 0 := fun h1 h2 => by rw [hHc]; unfold Sort.hintOf; rw [if_neg h1, if_neg h2]; rfl
    rw [← hHc]
    clear hHc hraw
    have Hh0 := Lib.hid hh0
    clear hh0
    have Hh12 := Lib.hid hh12
    clear hh12
    have Hhx := Lib.hid hhx
    clear hhx
    subst hp hs
    clear hI hJ hK
    have H0 := Lib.hid h0
    clear h0
    go_enter Try.func44, Try.ntmps44
    go_wp2
    have HP := H0
    clear H0
    go_ret2
    exact ⟨by rw [Hh0.out trivial]; rfl, HP.out.end_ _⟩
end Go.Proofs.Ytlikngepcbmhdaa.S64
