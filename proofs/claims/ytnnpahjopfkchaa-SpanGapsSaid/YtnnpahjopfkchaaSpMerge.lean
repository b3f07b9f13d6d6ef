/- slices.symMergeCmpFunc at spans: two runs that stand one behind the other become one. Printed by gen_symmerge.py. -/
import Derived.Test.YtnnpahjopfkchaaSpRot
set_option linter.unusedVariables false
set_option linter.unusedSimpArgs false
namespace Go.Proofs.Ytnnpahjopfkchaa
open Go.RowKit Go.BigFrame

section
variable {w : World} {g n B : Nat} {d : Row}
theorem merge_end {a mid b : Nat} {d D1 D2 D3 : Row} (ha : a ≤ mid) (hb : mid ≤ b) (h1 : Same a b d D1) (hc : ∀ i j, a ≤ i → i < mid → mid ≤ j → j < b → (D1 i).1 ≤ (D1 j).1) (h2 : Same a mid D1 D2) (s2 : Srt a mid D2) (h3 : Same mid b D2 D3) (s3 : Srt mid b D3) : Same a b d D3 ∧ Srt a b D3 :=
  ⟨h1.trans ((h2.mono (Nat.le_refl _) hb).trans (h3.mono ha (Nat.le_refl _))), Srt.glue (s2.congr fun i k1 k2 => h3.out i (by omega)) s3 (cross hc h2 h3)⟩
set_option maxRecDepth 100000 in
set_option maxHeartbeats 8000000 in
theorem merge_one (cap a m b : Nat) (h : AtS w w g n B d) (ham : a < m) (hmb : m < b) (hb : b ≤ n) (hn : n ≤ 1000000) (hs1 : Srt a m d) (hs2 : Srt m b d) (h1 : m = a + 1) :
    Calls Try.prog 46 #[.slice (some ⟨g, 0, none⟩) n cap, .int .i64 a, .int .i64 m, .int .i64 b, cmpF B] w (SPost w g n B fun d' => Same a b d d' ∧ Srt a b d') := by
  have l1 : (n : Int) ≤ 1000000 := by omega
  have l2 : (b : Int) ≤ (n : Int) := by omega
  have l3 : (a : Int) < (m : Int) := by omega
  have l4 : (m : Int) < (b : Int) := by omega
  have hma : (m : Int) - (a : Int) = 1 := by omega
  unfold cmpF
  have H0 := Lib.hid h
  have Hs1 := Lib.hid hs1
  clear hs1
  have Hs2 := Lib.hid hs2
  clear hs2
  have H1 := Lib.hid h1
  clear h1
  clear h
  go_enter Try.func46, Try.ntmps46
  go_wp2
  go_loopw [10, 11] (fun vi vj wr => ∃ (i j : Nat), vi = .int .i64 i ∧ vj = .int .i64 j ∧ m ≤ i ∧ i ≤ j ∧ j ≤ b ∧ Hid (AtS w wr g n B d ∧ (∀ q, m ≤ q → q < i → (d q).1 < (d a).1) ∧ (∀ q, j ≤ q → q < b → (d a).1 ≤ (d q).1))) (fun vi vj _ => (intOf vj).toNat - (intOf vi).toNat)
  case atStart => exact ⟨m, b, rfl, rfl, Nat.le_refl _, by omega, Nat.le_refl _, Lib.hid ⟨H0.out, fun q h1 h2 => by omega, fun q h1 h2 => by omega⟩⟩
  case round =>
    clear H0
    obtain ⟨i, j, rfl, rfl, hi, hij, hj, HI⟩ := hrel
    by_cases hlt : i < j
    · have hlt' : (i : Int) < (j : Int) := by omega
      obtain ⟨q, eq⟩ : ∃ q : Nat, ((i : Int) + (j : Int)) / 2 = (q : Int) := ⟨(i + j) / 2, by omega⟩
      have q0 : i ≤ q := by omega
      have q1 : q < j := by omega
      have q2 : (0 : Int) ≤ (q : Int) := by omega
      have q3 : (q : Int) < (n : Int) := by omega
      have q4 : (0 : Int) ≤ (i : Int) + (j : Int) := by omega
      have q5 : (i : Int) + (j : Int) ≤ 2000000 := by omega
      have r1 := HI.out.1.row.cell (j := q) (by omega)
      have r2 := HI.out.1.row.cell (j := a) (by omega)
      obtain ⟨x, hx⟩ : ∃ x, x = d q := ⟨_, rfl⟩
      obtain ⟨y, hy⟩ : ∃ y, y = d a := ⟨_, rfl⟩
      rw [← hx] at r1
      rw [← hy] at r2
      have hgl := HI.out.1.row.lt
      have hS0 : (fun W => Below wr.heap.size wr W) wr.drew := Below.drew (Below.refl _ _)
      have hSb : ∀ W W', (fun W => Below wr.heap.size wr W) W → Below W.heap.size W W' → (fun W => Below wr.heap.size wr W) W' := fun W W' h hb => Below.trans h (hb.mono (Below.size h))
      have hkey : ∀ z : Cls (fun W => Below wr.heap.size wr W), HasKey z.w B := fun z => HI.out.1.key.below z.h
      have c1 : ∀ z : Cls (fun W => Below wr.heap.size wr W), z.w.cell? ⟨g, q * 2, none⟩ = some (.int .u64 (x.1 : Int)) := fun z => (z.h.cell (p := ⟨g, q * 2, none⟩) hgl).trans r1.1
      have c2 : ∀ z : Cls (fun W => Below wr.heap.size wr W), z.w.cell? ⟨g, q * 2 + 1, none⟩ = some (.int .u64 (x.2 : Int)) := fun z => (z.h.cell (p := ⟨g, q * 2 + 1, none⟩) hgl).trans r1.2
      have c3 : ∀ z : Cls (fun W => Below wr.heap.size wr W), z.w.cell? ⟨g, a * 2, none⟩ = some (.int .u64 (y.1 : Int)) := fun z => (z.h.cell (p := ⟨g, a * 2, none⟩) hgl).trans r2.1
      have c4 : ∀ z : Cls (fun W => Below wr.heap.size wr W), z.w.cell? ⟨g, a * 2 + 1, none⟩ = some (.int .u64 (y.2 : Int)) := fun z => (z.h.cell (p := ⟨g, a * 2 + 1, none⟩) hgl).trans r2.2
      have ne : Nonempty (Cls (fun W => Below wr.heap.size wr W)) := ⟨⟨_, hS0⟩⟩
      have hcl := cmpN_lt x.1 y.1
      obtain ⟨c, hc⟩ : ∃ c, c = cmpN x.1 y.1 := ⟨_, rfl⟩
      have hca : ∀ z : Cls (fun W => Below wr.heap.size wr W), Calls Try.prog 33 #[spV x, spV y, .pointer (some ⟨B, 0, none⟩)] z.w fun e w' => e = .returned (.int .i64 c) ∧ Below z.w.heap.size z.w w' := fun z => by
        rw [hc]
        exact cmp_any _ B x y (hkey z)
      rw [← hc] at hcl
      have Hx := Lib.hid hx
      clear hx
      have Hy := Lib.hid hy
      clear hy
      have Hgl := Lib.hid hgl
      clear hgl
      have HS0 := Lib.hid hS0
      clear hS0
      have HSb := Lib.hid hSb
      clear hSb
      have Hkey := Lib.hid hkey
      clear hkey
      have Hcl := Lib.hid hcl
      clear hcl
      have Hca := Lib.hid hca
      clear hca
      have Hc := Lib.hid hc
      clear hc
      clear r1 r2
      go_upto_region 5 with fail
      refine wp_region_class (fun W => Below wr.heap.size wr W) (by kernel_rfl) (by kernel_rfl) HS0.out ?_
      repeat (go_big_quiet_step (first | (go_at_call 33; exact cls_call HSb.out _ (Hca.out _))))
      refine wpQuiet_nil ?_
      rintro W2 hW2
      have hA := HI.out.1.below (cls_out hW2)
      clear hW2 c1 c2 c3 c4 ne
      have HA := Lib.hid hA
      clear hA
      by_cases hlt2 : x.1 < y.1
      · have hcz : c < 0 := Hcl.out.2 hlt2
        go_wp2
        go_roundw
        case rel =>
          refine ⟨q + 1, j, by go_num, rfl, by omega, by omega, hj, Lib.hid ⟨HA.out, fun t h1 h2 => ?_, HI.out.2.2⟩⟩
          have := Hs2.out.le (i := t) (j := q) h1 (by omega) (by omega)
          rw [← Hx.out] at this
          rw [← Hy.out]
          omega
        case measure => simp [intOf]; omega
      · have hcz : ¬ c < 0 := fun e => hlt2 (Hcl.out.1 e)
        go_wp2
        go_roundw
        case rel =>
          refine ⟨i, q, rfl, rfl, hi, q0, by omega, Lib.hid ⟨HA.out, HI.out.2.1, fun t h1 h2 => ?_⟩⟩
          have := Hs2.out.le (i := q) (j := t) (by omega) h1 h2
          rw [← Hx.out] at this
          rw [← Hy.out]
          omega
        case measure => simp [intOf]; omega
    · obtain rfl : i = j := by omega
      have hlt' : ¬ (i : Int) < (i : Int) := by omega
      have hfin := upF_srt (d := d) (a := a) (b := b) (i := i) (by omega) hj (by rw [← H1.out]; exact Hs2.out) (by rw [← H1.out]; exact HI.out.2.1) HI.out.2.2
      have hsam := upF_same d (a := a) (k := i - 1) (b := b) (by omega) (by omega)
      have hi1 : (1 : Int) ≤ (i : Int) := by omega
      have Hfin := Lib.hid hfin
      clear hfin
      have Hsam := Lib.hid hsam
      clear hsam
      go_wp2
      go_loopw [13] (fun vk wr => ∃ k : Nat, vk = .int .i64 k ∧ a ≤ k ∧ k ≤ i - 1 ∧ Hid (AtS w wr g n B (upF d a k))) (fun vk _ => i - (intOf vk).toNat)
      case atStart => exact ⟨a, rfl, Nat.le_refl _, by omega, Lib.hid (by rw [upF_start]; exact HI.out.1)⟩
      case round =>
        clear HI
        obtain ⟨k, rfl, hak, hki, HK⟩ := hrel
        by_cases hlt3 : k < i - 1
        · have hltz : (k : Int) < (i : Int) - 1 := by omega
          obtain ⟨k1, ek⟩ : ∃ q : Nat, (k : Int) + 1 = (q : Int) := ⟨k + 1, by omega⟩
          have ek2 : k1 = k + 1 := by omega
          have k0 : (0 : Int) ≤ (k : Int) := by omega
          have k2 : (k : Int) < (n : Int) := by omega
          have k3 : (0 : Int) ≤ (k1 : Int) := by omega
          have k4 : (k1 : Int) < (n : Int) := by omega
          have r1 := HK.out.row.cell (j := k) (by omega)
          have r2 := HK.out.row.cell (j := k1) (by omega)
          have hsw := (HK.out.drew).swap (i := k) (j := k1) (by omega) (by omega)
          have fr := HK.out.row.frozen
          rw [show swF (upF d a k) k k1 = upF d a (k + 1) by rw [ek2, upF_step d hak]] at hsw
          generalize upF d a k k = u at *
          generalize upF d a k k1 = v at *
          clear ek2
          obtain ⟨r1, r1'⟩ := r1
          obtain ⟨r2, r2'⟩ := r2
          have Hsw := Lib.hid hsw
          clear hsw
          go_upto_region 11 with fail
          go_region
          clear r1 r1' r2 r2' fr
          go_wp2
          go_roundw
          case rel => exact ⟨k + 1, by go_num, by omega, by omega, Hsw⟩
          case measure => simp [intOf]; omega
        · obtain rfl : k = i - 1 := by omega
          have hltz : ¬ ((i - 1 : Nat) : Int) < (i : Int) - 1 := by omega
          go_wp2
          go_end0
          exact ⟨rfl, _, HK.out, Hsam.out, Hfin.out⟩
set_option maxRecDepth 100000 in
set_option maxHeartbeats 8000000 in
theorem merge_last (cap a m b : Nat) (h : AtS w w g n B d) (ham : a < m) (hmb : m < b) (hb : b ≤ n) (hn : n ≤ 1000000) (hs1 : Srt a m d) (hs2 : Srt m b d) (h1 : ¬ m = a + 1) (h2 : b = m + 1) :
    Calls Try.prog 46 #[.slice (some ⟨g, 0, none⟩) n cap, .int .i64 a, .int .i64 m, .int .i64 b, cmpF B] w (SPost w g n B fun d' => Same a b d d' ∧ Srt a b d') := by
  have l1 : (n : Int) ≤ 1000000 := by omega
  have l2 : (b : Int) ≤ (n : Int) := by omega
  have l3 : (a : Int) < (m : Int) := by omega
  have l4 : (m : Int) < (b : Int) := by omega
  have hma : ¬ (m : Int) - (a : Int) = 1 := by omega
  have hma2 : ((m : Int) - (a : Int) == 1) = false := by simp only [beq_eq_false_iff_ne, ne_eq]; exact hma
  have hbm : (b : Int) - (m : Int) = 1 := by omega
  unfold cmpF
  have H0 := Lib.hid h
  have Hs1 := Lib.hid hs1
  clear hs1
  have Hs2 := Lib.hid hs2
  clear hs2
  have H1 := Lib.hid h1
  clear h1
  have H2 := Lib.hid h2
  clear h2
  clear h
  go_enter Try.func46, Try.ntmps46
  go_wp2
  go_loopw [14, 15] (fun vi vj wr => ∃ (i j : Nat), vi = .int .i64 i ∧ vj = .int .i64 j ∧ a ≤ i ∧ i ≤ j ∧ j ≤ m ∧ Hid (AtS w wr g n B d ∧ (∀ q, a ≤ q → q < i → (d q).1 ≤ (d m).1) ∧ (∀ q, j ≤ q → q < m → (d m).1 < (d q).1))) (fun vi vj _ => (intOf vj).toNat - (intOf vi).toNat)
  case atStart => exact ⟨a, m, rfl, rfl, Nat.le_refl _, by omega, Nat.le_refl _, Lib.hid ⟨H0.out, fun q h1 h2 => by omega, fun q h1 h2 => by omega⟩⟩
  case round =>
    clear H0
    obtain ⟨i, j, rfl, rfl, hi, hij, hj, HI⟩ := hrel
    by_cases hlt : i < j
    · have hlt' : (i : Int) < (j : Int) := by omega
      obtain ⟨q, eq⟩ : ∃ q : Nat, ((i : Int) + (j : Int)) / 2 = (q : Int) := ⟨(i + j) / 2, by omega⟩
      have q0 : i ≤ q := by omega
      have q1 : q < j := by omega
      have q2 : (0 : Int) ≤ (q : Int) := by omega
      have q3 : (q : Int) < (n : Int) := by omega
      have q4 : (0 : Int) ≤ (i : Int) + (j : Int) := by omega
      have q5 : (i : Int) + (j : Int) ≤ 2000000 := by omega
      have m0 : (0 : Int) ≤ (m : Int) := by omega
      have m1 : (m : Int) < (n : Int) := by omega
      have r1 := HI.out.1.row.cell (j := m) (by omega)
      have r2 := HI.out.1.row.cell (j := q) (by omega)
      obtain ⟨x, hx⟩ : ∃ x, x = d m := ⟨_, rfl⟩
      obtain ⟨y, hy⟩ : ∃ y, y = d q := ⟨_, rfl⟩
      rw [← hx] at r1
      rw [← hy] at r2
      have hgl := HI.out.1.row.lt
      have hS0 : (fun W => Below wr.heap.size wr W) wr.drew := Below.drew (Below.refl _ _)
      have hSb : ∀ W W', (fun W => Below wr.heap.size wr W) W → Below W.heap.size W W' → (fun W => Below wr.heap.size wr W) W' := fun W W' h hb => Below.trans h (hb.mono (Below.size h))
      have hkey : ∀ z : Cls (fun W => Below wr.heap.size wr W), HasKey z.w B := fun z => HI.out.1.key.below z.h
      have c1 : ∀ z : Cls (fun W => Below wr.heap.size wr W), z.w.cell? ⟨g, m * 2, none⟩ = some (.int .u64 (x.1 : Int)) := fun z => (z.h.cell (p := ⟨g, m * 2, none⟩) hgl).trans r1.1
      have c2 : ∀ z : Cls (fun W => Below wr.heap.size wr W), z.w.cell? ⟨g, m * 2 + 1, none⟩ = some (.int .u64 (x.2 : Int)) := fun z => (z.h.cell (p := ⟨g, m * 2 + 1, none⟩) hgl).trans r1.2
      have c3 : ∀ z : Cls (fun W => Below wr.heap.size wr W), z.w.cell? ⟨g, q * 2, none⟩ = some (.int .u64 (y.1 : Int)) := fun z => (z.h.cell (p := ⟨g, q * 2, none⟩) hgl).trans r2.1
      have c4 : ∀ z : Cls (fun W => Below wr.heap.size wr W), z.w.cell? ⟨g, q * 2 + 1, none⟩ = some (.int .u64 (y.2 : Int)) := fun z => (z.h.cell (p := ⟨g, q * 2 + 1, none⟩) hgl).trans r2.2
      have ne : Nonempty (Cls (fun W => Below wr.heap.size wr W)) := ⟨⟨_, hS0⟩⟩
      have hcl := cmpN_lt x.1 y.1
      obtain ⟨c, hc⟩ : ∃ c, c = cmpN x.1 y.1 := ⟨_, rfl⟩
      have hca : ∀ z : Cls (fun W => Below wr.heap.size wr W), Calls Try.prog 33 #[spV x, spV y, .pointer (some ⟨B, 0, none⟩)] z.w fun e w' => e = .returned (.int .i64 c) ∧ Below z.w.heap.size z.w w' := fun z => by
        rw [hc]
        exact cmp_any _ B x y (hkey z)
      rw [← hc] at hcl
      have Hx := Lib.hid hx
      clear hx
      have Hy := Lib.hid hy
      clear hy
      have Hgl := Lib.hid hgl
      clear hgl
      have HS0 := Lib.hid hS0
      clear hS0
      have HSb := Lib.hid hSb
      clear hSb
      have Hkey := Lib.hid hkey
      clear hkey
      have Hcl := Lib.hid hcl
      clear hcl
      have Hca := Lib.hid hca
      clear hca
      have Hc := Lib.hid hc
      clear hc
      clear r1 r2
      go_upto_region 17 with fail
      refine wp_region_class (fun W => Below wr.heap.size wr W) (by kernel_rfl) (by kernel_rfl) HS0.out ?_
      repeat (go_big_quiet_step (first | (go_at_call 33; exact cls_call HSb.out _ (Hca.out _))))
      refine wpQuiet_nil ?_
      rintro W2 hW2
      have hA := HI.out.1.below (cls_out hW2)
      clear hW2 c1 c2 c3 c4 ne
      have HA := Lib.hid hA
      clear hA
      by_cases hlt2 : x.1 < y.1
      · have hcz : c < 0 := Hcl.out.2 hlt2
        go_wp2
        all_goals first | (exfalso; rename_i hbad; rw [decide_eq_true hcz] at hbad; cases hbad; done) | skip
        go_roundw
        case rel =>
          refine ⟨i, q, rfl, rfl, hi, q0, by omega, Lib.hid ⟨HA.out, HI.out.2.1, fun t h1 h2 => ?_⟩⟩
          have := Hs1.out.le (i := q) (j := t) (by omega) h1 h2
          rw [← Hy.out] at this
          rw [← Hx.out]
          omega
        case measure => simp [intOf]; omega
      · have hcz : ¬ c < 0 := fun e => hlt2 (Hcl.out.1 e)
        go_wp2
        all_goals first | (exfalso; rename_i hbad; rw [decide_eq_false hcz] at hbad; cases hbad; done) | skip
        go_roundw
        case rel =>
          refine ⟨q + 1, j, by go_num, rfl, by omega, by omega, hj, Lib.hid ⟨HA.out, fun t h1 h2 => ?_, HI.out.2.2⟩⟩
          have := Hs1.out.le (i := t) (j := q) h1 (by omega) (by omega)
          rw [← Hy.out] at this
          rw [← Hx.out]
          omega
        case measure => simp [intOf]; omega
    · obtain rfl : i = j := by omega
      have hlt' : ¬ (i : Int) < (i : Int) := by omega
      have hfin := dnF_srt (d := d) (a := a) (m := m) (i := i) hi hj Hs1.out HI.out.2.1 HI.out.2.2
      have hsam := dnF_same d (a := a) (m := m) (k := i) hj hi
      have Hfin := Lib.hid hfin
      clear hfin
      have Hsam := Lib.hid hsam
      clear hsam
      go_wp2
      go_loopw [17] (fun vk wr => ∃ k : Nat, vk = .int .i64 k ∧ i ≤ k ∧ k ≤ m ∧ Hid (AtS w wr g n B (dnF d m k))) (fun vk _ => (intOf vk).toNat)
      case atStart => exact ⟨m, rfl, hj, Nat.le_refl _, Lib.hid (by rw [dnF_start]; exact HI.out.1)⟩
      case round =>
        clear HI
        obtain ⟨k, rfl, hik, hkm, HK⟩ := hrel
        by_cases hlt3 : i < k
        · have hltz : (k : Int) > (i : Int) := by omega
          obtain ⟨k1, ek⟩ : ∃ q : Nat, (k : Int) - 1 = (q : Int) := ⟨k - 1, by omega⟩
          have ek2 : k1 = k - 1 := by omega
          have k0 : (0 : Int) ≤ (k : Int) := by omega
          have k2 : (k : Int) < (n : Int) := by omega
          have k3 : (0 : Int) ≤ (k1 : Int) := by omega
          have k4 : (k1 : Int) < (n : Int) := by omega
          have r1 := HK.out.row.cell (j := k) (by omega)
          have r2 := HK.out.row.cell (j := k1) (by omega)
          have hsw := (HK.out.drew).swap (i := k) (j := k1) (by omega) (by omega)
          have fr := HK.out.row.frozen
          rw [show swF (dnF d m k) k k1 = dnF d m (k - 1) by rw [ek2, dnF_step d hkm (by omega)]] at hsw
          generalize dnF d m k k = u at *
          generalize dnF d m k k1 = v at *
          clear ek2
          obtain ⟨r1, r1'⟩ := r1
          obtain ⟨r2, r2'⟩ := r2
          have Hsw := Lib.hid hsw
          clear hsw
          go_upto_region 23 with fail
          go_region
          clear r1 r1' r2 r2' fr
          go_wp2
          go_roundw
          case rel => exact ⟨k - 1, by congr 1; omega, by omega, by omega, Hsw⟩
          case measure => simp [intOf]; omega
        · obtain rfl : k = i := by omega
          have hltz : ¬ (k : Int) > (k : Int) := by omega
          go_wp2
          go_end0
          exact ⟨rfl, _, HK.out, by rw [H2.out]; exact Hsam.out, by rw [H2.out]; exact Hfin.out⟩
set_option maxRecDepth 100000 in
set_option maxHeartbeats 8000000 in
theorem merge_genA (cap a m b : Nat) (h : AtS w w g n B d) (ham : a < m) (hmb : m < b) (hb : b ≤ n) (hn : n ≤ 1000000) (hs1 : Srt a m d) (hs2 : Srt m b d) (h1 : ¬ m = a + 1) (h2 : ¬ b = m + 1) (mid : Nat) (hmid : mid = (a + b) / 2) (hcase : mid < m)
    (hIH : ∀ (a' m' b' : Nat) (d' : Row) (w' : World), b' - a' < b - a → AtS w' w' g n B d' → a' < m' → m' < b' → b' ≤ n → Srt a' m' d' → Srt m' b' d' → Calls Try.prog 46 #[.slice (some ⟨g, 0, none⟩) n cap, .int .i64 a', .int .i64 m', .int .i64 b', .func (.func 33) #[] #[.pointer (some ⟨B, 0, none⟩)]] w' (SPost w' g n B fun d'' => Same a' b' d' d'' ∧ Srt a' b' d'')) :
    Calls Try.prog 46 #[.slice (some ⟨g, 0, none⟩) n cap, .int .i64 a, .int .i64 m, .int .i64 b, cmpF B] w (SPost w g n B fun d' => Same a b d d' ∧ Srt a b d') := by
  have l1 : (n : Int) ≤ 1000000 := by omega
  have l2 : (b : Int) ≤ (n : Int) := by omega
  have l3 : (a : Int) < (m : Int) := by omega
  have l4 : (m : Int) < (b : Int) := by omega
  have hma : ¬ (m : Int) - (a : Int) = 1 := by omega
  have hma2 : ((m : Int) - (a : Int) == 1) = false := by simp only [beq_eq_false_iff_ne, ne_eq]; exact hma
  have hbm : ¬ (b : Int) - (m : Int) = 1 := by omega
  have hbm2 : ((b : Int) - (m : Int) == 1) = false := by simp only [beq_eq_false_iff_ne, ne_eq]; exact hbm
  have emid : ((a : Int) + (b : Int)) / 2 = (mid : Int) := by omega
  have m3 : a < mid := by omega
  have m4 : mid < b := by omega
  have m5 : (0 : Int) ≤ (a : Int) + (b : Int) := by omega
  have m6 : (a : Int) + (b : Int) ≤ 2000000 := by omega
  obtain ⟨N, eN⟩ : ∃ N : Nat, (mid : Int) + (m : Int) = (N : Int) := ⟨mid + m, by omega⟩
  have hN : N = mid + m := by omega
  have hgt : (m : Int) > (mid : Int) := by omega
  obtain ⟨s0, es0⟩ : ∃ q : Nat, (N : Int) - (b : Int) = (q : Int) := ⟨mid + m - b, by omega⟩
  have hs0 : s0 = mid + m - b := by omega
  obtain ⟨r0, er0⟩ : ∃ r0 : Nat, r0 = mid := ⟨_, rfl⟩
  obtain ⟨P, eP⟩ : ∃ q : Nat, (N : Int) - 1 = (q : Int) := ⟨N - 1, by omega⟩
  have hP : P = N - 1 := by omega
  have hlo : a ≤ s0 := by omega
  have hr0a : r0 ≤ m := by omega
  have hr0b : r0 ≤ mid := by omega
  have hidx : ∀ c, s0 ≤ c → c < r0 → m ≤ P - c ∧ P - c < b ∧ c ≤ P := by intro c h1 h2; omega
  have hs0e : N - s0 ≤ b := by omega
  unfold cmpF
  have H0 := Lib.hid h
  have hrot : ∀ (w' : World) (x y z : Nat), AtS w' w' g n B d → x < y → y < z → z ≤ n → Calls Try.prog 47 #[.slice (some ⟨g, 0, none⟩) n cap, .int .i64 x, .int .i64 y, .int .i64 z, .func (.func 33) #[] #[.pointer (some ⟨B, 0, none⟩)]] w' (SPost w' g n B fun d' => d' = rotF d x y z) := fun w' x y z hA h1 h2 h3 => rot_any cap x y z hA h1 h2 h3 hn
  have HMID := Lib.hid (And.intro hmid hN)
  have Hs1 := Lib.hid hs1
  clear hs1
  have Hs2 := Lib.hid hs2
  clear hs2
  have H1 := Lib.hid h1
  clear h1
  have H2 := Lib.hid h2
  clear h2
  have Hs0 := Lib.hid hs0
  clear hs0
  have Er0 := Lib.hid er0
  clear er0
  have HIH := Lib.hid hIH
  clear hIH
  have Hrot := Lib.hid hrot
  clear hrot
  have HP := Lib.hid hP
  clear hP
  have Hidx := Lib.hid hidx
  clear hidx
  have Hs0e := Lib.hid hs0e
  clear hs0e
  clear h hmid hN
  go_enter Try.func46, Try.ntmps46
  go_wp2
  go_loopw [20, 21] (fun vi vj wr => ∃ (i j : Nat), vi = .int .i64 i ∧ vj = .int .i64 j ∧ s0 ≤ i ∧ i ≤ j ∧ j ≤ r0 ∧ Hid (AtS w wr g n B d ∧ (i = s0 ∨ (d (i - 1)).1 ≤ (d (P - (i - 1))).1) ∧ (j = r0 ∨ (d (P - j)).1 < (d j).1))) (fun vi vj _ => (intOf vj).toNat - (intOf vi).toNat)
  case atStart => exact ⟨s0, mid, rfl, rfl, Nat.le_refl _, by have := Hs0.out; omega, by rw [Er0.out]; exact Nat.le_refl _, Lib.hid ⟨H0.out, .inl rfl, .inl Er0.out.symm⟩⟩
  case round =>
    clear H0
    obtain ⟨i, j, rfl, rfl, hi, hij, hj, HI⟩ := hrel
    by_cases hlt : i < j
    · have hlt' : (i : Int) < (j : Int) := by omega
      obtain ⟨q, eq⟩ : ∃ q : Nat, ((i : Int) + (j : Int)) / 2 = (q : Int) := ⟨(i + j) / 2, by omega⟩
      have q0 : i ≤ q := by omega
      have q1 : q < j := by omega
      have q2 : (0 : Int) ≤ (q : Int) := by omega
      have q3 : (q : Int) < (n : Int) := by omega
      have q4 : (0 : Int) ≤ (i : Int) + (j : Int) := by omega
      have q5 : (i : Int) + (j : Int) ≤ 2000000 := by omega
      have hix := Hidx.out q (by omega) (by omega)
      obtain ⟨t, et⟩ : ∃ t : Nat, (P : Int) - (q : Int) = (t : Int) := ⟨P - q, by omega⟩
      have et2 : t = P - q := by omega
      have t0 : (0 : Int) ≤ (t : Int) := by omega
      have t1 : (t : Int) < (n : Int) := by omega
      have t2 : t < n := by omega
      have Et2 := Lib.hid et2
      clear et2 hix
      have r1 := HI.out.1.row.cell (j := t) (by omega)
      have r2 := HI.out.1.row.cell (j := q) (by omega)
      obtain ⟨x, hx⟩ : ∃ x, x = d t := ⟨_, rfl⟩
      obtain ⟨y, hy⟩ : ∃ y, y = d q := ⟨_, rfl⟩
      rw [← hx] at r1
      rw [← hy] at r2
      have hgl := HI.out.1.row.lt
      have hS0 : (fun W => Below wr.heap.size wr W) wr.drew := Below.drew (Below.refl _ _)
      have hSb : ∀ W W', (fun W => Below wr.heap.size wr W) W → Below W.heap.size W W' → (fun W => Below wr.heap.size wr W) W' := fun W W' h hb => Below.trans h (hb.mono (Below.size h))
      have hkey : ∀ z : Cls (fun W => Below wr.heap.size wr W), HasKey z.w B := fun z => HI.out.1.key.below z.h
      have c1 : ∀ z : Cls (fun W => Below wr.heap.size wr W), z.w.cell? ⟨g, t * 2, none⟩ = some (.int .u64 (x.1 : Int)) := fun z => (z.h.cell (p := ⟨g, t * 2, none⟩) hgl).trans r1.1
      have c2 : ∀ z : Cls (fun W => Below wr.heap.size wr W), z.w.cell? ⟨g, t * 2 + 1, none⟩ = some (.int .u64 (x.2 : Int)) := fun z => (z.h.cell (p := ⟨g, t * 2 + 1, none⟩) hgl).trans r1.2
      have c3 : ∀ z : Cls (fun W => Below wr.heap.size wr W), z.w.cell? ⟨g, q * 2, none⟩ = some (.int .u64 (y.1 : Int)) := fun z => (z.h.cell (p := ⟨g, q * 2, none⟩) hgl).trans r2.1
      have c4 : ∀ z : Cls (fun W => Below wr.heap.size wr W), z.w.cell? ⟨g, q * 2 + 1, none⟩ = some (.int .u64 (y.2 : Int)) := fun z => (z.h.cell (p := ⟨g, q * 2 + 1, none⟩) hgl).trans r2.2
      have ne : Nonempty (Cls (fun W => Below wr.heap.size wr W)) := ⟨⟨_, hS0⟩⟩
      have hcl := cmpN_lt x.1 y.1
      obtain ⟨c, hc⟩ : ∃ c, c = cmpN x.1 y.1 := ⟨_, rfl⟩
      have hca : ∀ z : Cls (fun W => Below wr.heap.size wr W), Calls Try.prog 33 #[spV x, spV y, .pointer (some ⟨B, 0, none⟩)] z.w fun e w' => e = .returned (.int .i64 c) ∧ Below z.w.heap.size z.w w' := fun z => by
        rw [hc]
        exact cmp_any _ B x y (hkey z)
      rw [← hc] at hcl
      have Hx := Lib.hid hx
      clear hx
      have Hy := Lib.hid hy
      clear hy
      have Hgl := Lib.hid hgl
      clear hgl
      have HS0 := Lib.hid hS0
      clear hS0
      have HSb := Lib.hid hSb
      clear hSb
      have Hkey := Lib.hid hkey
      clear hkey
      have Hcl := Lib.hid hcl
      clear hcl
      have Hca := Lib.hid hca
      clear hca
      have Hc := Lib.hid hc
      clear hc
      clear r1 r2
      go_upto_region 35 with fail
      refine wp_region_class (fun W => Below wr.heap.size wr W) (by kernel_rfl) (by kernel_rfl) HS0.out ?_
      repeat (go_big_quiet_step (first | (go_at_call 33; exact cls_call HSb.out _ (Hca.out _))))
      refine wpQuiet_nil ?_
      rintro W2 hW2
      have hA := HI.out.1.below (cls_out hW2)
      clear hW2 c1 c2 c3 c4 ne
      have HA := Lib.hid hA
      clear hA
      by_cases hlt2 : x.1 < y.1
      · have hcz : c < 0 := Hcl.out.2 hlt2
        go_wp2
        all_goals first | (exfalso; rename_i hbad; rw [decide_eq_true hcz] at hbad; cases hbad; done) | skip
        go_roundw
        case rel => exact ⟨i, q, rfl, rfl, hi, q0, by omega, Lib.hid ⟨HA.out, HI.out.2.1, .inr (by rw [← Et2.out, ← Hx.out, ← Hy.out]; exact hlt2)⟩⟩
        case measure => simp [intOf]; omega
      · have hcz : ¬ c < 0 := fun e => hlt2 (Hcl.out.1 e)
        go_wp2
        all_goals first | (exfalso; rename_i hbad; rw [decide_eq_false hcz] at hbad; cases hbad; done) | skip
        go_roundw
        case rel => exact ⟨q + 1, j, by go_num, rfl, by omega, by omega, hj, Lib.hid ⟨HA.out, .inr (by rw [show q + 1 - 1 = q by omega, ← Et2.out, ← Hx.out, ← Hy.out]; omega), HI.out.2.2⟩⟩
        case measure => simp [intOf]; omega
    · obtain rfl : i = j := by omega
      have hlt' : ¬ (i : Int) < (i : Int) := by omega
      obtain ⟨hmid, hN⟩ := HMID.out
      obtain ⟨e, ee⟩ : ∃ e : Nat, (N : Int) - (i : Int) = (e : Int) := ⟨N - i, by omega⟩
      have he : e = mid + m - i := by omega
      have he1 : e ≤ b := by have := Hs0e.out; omega
      have hme : m ≤ e := by omega
      have hee : mid ≤ e := by omega
      have hP2 := HP.out
      have hh := halves (d := d) (a := a) (m := m) (b := b) (mid := mid) (s := i) (e := e) (by omega) (by omega) (by omega) he he1 hme Hs1.out Hs2.out
        (fun q1 q2 => by
          rcases HI.out.2.1 with q3 | q3
          · exfalso
            have := Hs0.out
            omega
          · rw [show P - (i - 1) = e by omega] at q3
            exact q3)
        (fun q1 q2 => by
          rcases HI.out.2.2 with q3 | q3
          · exfalso
            have := Er0.out
            omega
          · rw [show P - i = e - 1 by omega] at q3
            exact q3)
      obtain ⟨D1, hD1⟩ : ∃ D1, D1 = rotF d i m e := ⟨_, rfl⟩
      rw [← hD1] at hh
      have hsm1 : Same a b d D1 := by rw [hD1]; exact (rotF_same d (by omega) hme).mono (by omega) he1
      have Hh := Lib.hid (And.intro hsm1 hh)
      have HEE := Lib.hid (And.intro he (And.intro he1 (And.intro hme hee)))
      have hA0 := HI.out.1
      have hrot0 : (¬ (i < m ∧ m < e)) → D1 = d := fun h => by rw [hD1]; exact rotF_none d (by omega) (by omega) hme
      have cR : i < m ∧ m < e → Calls Try.prog 47 #[.slice (some ⟨g, 0, none⟩) n cap, .int .i64 i, .int .i64 m, .int .i64 e, .func (.func 33) #[] #[.pointer (some ⟨B, 0, none⟩)]] wr (fun e w' => e = .returned (.tuple #[]) ∧ AtS w w' g n B D1) := fun h => (Hrot.out wr i m e (AtS.start hA0.row hA0.key hA0.ne) h.1 h.2 (by omega)).mono fun e' w' ⟨h1, d', h2, h3⟩ => ⟨h1, hA0.trans (by rw [hD1, ← h3]; exact h2)⟩
      have HA0 := Lib.hid hA0
      have CR := Lib.hid cR
      clear cR
      have Hrot0 := Lib.hid hrot0
      clear hrot0
      clear hsm1 hh hA0 hD1 he he1 hme hee hP2 HI hmid hN
      obtain ⟨wc0, hwc0⟩ : ∃ W, W = wr := ⟨_, rfl⟩
      rw [← hwc0] at HA0 CR ⊢
      clear hwc0
      go_upto_region 39 with fail
      go_cut [185] from 178 (fun v wx => v = .bool (decide (i < m ∧ m < e)) ∧ wx = wc0)
      case first =>
        by_cases k1 : i < m
        · have k1z : (i : Int) < (m : Int) := by omega
          by_cases k2 : m < e
          · have k2z : (m : Int) < (e : Int) := by omega
            have k3 : decide (i < m ∧ m < e) = true := decide_eq_true ⟨k1, k2⟩
            go_wp2
            go_meet
            case rel => exact ⟨by rw [k3], rfl⟩
          · have k2z : ¬ (m : Int) < (e : Int) := by omega
            have k3 : decide (i < m ∧ m < e) = false := decide_eq_false (fun h => k2 h.2)
            go_wp2
            go_meet
            case rel => exact ⟨by rw [k3], rfl⟩
        · have k1z : ¬ (i : Int) < (m : Int) := by omega
          have k3 : decide (i < m ∧ m < e) = false := decide_eq_false (fun h => k1 h.1)
          go_wp2
          go_meet
          case rel => exact ⟨by rw [k3], rfl⟩
      case rest =>
        obtain ⟨rfl, hwx⟩ := hcut
        rw [hwx]
        clear hwx
        by_cases hR : i < m ∧ m < e
        · have kz : decide (i < m ∧ m < e) = true := decide_eq_true hR
          rw [kz]
          go_upto_region 41 with (go_at_call 47; with_reducible refine (CR.out hR).mono ?_; rintro e' wc1 ⟨rfl, hA1⟩; have HA1 := Lib.hid hA1; clear hA1)
          clear CR Hrot0 HA0
          have hA1 := HA1.out
          obtain ⟨hsm1, g1, g2, g3, g4, g5⟩ := Hh.out
          obtain ⟨he, he1, hme, hee⟩ := HEE.out
          have cL : a < i ∧ i < mid → Calls Try.prog 46 #[.slice (some ⟨g, 0, none⟩) n cap, .int .i64 a, .int .i64 i, .int .i64 mid, .func (.func 33) #[] #[.pointer (some ⟨B, 0, none⟩)]] wc1 (fun e' w' => e' = .returned (.tuple #[]) ∧ ∃ D2, AtS w w' g n B D2 ∧ Same a mid D1 D2 ∧ Srt a mid D2) := fun hh => (HIH.out a i mid D1 wc1 (by omega) (AtS.start hA1.row hA1.key hA1.ne) hh.1 hh.2 (by omega) g1 g2).mono fun e' w' ⟨h1, D2, h2, h3, h4⟩ => ⟨h1, D2, hA1.trans h2, h3, h4⟩
          have hnl : ¬ (a < i ∧ i < mid) → Srt a mid D1 := fun hh => by
            by_cases h1 : a < i
            · have h2 : i = mid := by omega
              rw [← h2]
              exact g1
            · have h2 : i = a := by omega
              rw [← h2]
              exact g2
          have CL := Lib.hid cL
          clear cL
          have Hnl := Lib.hid hnl
          clear hnl
          clear hA1 hsm1 g1 g2 g3 g4 g5 he he1 hme hee
          go_cut [199] from 192 (fun v wx => v = .bool (decide (a < i ∧ i < mid)) ∧ wx = wc1)
          case first =>
            by_cases k1 : a < i
            · have k1z : (a : Int) < (i : Int) := by omega
              by_cases k2 : i < mid
              · have k2z : (i : Int) < (mid : Int) := by omega
                have k3 : decide (a < i ∧ i < mid) = true := decide_eq_true ⟨k1, k2⟩
                go_wp2
                go_meet
                case rel => exact ⟨by rw [k3], rfl⟩
              · have k2z : ¬ (i : Int) < (mid : Int) := by omega
                have k3 : decide (a < i ∧ i < mid) = false := decide_eq_false (fun h => k2 h.2)
                go_wp2
                go_meet
                case rel => exact ⟨by rw [k3], rfl⟩
            · have k1z : ¬ (a : Int) < (i : Int) := by omega
              have k3 : decide (a < i ∧ i < mid) = false := decide_eq_false (fun h => k1 h.1)
              go_wp2
              go_meet
              case rel => exact ⟨by rw [k3], rfl⟩
          case rest =>
            obtain ⟨rfl, hwx⟩ := hcut
            rw [hwx]
            clear hwx
            by_cases hL : a < i ∧ i < mid
            · have kz : decide (a < i ∧ i < mid) = true := decide_eq_true hL
              rw [kz]
              go_upto_region 43 with (go_at_call 46; with_reducible refine (CL.out hL).mono ?_; rintro e' wc2 ⟨rfl, D2, hA2, hD2⟩; have HA2 := Lib.hid hA2; have HD2 := Lib.hid hD2; clear hA2 hD2)
              clear CL Hnl
              have hA2 := HA2.out
              obtain ⟨hD2s, hD2o⟩ := HD2.out
              obtain ⟨hsm1, g1, g2, g3, g4, g5⟩ := Hh.out
              obtain ⟨he, he1, hme, hee⟩ := HEE.out
              have s3 : Srt mid e D2 := g3.congr fun t h1 h2 => hD2s.out t (by omega)
              have s4 : Srt e b D2 := g4.congr fun t h1 h2 => hD2s.out t (by omega)
              have cH : mid < e ∧ e < b → Calls Try.prog 46 #[.slice (some ⟨g, 0, none⟩) n cap, .int .i64 mid, .int .i64 e, .int .i64 b, .func (.func 33) #[] #[.pointer (some ⟨B, 0, none⟩)]] wc2 (fun e' w' => e' = .returned (.tuple #[]) ∧ ∃ D3, AtS w w' g n B D3 ∧ Same a b d D3 ∧ Srt a b D3) := fun hh => (HIH.out mid e b D2 wc2 (by omega) (AtS.start hA2.row hA2.key hA2.ne) hh.1 hh.2 hb s3 s4).mono fun e' w' ⟨h1, D3, h2, h3, h4⟩ => ⟨h1, D3, hA2.trans h2, merge_end (by omega) (by omega) hsm1 g5 hD2s hD2o h3 h4⟩
              have hno : ¬ (mid < e ∧ e < b) → Same a b d D2 ∧ Srt a b D2 := fun hh => by
                refine merge_end (by omega) (by omega) hsm1 g5 hD2s hD2o (Same.refl _ _ _) ?_
                by_cases h1 : mid < e
                · have h2 : e = b := by omega
                  rw [← h2]
                  exact s3
                · have h2 : e = mid := by omega
                  rw [← h2]
                  exact s4
              have CH := Lib.hid cH
              clear cH
              have Hno := Lib.hid hno
              clear hno
              clear hA2 hD2s hD2o hsm1 g1 g2 g3 g4 g5 he he1 hme hee s3 s4
              go_cut [213] from 206 (fun v wx => v = .bool (decide (mid < e ∧ e < b)) ∧ wx = wc2)
              case first =>
                by_cases k1 : mid < e
                · have k1z : (mid : Int) < (e : Int) := by omega
                  by_cases k2 : e < b
                  · have k2z : (e : Int) < (b : Int) := by omega
                    have k3 : decide (mid < e ∧ e < b) = true := decide_eq_true ⟨k1, k2⟩
                    go_wp2
                    go_meet
                    case rel => exact ⟨by rw [k3], rfl⟩
                  · have k2z : ¬ (e : Int) < (b : Int) := by omega
                    have k3 : decide (mid < e ∧ e < b) = false := decide_eq_false (fun h => k2 h.2)
                    go_wp2
                    go_meet
                    case rel => exact ⟨by rw [k3], rfl⟩
                · have k1z : ¬ (mid : Int) < (e : Int) := by omega
                  have k3 : decide (mid < e ∧ e < b) = false := decide_eq_false (fun h => k1 h.1)
                  go_wp2
                  go_meet
                  case rel => exact ⟨by rw [k3], rfl⟩
              case rest =>
                obtain ⟨rfl, hwx⟩ := hcut
                rw [hwx]
                clear hwx
                by_cases hH : mid < e ∧ e < b
                · have kz : decide (mid < e ∧ e < b) = true := decide_eq_true hH
                  rw [kz]
                  go_wp2_with (go_at_call 46; with_reducible refine (CH.out hH).mono ?_; rintro e' w7 ⟨rfl, D3, hA3, hD3⟩; have HF := Lib.hid (And.intro hA3 hD3); clear hA3 hD3)
                  go_end0
                  exact ⟨rfl, D3, HF.out.1, HF.out.2⟩
                · have kz : decide (mid < e ∧ e < b) = false := decide_eq_false hH
                  rw [kz]
                  go_wp2
                  go_end0
                  exact ⟨rfl, D2, HA2.out, Hno.out hH⟩
            · have kz : decide (a < i ∧ i < mid) = false := decide_eq_false hL
              rw [kz]
              obtain ⟨D2, hD2e⟩ : ∃ D2, D2 = D1 := ⟨_, rfl⟩
              obtain ⟨wc2, hwc2⟩ : ∃ W, W = wc1 := ⟨_, rfl⟩
              have HA2 : Hid (AtS w wc2 g n B D2) := Lib.hid (by rw [hD2e, hwc2]; exact HA1.out)
              have HD2 : Hid (Same a mid D1 D2 ∧ Srt a mid D2) := Lib.hid (by rw [hD2e]; exact ⟨Same.refl _ _ _, Hnl.out hL⟩)
              rw [← hwc2]
              clear hD2e hwc2 CL Hnl
              go_upto_region 43 with fail
              have hA2 := HA2.out
              obtain ⟨hD2s, hD2o⟩ := HD2.out
              obtain ⟨hsm1, g1, g2, g3, g4, g5⟩ := Hh.out
              obtain ⟨he, he1, hme, hee⟩ := HEE.out
              have s3 : Srt mid e D2 := g3.congr fun t h1 h2 => hD2s.out t (by omega)
              have s4 : Srt e b D2 := g4.congr fun t h1 h2 => hD2s.out t (by omega)
              have cH : mid < e ∧ e < b → Calls Try.prog 46 #[.slice (some ⟨g, 0, none⟩) n cap, .int .i64 mid, .int .i64 e, .int .i64 b, .func (.func 33) #[] #[.pointer (some ⟨B, 0, none⟩)]] wc2 (fun e' w' => e' = .returned (.tuple #[]) ∧ ∃ D3, AtS w w' g n B D3 ∧ Same a b d D3 ∧ Srt a b D3) := fun hh => (HIH.out mid e b D2 wc2 (by omega) (AtS.start hA2.row hA2.key hA2.ne) hh.1 hh.2 hb s3 s4).mono fun e' w' ⟨h1, D3, h2, h3, h4⟩ => ⟨h1, D3, hA2.trans h2, merge_end (by omega) (by omega) hsm1 g5 hD2s hD2o h3 h4⟩
              have hno : ¬ (mid < e ∧ e < b) → Same a b d D2 ∧ Srt a b D2 := fun hh => by
                refine merge_end (by omega) (by omega) hsm1 g5 hD2s hD2o (Same.refl _ _ _) ?_
                by_cases h1 : mid < e
                · have h2 : e = b := by omega
                  rw [← h2]
                  exact s3
                · have h2 : e = mid := by omega
                  rw [← h2]
                  exact s4
              have CH := Lib.hid cH
              clear cH
              have Hno := Lib.hid hno
              clear hno
              clear hA2 hD2s hD2o hsm1 g1 g2 g3 g4 g5 he he1 hme hee s3 s4
              go_cut [213] from 206 (fun v wx => v = .bool (decide (mid < e ∧ e < b)) ∧ wx = wc2)
              case first =>
                by_cases k1 : mid < e
                · have k1z : (mid : Int) < (e : Int) := by omega
                  by_cases k2 : e < b
                  · have k2z : (e : Int) < (b : Int) := by omega
                    have k3 : decide (mid < e ∧ e < b) = true := decide_eq_true ⟨k1, k2⟩
                    go_wp2
                    go_meet
                    case rel => exact ⟨by rw [k3], rfl⟩
                  · have k2z : ¬ (e : Int) < (b : Int) := by omega
                    have k3 : decide (mid < e ∧ e < b) = false := decide_eq_false (fun h => k2 h.2)
                    go_wp2
                    go_meet
                    case rel => exact ⟨by rw [k3], rfl⟩
                · have k1z : ¬ (mid : Int) < (e : Int) := by omega
                  have k3 : decide (mid < e ∧ e < b) = false := decide_eq_false (fun h => k1 h.1)
                  go_wp2
                  go_meet
                  case rel => exact ⟨by rw [k3], rfl⟩
              case rest =>
                obtain ⟨rfl, hwx⟩ := hcut
                rw [hwx]
                clear hwx
                by_cases hH : mid < e ∧ e < b
                · have kz : decide (mid < e ∧ e < b) = true := decide_eq_true hH
                  rw [kz]
                  go_wp2_with (go_at_call 46; with_reducible refine (CH.out hH).mono ?_; rintro e' w7 ⟨rfl, D3, hA3, hD3⟩; have HF := Lib.hid (And.intro hA3 hD3); clear hA3 hD3)
                  go_end0
                  exact ⟨rfl, D3, HF.out.1, HF.out.2⟩
                · have kz : decide (mid < e ∧ e < b) = false := decide_eq_false hH
                  rw [kz]
                  go_wp2
                  go_end0
                  exact ⟨rfl, D2, HA2.out, Hno.out hH⟩
        · have kz : decide (i < m ∧ m < e) = false := decide_eq_false hR
          rw [kz]
          obtain ⟨wc1, hwc1⟩ : ∃ W, W = wc0 := ⟨_, rfl⟩
          have HA1 : Hid (AtS w wc1 g n B D1) := Lib.hid (by rw [Hrot0.out hR, hwc1]; exact HA0.out)
          rw [← hwc1]
          clear hwc1 CR Hrot0 HA0
          go_upto_region 41 with fail
          have hA1 := HA1.out
          obtain ⟨hsm1, g1, g2, g3, g4, g5⟩ := Hh.out
          obtain ⟨he, he1, hme, hee⟩ := HEE.out
          have cL : a < i ∧ i < mid → Calls Try.prog 46 #[.slice (some ⟨g, 0, none⟩) n cap, .int .i64 a, .int .i64 i, .int .i64 mid, .func (.func 33) #[] #[.pointer (some ⟨B, 0, none⟩)]] wc1 (fun e' w' => e' = .returned (.tuple #[]) ∧ ∃ D2, AtS w w' g n B D2 ∧ Same a mid D1 D2 ∧ Srt a mid D2) := fun hh => (HIH.out a i mid D1 wc1 (by omega) (AtS.start hA1.row hA1.key hA1.ne) hh.1 hh.2 (by omega) g1 g2).mono fun e' w' ⟨h1, D2, h2, h3, h4⟩ => ⟨h1, D2, hA1.trans h2, h3, h4⟩
          have hnl : ¬ (a < i ∧ i < mid) → Srt a mid D1 := fun hh => by
            by_cases h1 : a < i
            · have h2 : i = mid := by omega
              rw [← h2]
              exact g1
            · have h2 : i = a := by omega
              rw [← h2]
              exact g2
          have CL := Lib.hid cL
          clear cL
          have Hnl := Lib.hid hnl
          clear hnl
          clear hA1 hsm1 g1 g2 g3 g4 g5 he he1 hme hee
          go_cut [199] from 192 (fun v wx => v = .bool (decide (a < i ∧ i < mid)) ∧ wx = wc1)
          case first =>
            by_cases k1 : a < i
            · have k1z : (a : Int) < (i : Int) := by omega
              by_cases k2 : i < mid
              · have k2z : (i : Int) < (mid : Int) := by omega
                have k3 : decide (a < i ∧ i < mid) = true := decide_eq_true ⟨k1, k2⟩
                go_wp2
                go_meet
                case rel => exact ⟨by rw [k3], rfl⟩
              · have k2z : ¬ (i : Int) < (mid : Int) := by omega
                have k3 : decide (a < i ∧ i < mid) = false := decide_eq_false (fun h => k2 h.2)
                go_wp2
                go_meet
                case rel => exact ⟨by rw [k3], rfl⟩
            · have k1z : ¬ (a : Int) < (i : Int) := by omega
              have k3 : decide (a < i ∧ i < mid) = false := decide_eq_false (fun h => k1 h.1)
              go_wp2
              go_meet
              case rel => exact ⟨by rw [k3], rfl⟩
          case rest =>
            obtain ⟨rfl, hwx⟩ := hcut
            rw [hwx]
            clear hwx
            by_cases hL : a < i ∧ i < mid
            · have kz : decide (a < i ∧ i < mid) = true := decide_eq_true hL
              rw [kz]
              go_upto_region 43 with (go_at_call 46; with_reducible refine (CL.out hL).mono ?_; rintro e' wc2 ⟨rfl, D2, hA2, hD2⟩; have HA2 := Lib.hid hA2; have HD2 := Lib.hid hD2; clear hA2 hD2)
              clear CL Hnl
              have hA2 := HA2.out
              obtain ⟨hD2s, hD2o⟩ := HD2.out
              obtain ⟨hsm1, g1, g2, g3, g4, g5⟩ := Hh.out
              obtain ⟨he, he1, hme, hee⟩ := HEE.out
              have s3 : Srt mid e D2 := g3.congr fun t h1 h2 => hD2s.out t (by omega)
              have s4 : Srt e b D2 := g4.congr fun t h1 h2 => hD2s.out t (by omega)
              have cH : mid < e ∧ e < b → Calls Try.prog 46 #[.slice (some ⟨g, 0, none⟩) n cap, .int .i64 mid, .int .i64 e, .int .i64 b, .func (.func 33) #[] #[.pointer (some ⟨B, 0, none⟩)]] wc2 (fun e' w' => e' = .returned (.tuple #[]) ∧ ∃ D3, AtS w w' g n B D3 ∧ Same a b d D3 ∧ Srt a b D3) := fun hh => (HIH.out mid e b D2 wc2 (by omega) (AtS.start hA2.row hA2.key hA2.ne) hh.1 hh.2 hb s3 s4).mono fun e' w' ⟨h1, D3, h2, h3, h4⟩ => ⟨h1, D3, hA2.trans h2, merge_end (by omega) (by omega) hsm1 g5 hD2s hD2o h3 h4⟩
              have hno : ¬ (mid < e ∧ e < b) → Same a b d D2 ∧ Srt a b D2 := fun hh => by
                refine merge_end (by omega) (by omega) hsm1 g5 hD2s hD2o (Same.refl _ _ _) ?_
                by_cases h1 : mid < e
                · have h2 : e = b := by omega
                  rw [← h2]
                  exact s3
                · have h2 : e = mid := by omega
                  rw [← h2]
                  exact s4
              have CH := Lib.hid cH
              clear cH
              have Hno := Lib.hid hno
              clear hno
              clear hA2 hD2s hD2o hsm1 g1 g2 g3 g4 g5 he he1 hme hee s3 s4
              go_cut [213] from 206 (fun v wx => v = .bool (decide (mid < e ∧ e < b)) ∧ wx = wc2)
              case first =>
                by_cases k1 : mid < e
                · have k1z : (mid : Int) < (e : Int) := by omega
                  by_cases k2 : e < b
                  · have k2z : (e : Int) < (b : Int) := by omega
                    have k3 : decide (mid < e ∧ e < b) = true := decide_eq_true ⟨k1, k2⟩
                    go_wp2
                    go_meet
                    case rel => exact ⟨by rw [k3], rfl⟩
                  · have k2z : ¬ (e : Int) < (b : Int) := by omega
                    have k3 : decide (mid < e ∧ e < b) = false := decide_eq_false (fun h => k2 h.2)
                    go_wp2
                    go_meet
                    case rel => exact ⟨by rw [k3], rfl⟩
                · have k1z : ¬ (mid : Int) < (e : Int) := by omega
                  have k3 : decide (mid < e ∧ e < b) = false := decide_eq_false (fun h => k1 h.1)
                  go_wp2
                  go_meet
                  case rel => exact ⟨by rw [k3], rfl⟩
              case rest =>
                obtain ⟨rfl, hwx⟩ := hcut
                rw [hwx]
                clear hwx
                by_cases hH : mid < e ∧ e < b
                · have kz : decide (mid < e ∧ e < b) = true := decide_eq_true hH
                  rw [kz]
                  go_wp2_with (go_at_call 46; with_reducible refine (CH.out hH).mono ?_; rintro e' w7 ⟨rfl, D3, hA3, hD3⟩; have HF := Lib.hid (And.intro hA3 hD3); clear hA3 hD3)
                  go_end0
                  exact ⟨rfl, D3, HF.out.1, HF.out.2⟩
                · have kz : decide (mid < e ∧ e < b) = false := decide_eq_false hH
                  rw [kz]
                  go_wp2
                  go_end0
                  exact ⟨rfl, D2, HA2.out, Hno.out hH⟩
            · have kz : decide (a < i ∧ i < mid) = false := decide_eq_false hL
              rw [kz]
              obtain ⟨D2, hD2e⟩ : ∃ D2, D2 = D1 := ⟨_, rfl⟩
              obtain ⟨wc2, hwc2⟩ : ∃ W, W = wc1 := ⟨_, rfl⟩
              have HA2 : Hid (AtS w wc2 g n B D2) := Lib.hid (by rw [hD2e, hwc2]; exact HA1.out)
              have HD2 : Hid (Same a mid D1 D2 ∧ Srt a mid D2) := Lib.hid (by rw [hD2e]; exact ⟨Same.refl _ _ _, Hnl.out hL⟩)
              rw [← hwc2]
              clear hD2e hwc2 CL Hnl
              go_upto_region 43 with fail
              have hA2 := HA2.out
              obtain ⟨hD2s, hD2o⟩ := HD2.out
              obtain ⟨hsm1, g1, g2, g3, g4, g5⟩ := Hh.out
              obtain ⟨he, he1, hme, hee⟩ := HEE.out
              have s3 : Srt mid e D2 := g3.congr fun t h1 h2 => hD2s.out t (by omega)
              have s4 : Srt e b D2 := g4.congr fun t h1 h2 => hD2s.out t (by omega)
              have cH : mid < e ∧ e < b → Calls Try.prog 46 #[.slice (some ⟨g, 0, none⟩) n cap, .int .i64 mid, .int .i64 e, .int .i64 b, .func (.func 33) #[] #[.pointer (some ⟨B, 0, none⟩)]] wc2 (fun e' w' => e' = .returned (.tuple #[]) ∧ ∃ D3, AtS w w' g n B D3 ∧ Same a b d D3 ∧ Srt a b D3) := fun hh => (HIH.out mid e b D2 wc2 (by omega) (AtS.start hA2.row hA2.key hA2.ne) hh.1 hh.2 hb s3 s4).mono fun e' w' ⟨h1, D3, h2, h3, h4⟩ => ⟨h1, D3, hA2.trans h2, merge_end (by omega) (by omega) hsm1 g5 hD2s hD2o h3 h4⟩
              have hno : ¬ (mid < e ∧ e < b) → Same a b d D2 ∧ Srt a b D2 := fun hh => by
                refine merge_end (by omega) (by omega) hsm1 g5 hD2s hD2o (Same.refl _ _ _) ?_
                by_cases h1 : mid < e
                · have h2 : e = b := by omega
                  rw [← h2]
                  exact s3
                · have h2 : e = mid := by omega
                  rw [← h2]
                  exact s4
              have CH := Lib.hid cH
              clear cH
              have Hno := Lib.hid hno
              clear hno
              clear hA2 hD2s hD2o hsm1 g1 g2 g3 g4 g5 he he1 hme hee s3 s4
              go_cut [213] from 206 (fun v wx => v = .bool (decide (mid < e ∧ e < b)) ∧ wx = wc2)
              case first =>
                by_cases k1 : mid < e
                · have k1z : (mid : Int) < (e : Int) := by omega
                  by_cases k2 : e < b
                  · have k2z : (e : Int) < (b : Int) := by omega
                    have k3 : decide (mid < e ∧ e < b) = true := decide_eq_true ⟨k1, k2⟩
                    go_wp2
                    go_meet
                    case rel => exact ⟨by rw [k3], rfl⟩
                  · have k2z : ¬ (e : Int) < (b : Int) := by omega
                    have k3 : decide (mid < e ∧ e < b) = false := decide_eq_false (fun h => k2 h.2)
                    go_wp2
                    go_meet
                    case rel => exact ⟨by rw [k3], rfl⟩
                · have k1z : ¬ (mid : Int) < (e : Int) := by omega
                  have k3 : decide (mid < e ∧ e < b) = false := decide_eq_false (fun h => k1 h.1)
                  go_wp2
                  go_meet
                  case rel => exact ⟨by rw [k3], rfl⟩
              case rest =>
                obtain ⟨rfl, hwx⟩ := hcut
                rw [hwx]
                clear hwx
                by_cases hH : mid < e ∧ e < b
                · have kz : decide (mid < e ∧ e < b) = true := decide_eq_true hH
                  rw [kz]
                  go_wp2_with (go_at_call 46; with_reducible refine (CH.out hH).mono ?_; rintro e' w7 ⟨rfl, D3, hA3, hD3⟩; have HF := Lib.hid (And.intro hA3 hD3); clear hA3 hD3)
                  go_end0
                  exact ⟨rfl, D3, HF.out.1, HF.out.2⟩
                · have kz : decide (mid < e ∧ e < b) = false := decide_eq_false hH
                  rw [kz]
                  go_wp2
                  go_end0
                  exact ⟨rfl, D2, HA2.out, Hno.out hH⟩
set_option maxRecDepth 100000 in
set_option maxHeartbeats 8000000 in
theorem merge_genB (cap a m b : Nat) (h : AtS w w g n B d) (ham : a < m) (hmb : m < b) (hb : b ≤ n) (hn : n ≤ 1000000) (hs1 : Srt a m d) (hs2 : Srt m b d) (h1 : ¬ m = a + 1) (h2 : ¬ b = m + 1) (mid : Nat) (hmid : mid = (a + b) / 2) (hcase : m ≤ mid)
    (hIH : ∀ (a' m' b' : Nat) (d' : Row) (w' : World), b' - a' < b - a → AtS w' w' g n B d' → a' < m' → m' < b' → b' ≤ n → Srt a' m' d' → Srt m' b' d' → Calls Try.prog 46 #[.slice (some ⟨g, 0, none⟩) n cap, .int .i64 a', .int .i64 m', .int .i64 b', .func (.func 33) #[] #[.pointer (some ⟨B, 0, none⟩)]] w' (SPost w' g n B fun d'' => Same a' b' d' d'' ∧ Srt a' b' d'')) :
    Calls Try.prog 46 #[.slice (some ⟨g, 0, none⟩) n cap, .int .i64 a, .int .i64 m, .int .i64 b, cmpF B] w (SPost w g n B fun d' => Same a b d d' ∧ Srt a b d') := by
  have l1 : (n : Int) ≤ 1000000 := by omega
  have l2 : (b : Int) ≤ (n : Int) := by omega
  have l3 : (a : Int) < (m : Int) := by omega
  have l4 : (m : Int) < (b : Int) := by omega
  have hma : ¬ (m : Int) - (a : Int) = 1 := by omega
  have hma2 : ((m : Int) - (a : Int) == 1) = false := by simp only [beq_eq_false_iff_ne, ne_eq]; exact hma
  have hbm : ¬ (b : Int) - (m : Int) = 1 := by omega
  have hbm2 : ((b : Int) - (m : Int) == 1) = false := by simp only [beq_eq_false_iff_ne, ne_eq]; exact hbm
  have emid : ((a : Int) + (b : Int)) / 2 = (mid : Int) := by omega
  have m3 : a < mid := by omega
  have m4 : mid < b := by omega
  have m5 : (0 : Int) ≤ (a : Int) + (b : Int) := by omega
  have m6 : (a : Int) + (b : Int) ≤ 2000000 := by omega
  obtain ⟨N, eN⟩ : ∃ N : Nat, (mid : Int) + (m : Int) = (N : Int) := ⟨mid + m, by omega⟩
  have hN : N = mid + m := by omega
  have hgt : ¬ (m : Int) > (mid : Int) := by omega
  obtain ⟨s0, hs0⟩ : ∃ s0 : Nat, s0 = a := ⟨_, rfl⟩
  obtain ⟨r0, er0⟩ : ∃ r0 : Nat, r0 = m := ⟨_, rfl⟩
  obtain ⟨P, eP⟩ : ∃ q : Nat, (N : Int) - 1 = (q : Int) := ⟨N - 1, by omega⟩
  have hP : P = N - 1 := by omega
  have hlo : a ≤ s0 := by omega
  have hr0a : r0 ≤ m := by omega
  have hr0b : r0 ≤ mid := by omega
  have hidx : ∀ c, s0 ≤ c → c < r0 → m ≤ P - c ∧ P - c < b ∧ c ≤ P := by intro c h1 h2; omega
  have hs0e : N - s0 ≤ b := by omega
  unfold cmpF
  have H0 := Lib.hid h
  have hrot : ∀ (w' : World) (x y z : Nat), AtS w' w' g n B d → x < y → y < z → z ≤ n → Calls Try.prog 47 #[.slice (some ⟨g, 0, none⟩) n cap, .int .i64 x, .int .i64 y, .int .i64 z, .func (.func 33) #[] #[.pointer (some ⟨B, 0, none⟩)]] w' (SPost w' g n B fun d' => d' = rotF d x y z) := fun w' x y z hA h1 h2 h3 => rot_any cap x y z hA h1 h2 h3 hn
  have HMID := Lib.hid (And.intro hmid hN)
  have Hs1 := Lib.hid hs1
  clear hs1
  have Hs2 := Lib.hid hs2
  clear hs2
  have H1 := Lib.hid h1
  clear h1
  have H2 := Lib.hid h2
  clear h2
  have Hs0 := Lib.hid hs0
  clear hs0
  have Er0 := Lib.hid er0
  clear er0
  have HIH := Lib.hid hIH
  clear hIH
  have Hrot := Lib.hid hrot
  clear hrot
  have HP := Lib.hid hP
  clear hP
  have Hidx := Lib.hid hidx
  clear hidx
  have Hs0e := Lib.hid hs0e
  clear hs0e
  clear h hmid hN
  go_enter Try.func46, Try.ntmps46
  go_wp2
  go_loopw [20, 21] (fun vi vj wr => ∃ (i j : Nat), vi = .int .i64 i ∧ vj = .int .i64 j ∧ s0 ≤ i ∧ i ≤ j ∧ j ≤ r0 ∧ Hid (AtS w wr g n B d ∧ (i = s0 ∨ (d (i - 1)).1 ≤ (d (P - (i - 1))).1) ∧ (j = r0 ∨ (d (P - j)).1 < (d j).1))) (fun vi vj _ => (intOf vj).toNat - (intOf vi).toNat)
  case atStart => exact ⟨a, m, rfl, rfl, by rw [Hs0.out]; exact Nat.le_refl _, by omega, by rw [Er0.out]; exact Nat.le_refl _, Lib.hid ⟨H0.out, .inl Hs0.out.symm, .inl Er0.out.symm⟩⟩
  case round =>
    clear H0
    obtain ⟨i, j, rfl, rfl, hi, hij, hj, HI⟩ := hrel
    by_cases hlt : i < j
    · have hlt' : (i : Int) < (j : Int) := by omega
      obtain ⟨q, eq⟩ : ∃ q : Nat, ((i : Int) + (j : Int)) / 2 = (q : Int) := ⟨(i + j) / 2, by omega⟩
      have q0 : i ≤ q := by omega
      have q1 : q < j := by omega
      have q2 : (0 : Int) ≤ (q : Int) := by omega
      have q3 : (q : Int) < (n : Int) := by omega
      have q4 : (0 : Int) ≤ (i : Int) + (j : Int) := by omega
      have q5 : (i : Int) + (j : Int) ≤ 2000000 := by omega
      have hix := Hidx.out q (by omega) (by omega)
      obtain ⟨t, et⟩ : ∃ t : Nat, (P : Int) - (q : Int) = (t : Int) := ⟨P - q, by omega⟩
      have et2 : t = P - q := by omega
      have t0 : (0 : Int) ≤ (t : Int) := by omega
      have t1 : (t : Int) < (n : Int) := by omega
      have t2 : t < n := by omega
      have Et2 := Lib.hid et2
      clear et2 hix
      have r1 := HI.out.1.row.cell (j := t) (by omega)
      have r2 := HI.out.1.row.cell (j := q) (by omega)
      obtain ⟨x, hx⟩ : ∃ x, x = d t := ⟨_, rfl⟩
      obtain ⟨y, hy⟩ : ∃ y, y = d q := ⟨_, rfl⟩
      rw [← hx] at r1
      rw [← hy] at r2
      have hgl := HI.out.1.row.lt
      have hS0 : (fun W => Below wr.heap.size wr W) wr.drew := Below.drew (Below.refl _ _)
      have hSb : ∀ W W', (fun W => Below wr.heap.size wr W) W → Below W.heap.size W W' → (fun W => Below wr.heap.size wr W) W' := fun W W' h hb => Below.trans h (hb.mono (Below.size h))
      have hkey : ∀ z : Cls (fun W => Below wr.heap.size wr W), HasKey z.w B := fun z => HI.out.1.key.below z.h
      have c1 : ∀ z : Cls (fun W => Below wr.heap.size wr W), z.w.cell? ⟨g, t * 2, none⟩ = some (.int .u64 (x.1 : Int)) := fun z => (z.h.cell (p := ⟨g, t * 2, none⟩) hgl).trans r1.1
      have c2 : ∀ z : Cls (fun W => Below wr.heap.size wr W), z.w.cell? ⟨g, t * 2 + 1, none⟩ = some (.int .u64 (x.2 : Int)) := fun z => (z.h.cell (p := ⟨g, t * 2 + 1, none⟩) hgl).trans r1.2
      have c3 : ∀ z : Cls (fun W => Below wr.heap.size wr W), z.w.cell? ⟨g, q * 2, none⟩ = some (.int .u64 (y.1 : Int)) := fun z => (z.h.cell (p := ⟨g, q * 2, none⟩) hgl).trans r2.1
      have c4 : ∀ z : Cls (fun W => Below wr.heap.size wr W), z.w.cell? ⟨g, q * 2 + 1, none⟩ = some (.int .u64 (y.2 : Int)) := fun z => (z.h.cell (p := ⟨g, q * 2 + 1, none⟩) hgl).trans r2.2
      have ne : Nonempty (Cls (fun W => Below wr.heap.size wr W)) := ⟨⟨_, hS0⟩⟩
      have hcl := cmpN_lt x.1 y.1
      obtain ⟨c, hc⟩ : ∃ c, c = cmpN x.1 y.1 := ⟨_, rfl⟩
      have hca : ∀ z : Cls (fun W => Below wr.heap.size wr W), Calls Try.prog 33 #[spV x, spV y, .pointer (some ⟨B, 0, none⟩)] z.w fun e w' => e = .returned (.int .i64 c) ∧ Below z.w.heap.size z.w w' := fun z => by
        rw [hc]
        exact cmp_any _ B x y (hkey z)
      rw [← hc] at hcl
      have Hx := Lib.hid hx
      clear hx
      have Hy := Lib.hid hy
      clear hy
      have Hgl := Lib.hid hgl
      clear hgl
      have HS0 := Lib.hid hS0
      clear hS0
      have HSb := Lib.hid hSb
      clear hSb
      have Hkey := Lib.hid hkey
      clear hkey
      have Hcl := Lib.hid hcl
      clear hcl
      have Hca := Lib.hid hca
      clear hca
      have Hc := Lib.hid hc
      clear hc
      clear r1 r2
      go_upto_region 35 with fail
      refine wp_region_class (fun W => Below wr.heap.size wr W) (by kernel_rfl) (by kernel_rfl) HS0.out ?_
      repeat (go_big_quiet_step (first | (go_at_call 33; exact cls_call HSb.out _ (Hca.out _))))
      refine wpQuiet_nil ?_
      rintro W2 hW2
      have hA := HI.out.1.below (cls_out hW2)
      clear hW2 c1 c2 c3 c4 ne
      have HA := Lib.hid hA
      clear hA
      by_cases hlt2 : x.1 < y.1
      · have hcz : c < 0 := Hcl.out.2 hlt2
        go_wp2
        all_goals first | (exfalso; rename_i hbad; rw [decide_eq_true hcz] at hbad; cases hbad; done) | skip
        go_roundw
        case rel => exact ⟨i, q, rfl, rfl, hi, q0, by omega, Lib.hid ⟨HA.out, HI.out.2.1, .inr (by rw [← Et2.out, ← Hx.out, ← Hy.out]; exact hlt2)⟩⟩
        case measure => simp [intOf]; omega
      · have hcz : ¬ c < 0 := fun e => hlt2 (Hcl.out.1 e)
        go_wp2
        all_goals first | (exfalso; rename_i hbad; rw [decide_eq_false hcz] at hbad; cases hbad; done) | skip
        go_roundw
        case rel => exact ⟨q + 1, j, by go_num, rfl, by omega, by omega, hj, Lib.hid ⟨HA.out, .inr (by rw [show q + 1 - 1 = q by omega, ← Et2.out, ← Hx.out, ← Hy.out]; omega), HI.out.2.2⟩⟩
        case measure => simp [intOf]; omega
    · obtain rfl : i = j := by omega
      have hlt' : ¬ (i : Int) < (i : Int) := by omega
      obtain ⟨hmid, hN⟩ := HMID.out
      obtain ⟨e, ee⟩ : ∃ e : Nat, (N : Int) - (i : Int) = (e : Int) := ⟨N - i, by omega⟩
      have he : e = mid + m - i := by omega
      have he1 : e ≤ b := by have := Hs0e.out; omega
      have hme : m ≤ e := by omega
      have hee : mid ≤ e := by omega
      have hP2 := HP.out
      have hh := halves (d := d) (a := a) (m := m) (b := b) (mid := mid) (s := i) (e := e) (by omega) (by omega) (by omega) he he1 hme Hs1.out Hs2.out
        (fun q1 q2 => by
          rcases HI.out.2.1 with q3 | q3
          · exfalso
            have := Hs0.out
            omega
          · rw [show P - (i - 1) = e by omega] at q3
            exact q3)
        (fun q1 q2 => by
          rcases HI.out.2.2 with q3 | q3
          · exfalso
            have := Er0.out
            omega
          · rw [show P - i = e - 1 by omega] at q3
            exact q3)
      obtain ⟨D1, hD1⟩ : ∃ D1, D1 = rotF d i m e := ⟨_, rfl⟩
      rw [← hD1] at hh
      have hsm1 : Same a b d D1 := by rw [hD1]; exact (rotF_same d (by omega) hme).mono (by omega) he1
      have Hh := Lib.hid (And.intro hsm1 hh)
      have HEE := Lib.hid (And.intro he (And.intro he1 (And.intro hme hee)))
      have hA0 := HI.out.1
      have hrot0 : (¬ (i < m ∧ m < e)) → D1 = d := fun h => by rw [hD1]; exact rotF_none d (by omega) (by omega) hme
      have cR : i < m ∧ m < e → Calls Try.prog 47 #[.slice (some ⟨g, 0, none⟩) n cap, .int .i64 i, .int .i64 m, .int .i64 e, .func (.func 33) #[] #[.pointer (some ⟨B, 0, none⟩)]] wr (fun e w' => e = .returned (.tuple #[]) ∧ AtS w w' g n B D1) := fun h => (Hrot.out wr i m e (AtS.start hA0.row hA0.key hA0.ne) h.1 h.2 (by omega)).mono fun e' w' ⟨h1, d', h2, h3⟩ => ⟨h1, hA0.trans (by rw [hD1, ← h3]; exact h2)⟩
      have HA0 := Lib.hid hA0
      have CR := Lib.hid cR
      clear cR
      have Hrot0 := Lib.hid hrot0
      clear hrot0
      clear hsm1 hh hA0 hD1 he he1 hme hee hP2 HI hmid hN
      obtain ⟨wc0, hwc0⟩ : ∃ W, W = wr := ⟨_, rfl⟩
      rw [← hwc0] at HA0 CR ⊢
      clear hwc0
      go_upto_region 39 with fail
      go_cut [185] from 178 (fun v wx => v = .bool (decide (i < m ∧ m < e)) ∧ wx = wc0)
      case first =>
        by_cases k1 : i < m
        · have k1z : (i : Int) < (m : Int) := by omega
          by_cases k2 : m < e
          · have k2z : (m : Int) < (e : Int) := by omega
            have k3 : decide (i < m ∧ m < e) = true := decide_eq_true ⟨k1, k2⟩
            go_wp2
            go_meet
            case rel => exact ⟨by rw [k3], rfl⟩
          · have k2z : ¬ (m : Int) < (e : Int) := by omega
            have k3 : decide (i < m ∧ m < e) = false := decide_eq_false (fun h => k2 h.2)
            go_wp2
            go_meet
            case rel => exact ⟨by rw [k3], rfl⟩
        · have k1z : ¬ (i : Int) < (m : Int) := by omega
          have k3 : decide (i < m ∧ m < e) = false := decide_eq_false (fun h => k1 h.1)
          go_wp2
          go_meet
          case rel => exact ⟨by rw [k3], rfl⟩
      case rest =>
        obtain ⟨rfl, hwx⟩ := hcut
        rw [hwx]
        clear hwx
        by_cases hR : i < m ∧ m < e
        · have kz : decide (i < m ∧ m < e) = true := decide_eq_true hR
          rw [kz]
          go_upto_region 41 with (go_at_call 47; with_reducible refine (CR.out hR).mono ?_; rintro e' wc1 ⟨rfl, hA1⟩; have HA1 := Lib.hid hA1; clear hA1)
          clear CR Hrot0 HA0
          have hA1 := HA1.out
          obtain ⟨hsm1, g1, g2, g3, g4, g5⟩ := Hh.out
          obtain ⟨he, he1, hme, hee⟩ := HEE.out
          have cL : a < i ∧ i < mid → Calls Try.prog 46 #[.slice (some ⟨g, 0, none⟩) n cap, .int .i64 a, .int .i64 i, .int .i64 mid, .func (.func 33) #[] #[.pointer (some ⟨B, 0, none⟩)]] wc1 (fun e' w' => e' = .returned (.tuple #[]) ∧ ∃ D2, AtS w w' g n B D2 ∧ Same a mid D1 D2 ∧ Srt a mid D2) := fun hh => (HIH.out a i mid D1 wc1 (by omega) (AtS.start hA1.row hA1.key hA1.ne) hh.1 hh.2 (by omega) g1 g2).mono fun e' w' ⟨h1, D2, h2, h3, h4⟩ => ⟨h1, D2, hA1.trans h2, h3, h4⟩
          have hnl : ¬ (a < i ∧ i < mid) → Srt a mid D1 := fun hh => by
            by_cases h1 : a < i
            · have h2 : i = mid := by omega
              rw [← h2]
              exact g1
            · have h2 : i = a := by omega
              rw [← h2]
              exact g2
          have CL := Lib.hid cL
          clear cL
          have Hnl := Lib.hid hnl
          clear hnl
          clear hA1 hsm1 g1 g2 g3 g4 g5 he he1 hme hee
          go_cut [199] from 192 (fun v wx => v = .bool (decide (a < i ∧ i < mid)) ∧ wx = wc1)
          case first =>
            by_cases k1 : a < i
            · have k1z : (a : Int) < (i : Int) := by omega
              by_cases k2 : i < mid
              · have k2z : (i : Int) < (mid : Int) := by omega
                have k3 : decide (a < i ∧ i < mid) = true := decide_eq_true ⟨k1, k2⟩
                go_wp2
                go_meet
                case rel => exact ⟨by rw [k3], rfl⟩
              · have k2z : ¬ (i : Int) < (mid : Int) := by omega
                have k3 : decide (a < i ∧ i < mid) = false := decide_eq_false (fun h => k2 h.2)
                go_wp2
                go_meet
                case rel => exact ⟨by rw [k3], rfl⟩
            · have k1z : ¬ (a : Int) < (i : Int) := by omega
              have k3 : decide (a < i ∧ i < mid) = false := decide_eq_false (fun h => k1 h.1)
              go_wp2
              go_meet
              case rel => exact ⟨by rw [k3], rfl⟩
          case rest =>
            obtain ⟨rfl, hwx⟩ := hcut
            rw [hwx]
            clear hwx
            by_cases hL : a < i ∧ i < mid
            · have kz : decide (a < i ∧ i < mid) = true := decide_eq_true hL
              rw [kz]
              go_upto_region 43 with (go_at_call 46; with_reducible refine (CL.out hL).mono ?_; rintro e' wc2 ⟨rfl, D2, hA2, hD2⟩; have HA2 := Lib.hid hA2; have HD2 := Lib.hid hD2; clear hA2 hD2)
              clear CL Hnl
              have hA2 := HA2.out
              obtain ⟨hD2s, hD2o⟩ := HD2.out
              obtain ⟨hsm1, g1, g2, g3, g4, g5⟩ := Hh.out
              obtain ⟨he, he1, hme, hee⟩ := HEE.out
              have s3 : Srt mid e D2 := g3.congr fun t h1 h2 => hD2s.out t (by omega)
              have s4 : Srt e b D2 := g4.congr fun t h1 h2 => hD2s.out t (by omega)
              have cH : mid < e ∧ e < b → Calls Try.prog 46 #[.slice (some ⟨g, 0, none⟩) n cap, .int .i64 mid, .int .i64 e, .int .i64 b, .func (.func 33) #[] #[.pointer (some ⟨B, 0, none⟩)]] wc2 (fun e' w' => e' = .returned (.tuple #[]) ∧ ∃ D3, AtS w w' g n B D3 ∧ Same a b d D3 ∧ Srt a b D3) := fun hh => (HIH.out mid e b D2 wc2 (by omega) (AtS.start hA2.row hA2.key hA2.ne) hh.1 hh.2 hb s3 s4).mono fun e' w' ⟨h1, D3, h2, h3, h4⟩ => ⟨h1, D3, hA2.trans h2, merge_end (by omega) (by omega) hsm1 g5 hD2s hD2o h3 h4⟩
              have hno : ¬ (mid < e ∧ e < b) → Same a b d D2 ∧ Srt a b D2 := fun hh => by
                refine merge_end (by omega) (by omega) hsm1 g5 hD2s hD2o (Same.refl _ _ _) ?_
                by_cases h1 : mid < e
                · have h2 : e = b := by omega
                  rw [← h2]
                  exact s3
                · have h2 : e = mid := by omega
                  rw [← h2]
                  exact s4
              have CH := Lib.hid cH
              clear cH
              have Hno := Lib.hid hno
              clear hno
              clear hA2 hD2s hD2o hsm1 g1 g2 g3 g4 g5 he he1 hme hee s3 s4
              go_cut [213] from 206 (fun v wx => v = .bool (decide (mid < e ∧ e < b)) ∧ wx = wc2)
              case first =>
                by_cases k1 : mid < e
                · have k1z : (mid : Int) < (e : Int) := by omega
                  by_cases k2 : e < b
                  · have k2z : (e : Int) < (b : Int) := by omega
                    have k3 : decide (mid < e ∧ e < b) = true := decide_eq_true ⟨k1, k2⟩
                    go_wp2
                    go_meet
                    case rel => exact ⟨by rw [k3], rfl⟩
                  · have k2z : ¬ (e : Int) < (b : Int) := by omega
                    have k3 : decide (mid < e ∧ e < b) = false := decide_eq_false (fun h => k2 h.2)
                    go_wp2
                    go_meet
                    case rel => exact ⟨by rw [k3], rfl⟩
                · have k1z : ¬ (mid : Int) < (e : Int) := by omega
                  have k3 : decide (mid < e ∧ e < b) = false := decide_eq_false (fun h => k1 h.1)
                  go_wp2
                  go_meet
                  case rel => exact ⟨by rw [k3], rfl⟩
              case rest =>
                obtain ⟨rfl, hwx⟩ := hcut
                rw [hwx]
                clear hwx
                by_cases hH : mid < e ∧ e < b
                · have kz : decide (mid < e ∧ e < b) = true := decide_eq_true hH
                  rw [kz]
                  go_wp2_with (go_at_call 46; with_reducible refine (CH.out hH).mono ?_; rintro e' w7 ⟨rfl, D3, hA3, hD3⟩; have HF := Lib.hid (And.intro hA3 hD3); clear hA3 hD3)
                  go_end0
                  exact ⟨rfl, D3, HF.out.1, HF.out.2⟩
                · have kz : decide (mid < e ∧ e < b) = false := decide_eq_false hH
                  rw [kz]
                  go_wp2
                  go_end0
                  exact ⟨rfl, D2, HA2.out, Hno.out hH⟩
            · have kz : decide (a < i ∧ i < mid) = false := decide_eq_false hL
              rw [kz]
              obtain ⟨D2, hD2e⟩ : ∃ D2, D2 = D1 := ⟨_, rfl⟩
              obtain ⟨wc2, hwc2⟩ : ∃ W, W = wc1 := ⟨_, rfl⟩
              have HA2 : Hid (AtS w wc2 g n B D2) := Lib.hid (by rw [hD2e, hwc2]; exact HA1.out)
              have HD2 : Hid (Same a mid D1 D2 ∧ Srt a mid D2) := Lib.hid (by rw [hD2e]; exact ⟨Same.refl _ _ _, Hnl.out hL⟩)
              rw [← hwc2]
              clear hD2e hwc2 CL Hnl
              go_upto_region 43 with fail
              have hA2 := HA2.out
              obtain ⟨hD2s, hD2o⟩ := HD2.out
              obtain ⟨hsm1, g1, g2, g3, g4, g5⟩ := Hh.out
              obtain ⟨he, he1, hme, hee⟩ := HEE.out
              have s3 : Srt mid e D2 := g3.congr fun t h1 h2 => hD2s.out t (by omega)
              have s4 : Srt e b D2 := g4.congr fun t h1 h2 => hD2s.out t (by omega)
              have cH : mid < e ∧ e < b → Calls Try.prog 46 #[.slice (some ⟨g, 0, none⟩) n cap, .int .i64 mid, .int .i64 e, .int .i64 b, .func (.func 33) #[] #[.pointer (some ⟨B, 0, none⟩)]] wc2 (fun e' w' => e' = .returned (.tuple #[]) ∧ ∃ D3, AtS w w' g n B D3 ∧ Same a b d D3 ∧ Srt a b D3) := fun hh => (HIH.out mid e b D2 wc2 (by omega) (AtS.start hA2.row hA2.key hA2.ne) hh.1 hh.2 hb s3 s4).mono fun e' w' ⟨h1, D3, h2, h3, h4⟩ => ⟨h1, D3, hA2.trans h2, merge_end (by omega) (by omega) hsm1 g5 hD2s hD2o h3 h4⟩
              have hno : ¬ (mid < e ∧ e < b) → Same a b d D2 ∧ Srt a b D2 := fun hh => by
                refine merge_end (by omega) (by omega) hsm1 g5 hD2s hD2o (Same.refl _ _ _) ?_
                by_cases h1 : mid < e
                · have h2 : e = b := by omega
                  rw [← h2]
                  exact s3
                · have h2 : e = mid := by omega
                  rw [← h2]
                  exact s4
              have CH := Lib.hid cH
              clear cH
              have Hno := Lib.hid hno
              clear hno
              clear hA2 hD2s hD2o hsm1 g1 g2 g3 g4 g5 he he1 hme hee s3 s4
              go_cut [213] from 206 (fun v wx => v = .bool (decide (mid < e ∧ e < b)) ∧ wx = wc2)
              case first =>
                by_cases k1 : mid < e
                · have k1z : (mid : Int) < (e : Int) := by omega
                  by_cases k2 : e < b
                  · have k2z : (e : Int) < (b : Int) := by omega
                    have k3 : decide (mid < e ∧ e < b) = true := decide_eq_true ⟨k1, k2⟩
                    go_wp2
                    go_meet
                    case rel => exact ⟨by rw [k3], rfl⟩
                  · have k2z : ¬ (e : Int) < (b : Int) := by omega
                    have k3 : decide (mid < e ∧ e < b) = false := decide_eq_false (fun h => k2 h.2)
                    go_wp2
                    go_meet
                    case rel => exact ⟨by rw [k3], rfl⟩
                · have k1z : ¬ (mid : Int) < (e : Int) := by omega
                  have k3 : decide (mid < e ∧ e < b) = false := decide_eq_false (fun h => k1 h.1)
                  go_wp2
                  go_meet
                  case rel => exact ⟨by rw [k3], rfl⟩
              case rest =>
                obtain ⟨rfl, hwx⟩ := hcut
                rw [hwx]
                clear hwx
                by_cases hH : mid < e ∧ e < b
                · have kz : decide (mid < e ∧ e < b) = true := decide_eq_true hH
                  rw [kz]
                  go_wp2_with (go_at_call 46; with_reducible refine (CH.out hH).mono ?_; rintro e' w7 ⟨rfl, D3, hA3, hD3⟩; have HF := Lib.hid (And.intro hA3 hD3); clear hA3 hD3)
                  go_end0
                  exact ⟨rfl, D3, HF.out.1, HF.out.2⟩
                · have kz : decide (mid < e ∧ e < b) = false := decide_eq_false hH
                  rw [kz]
                  go_wp2
                  go_end0
                  exact ⟨rfl, D2, HA2.out, Hno.out hH⟩
        · have kz : decide (i < m ∧ m < e) = false := decide_eq_false hR
          rw [kz]
          obtain ⟨wc1, hwc1⟩ : ∃ W, W = wc0 := ⟨_, rfl⟩
          have HA1 : Hid (AtS w wc1 g n B D1) := Lib.hid (by rw [Hrot0.out hR, hwc1]; exact HA0.out)
          rw [← hwc1]
          clear hwc1 CR Hrot0 HA0
          go_upto_region 41 with fail
          have hA1 := HA1.out
          obtain ⟨hsm1, g1, g2, g3, g4, g5⟩ := Hh.out
          obtain ⟨he, he1, hme, hee⟩ := HEE.out
          have cL : a < i ∧ i < mid → Calls Try.prog 46 #[.slice (some ⟨g, 0, none⟩) n cap, .int .i64 a, .int .i64 i, .int .i64 mid, .func (.func 33) #[] #[.pointer (some ⟨B, 0, none⟩)]] wc1 (fun e' w' => e' = .returned (.tuple #[]) ∧ ∃ D2, AtS w w' g n B D2 ∧ Same a mid D1 D2 ∧ Srt a mid D2) := fun hh => (HIH.out a i mid D1 wc1 (by omega) (AtS.start hA1.row hA1.key hA1.ne) hh.1 hh.2 (by omega) g1 g2).mono fun e' w' ⟨h1, D2, h2, h3, h4⟩ => ⟨h1, D2, hA1.trans h2, h3, h4⟩
          have hnl : ¬ (a < i ∧ i < mid) → Srt a mid D1 := fun hh => by
            by_cases h1 : a < i
            · have h2 : i = mid := by omega
              rw [← h2]
              exact g1
            · have h2 : i = a := by omega
              rw [← h2]
              exact g2
          have CL := Lib.hid cL
          clear cL
          have Hnl := Lib.hid hnl
          clear hnl
          clear hA1 hsm1 g1 g2 g3 g4 g5 he he1 hme hee
          go_cut [199] from 192 (fun v wx => v = .bool (decide (a < i ∧ i < mid)) ∧ wx = wc1)
          case first =>
            by_cases k1 : a < i
            · have k1z : (a : Int) < (i : Int) := by omega
              by_cases k2 : i < mid
              · have k2z : (i : Int) < (mid : Int) := by omega
                have k3 : decide (a < i ∧ i < mid) = true := decide_eq_true ⟨k1, k2⟩
                go_wp2
                go_meet
                case rel => exact ⟨by rw [k3], rfl⟩
              · have k2z : ¬ (i : Int) < (mid : Int) := by omega
                have k3 : decide (a < i ∧ i < mid) = false := decide_eq_false (fun h => k2 h.2)
                go_wp2
                go_meet
                case rel => exact ⟨by rw [k3], rfl⟩
            · have k1z : ¬ (a : Int) < (i : Int) := by omega
              have k3 : decide (a < i ∧ i < mid) = false := decide_eq_false (fun h => k1 h.1)
              go_wp2
              go_meet
              case rel => exact ⟨by rw [k3], rfl⟩
          case rest =>
            obtain ⟨rfl, hwx⟩ := hcut
            rw [hwx]
            clear hwx
            by_cases hL : a < i ∧ i < mid
            · have kz : decide (a < i ∧ i < mid) = true := decide_eq_true hL
              rw [kz]
              go_upto_region 43 with (go_at_call 46; with_reducible refine (CL.out hL).mono ?_; rintro e' wc2 ⟨rfl, D2, hA2, hD2⟩; have HA2 := Lib.hid hA2; have HD2 := Lib.hid hD2; clear hA2 hD2)
              clear CL Hnl
              have hA2 := HA2.out
              obtain ⟨hD2s, hD2o⟩ := HD2.out
              obtain ⟨hsm1, g1, g2, g3, g4, g5⟩ := Hh.out
              obtain ⟨he, he1, hme, hee⟩ := HEE.out
              have s3 : Srt mid e D2 := g3.congr fun t h1 h2 => hD2s.out t (by omega)
              have s4 : Srt e b D2 := g4.congr fun t h1 h2 => hD2s.out t (by omega)
              have cH : mid < e ∧ e < b → Calls Try.prog 46 #[.slice (some ⟨g, 0, none⟩) n cap, .int .i64 mid, .int .i64 e, .int .i64 b, .func (.func 33) #[] #[.pointer (some ⟨B, 0, none⟩)]] wc2 (fun e' w' => e' = .returned (.tuple #[]) ∧ ∃ D3, AtS w w' g n B D3 ∧ Same a b d D3 ∧ Srt a b D3) := fun hh => (HIH.out mid e b D2 wc2 (by omega) (AtS.start hA2.row hA2.key hA2.ne) hh.1 hh.2 hb s3 s4).mono fun e' w' ⟨h1, D3, h2, h3, h4⟩ => ⟨h1, D3, hA2.trans h2, merge_end (by omega) (by omega) hsm1 g5 hD2s hD2o h3 h4⟩
              have hno : ¬ (mid < e ∧ e < b) → Same a b d D2 ∧ Srt a b D2 := fun hh => by
                refine merge_end (by omega) (by omega) hsm1 g5 hD2s hD2o (Same.refl _ _ _) ?_
                by_cases h1 : mid < e
                · have h2 : e = b := by omega
                  rw [← h2]
                  exact s3
                · have h2 : e = mid := by omega
                  rw [← h2]
                  exact s4
              have CH := Lib.hid cH
              clear cH
              have Hno := Lib.hid hno
              clear hno
              clear hA2 hD2s hD2o hsm1 g1 g2 g3 g4 g5 he he1 hme hee s3 s4
              go_cut [213] from 206 (fun v wx => v = .bool (decide (mid < e ∧ e < b)) ∧ wx = wc2)
              case first =>
                by_cases k1 : mid < e
                · have k1z : (mid : Int) < (e : Int) := by omega
                  by_cases k2 : e < b
                  · have k2z : (e : Int) < (b : Int) := by omega
                    have k3 : decide (mid < e ∧ e < b) = true := decide_eq_true ⟨k1, k2⟩
                    go_wp2
                    go_meet
                    case rel => exact ⟨by rw [k3], rfl⟩
                  · have k2z : ¬ (e : Int) < (b : Int) := by omega
                    have k3 : decide (mid < e ∧ e < b) = false := decide_eq_false (fun h => k2 h.2)
                    go_wp2
                    go_meet
                    case rel => exact ⟨by rw [k3], rfl⟩
                · have k1z : ¬ (mid : Int) < (e : Int) := by omega
                  have k3 : decide (mid < e ∧ e < b) = false := decide_eq_false (fun h => k1 h.1)
                  go_wp2
                  go_meet
                  case rel => exact ⟨by rw [k3], rfl⟩
              case rest =>
                obtain ⟨rfl, hwx⟩ := hcut
                rw [hwx]
                clear hwx
                by_cases hH : mid < e ∧ e < b
                · have kz : decide (mid < e ∧ e < b) = true := decide_eq_true hH
                  rw [kz]
                  go_wp2_with (go_at_call 46; with_reducible refine (CH.out hH).mono ?_; rintro e' w7 ⟨rfl, D3, hA3, hD3⟩; have HF := Lib.hid (And.intro hA3 hD3); clear hA3 hD3)
                  go_end0
                  exact ⟨rfl, D3, HF.out.1, HF.out.2⟩
                · have kz : decide (mid < e ∧ e < b) = false := decide_eq_false hH
                  rw [kz]
                  go_wp2
                  go_end0
                  exact ⟨rfl, D2, HA2.out, Hno.out hH⟩
            · have kz : decide (a < i ∧ i < mid) = false := decide_eq_false hL
              rw [kz]
              obtain ⟨D2, hD2e⟩ : ∃ D2, D2 = D1 := ⟨_, rfl⟩
              obtain ⟨wc2, hwc2⟩ : ∃ W, W = wc1 := ⟨_, rfl⟩
              have HA2 : Hid (AtS w wc2 g n B D2) := Lib.hid (by rw [hD2e, hwc2]; exact HA1.out)
              have HD2 : Hid (Same a mid D1 D2 ∧ Srt a mid D2) := Lib.hid (by rw [hD2e]; exact ⟨Same.refl _ _ _, Hnl.out hL⟩)
              rw [← hwc2]
              clear hD2e hwc2 CL Hnl
              go_upto_region 43 with fail
              have hA2 := HA2.out
              obtain ⟨hD2s, hD2o⟩ := HD2.out
              obtain ⟨hsm1, g1, g2, g3, g4, g5⟩ := Hh.out
              obtain ⟨he, he1, hme, hee⟩ := HEE.out
              have s3 : Srt mid e D2 := g3.congr fun t h1 h2 => hD2s.out t (by omega)
              have s4 : Srt e b D2 := g4.congr fun t h1 h2 => hD2s.out t (by omega)
              have cH : mid < e ∧ e < b → Calls Try.prog 46 #[.slice (some ⟨g, 0, none⟩) n cap, .int .i64 mid, .int .i64 e, .int .i64 b, .func (.func 33) #[] #[.pointer (some ⟨B, 0, none⟩)]] wc2 (fun e' w' => e' = .returned (.tuple #[]) ∧ ∃ D3, AtS w w' g n B D3 ∧ Same a b d D3 ∧ Srt a b D3) := fun hh => (HIH.out mid e b D2 wc2 (by omega) (AtS.start hA2.row hA2.key hA2.ne) hh.1 hh.2 hb s3 s4).mono fun e' w' ⟨h1, D3, h2, h3, h4⟩ => ⟨h1, D3, hA2.trans h2, merge_end (by omega) (by omega) hsm1 g5 hD2s hD2o h3 h4⟩
              have hno : ¬ (mid < e ∧ e < b) → Same a b d D2 ∧ Srt a b D2 := fun hh => by
                refine merge_end (by omega) (by omega) hsm1 g5 hD2s hD2o (Same.refl _ _ _) ?_
                by_cases h1 : mid < e
                · have h2 : e = b := by omega
                  rw [← h2]
                  exact s3
                · have h2 : e = mid := by omega
                  rw [← h2]
                  exact s4
              have CH := Lib.hid cH
              clear cH
              have Hno := Lib.hid hno
              clear hno
              clear hA2 hD2s hD2o hsm1 g1 g2 g3 g4 g5 he he1 hme hee s3 s4
              go_cut [213] from 206 (fun v wx => v = .bool (decide (mid < e ∧ e < b)) ∧ wx = wc2)
              case first =>
                by_cases k1 : mid < e
                · have k1z : (mid : Int) < (e : Int) := by omega
                  by_cases k2 : e < b
                  · have k2z : (e : Int) < (b : Int) := by omega
                    have k3 : decide (mid < e ∧ e < b) = true := decide_eq_true ⟨k1, k2⟩
                    go_wp2
                    go_meet
                    case rel => exact ⟨by rw [k3], rfl⟩
                  · have k2z : ¬ (e : Int) < (b : Int) := by omega
                    have k3 : decide (mid < e ∧ e < b) = false := decide_eq_false (fun h => k2 h.2)
                    go_wp2
                    go_meet
                    case rel => exact ⟨by rw [k3], rfl⟩
                · have k1z : ¬ (mid : Int) < (e : Int) := by omega
                  have k3 : decide (mid < e ∧ e < b) = false := decide_eq_false (fun h => k1 h.1)
                  go_wp2
                  go_meet
                  case rel => exact ⟨by rw [k3], rfl⟩
              case rest =>
                obtain ⟨rfl, hwx⟩ := hcut
                rw [hwx]
                clear hwx
                by_cases hH : mid < e ∧ e < b
                · have kz : decide (mid < e ∧ e < b) = true := decide_eq_true hH
                  rw [kz]
                  go_wp2_with (go_at_call 46; with_reducible refine (CH.out hH).mono ?_; rintro e' w7 ⟨rfl, D3, hA3, hD3⟩; have HF := Lib.hid (And.intro hA3 hD3); clear hA3 hD3)
                  go_end0
                  exact ⟨rfl, D3, HF.out.1, HF.out.2⟩
                · have kz : decide (mid < e ∧ e < b) = false := decide_eq_false hH
                  rw [kz]
                  go_wp2
                  go_end0
                  exact ⟨rfl, D2, HA2.out, Hno.out hH⟩
theorem merge_any (cap : Nat) (hn : n ≤ 1000000) : ∀ (k a m b : Nat) (d : Row) (w : World), b - a ≤ k → AtS w w g n B d → a < m → m < b → b ≤ n → Srt a m d → Srt m b d →
    Calls Try.prog 46 #[.slice (some ⟨g, 0, none⟩) n cap, .int .i64 a, .int .i64 m, .int .i64 b, cmpF B] w (SPost w g n B fun d' => Same a b d d' ∧ Srt a b d')
  | 0, a, m, b, d, w, hk, h, ham, hmb, hb, hs1, hs2 => by omega
  | k + 1, a, m, b, d, w, hk, h, ham, hmb, hb, hs1, hs2 => by
    by_cases h1 : m = a + 1
    · exact merge_one cap a m b h ham hmb hb hn hs1 hs2 h1
    · by_cases h2 : b = m + 1
      · exact merge_last cap a m b h ham hmb hb hn hs1 hs2 h1 h2
      · by_cases h3 : (a + b) / 2 < m
        · exact merge_genA cap a m b h ham hmb hb hn hs1 hs2 h1 h2 _ rfl h3 fun a' m' b' d' w' q1 q2 q3 q4 q5 q6 q7 => merge_any cap hn k a' m' b' d' w' (by omega) q2 q3 q4 q5 q6 q7
        · exact merge_genB cap a m b h ham hmb hb hn hs1 hs2 h1 h2 _ rfl (by omega) fun a' m' b' d' w' q1 q2 q3 q4 q5 q6 q7 => merge_any cap hn k a' m' b' d' w' (by omega) q2 q3 q4 q5 q6 q7
end
end Go.Proofs.Ytnnpahjopfkchaa
