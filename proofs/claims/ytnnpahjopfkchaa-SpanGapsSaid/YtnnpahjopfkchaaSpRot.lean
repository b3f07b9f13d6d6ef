/- slices.swapRangeCmpFunc, rotateCmpFunc at spans. -/
import Derived.Test.YtnnpahjopfkchaaSpIns
set_option linter.unusedVariables false
set_option linter.unusedSimpArgs false
namespace Go.Proofs.Ytnnpahjopfkchaa
open Go.RowKit Go.BigFrame

section
variable {w : World} {g n B : Nat} {d : Row}
set_option maxRecDepth 100000 in
set_option maxHeartbeats 4000000 in
theorem srange_any (cap a b c : Nat) (h : AtS w w g n B d) (hab : a + c ≤ b) (hb : b + c ≤ n) (hn : n ≤ 1000000) :
    Calls Try.prog 48 #[.slice (some ⟨g, 0, none⟩) n cap, .int .i64 a, .int .i64 b, .int .i64 c, cmpF B] w (SPost w g n B fun d' => d' = srF d a b c) := by
  have l1 : (n : Int) ≤ 1000000 := by omega
  have l2 : (b : Int) + (c : Int) ≤ (n : Int) := by omega
  have l3 : (a : Int) + (c : Int) ≤ (b : Int) := by omega
  unfold cmpF
  have H0 := Lib.hid h
  clear h
  go_enter Try.func48, Try.ntmps48
  go_wp2
  go_loopw [10] (fun vi wr => ∃ i : Nat, vi = .int .i64 i ∧ i ≤ c ∧ Hid (AtS w wr g n B (srF d a b i))) (fun vi _ => c - (intOf vi).toNat)
  case atStart => exact ⟨0, by first | rfl | go_num, Nat.zero_le _, Lib.hid (by rw [srF_zero]; exact H0.out)⟩
  case round =>
    clear H0
    obtain ⟨i, rfl, hic, HI⟩ := hrel
    by_cases hlt : i < c
    · have hlt' : (i : Int) < (c : Int) := by omega
      obtain ⟨p, ep⟩ : ∃ p : Nat, (a : Int) + (i : Int) = (p : Int) := ⟨a + i, by omega⟩
      obtain ⟨q, eq⟩ : ∃ q : Nat, (b : Int) + (i : Int) = (q : Int) := ⟨b + i, by omega⟩
      have ep2 : p = a + i := by omega
      have eq2 : q = b + i := by omega
      have p0 : (0 : Int) ≤ (p : Int) := by omega
      have p1 : (p : Int) < (n : Int) := by omega
      have q0 : (0 : Int) ≤ (q : Int) := by omega
      have q1 : (q : Int) < (n : Int) := by omega
      have r1 := HI.out.row.cell (j := p) (by omega)
      have r2 := HI.out.row.cell (j := q) (by omega)
      have hsw := HI.out.drew.swap (i := p) (j := q) (by omega) (by omega)
      have hst := srF_step d a b i (by omega)
      rw [← ep2, ← eq2] at hst
      rw [hst] at hsw
      have HS := Lib.hid hsw
      clear hsw hst
      generalize srF d a b i = dk at *
      generalize dk p = x at *
      generalize dk q = y at *
      obtain ⟨r1, r1'⟩ := r1
      obtain ⟨r2, r2'⟩ := r2
      have fr := HI.out.row.frozen
      have Ep2 := Lib.hid ep2
      clear ep2
      have Eq2 := Lib.hid eq2
      clear eq2
      clear HI
      go_upto_region 3 with fail
      go_region
      clear r1 r1' r2 r2' fr
      go_wp2
      go_roundw
      case rel => exact ⟨i + 1, by go_num, hlt, HS⟩
      case measure => simp [intOf]; omega
    · obtain rfl : i = c := by omega
      have hlt' : ¬ (i : Int) < (i : Int) := by omega
      go_wp2
      go_end0
      exact ⟨rfl, _, HI.out, rfl⟩
set_option maxRecDepth 100000 in
set_option maxHeartbeats 4000000 in
theorem rot_any (cap a m b : Nat) (h : AtS w w g n B d) (ham : a < m) (hmb : m < b) (hb : b ≤ n) (hn : n ≤ 1000000) :
    Calls Try.prog 47 #[.slice (some ⟨g, 0, none⟩) n cap, .int .i64 a, .int .i64 m, .int .i64 b, cmpF B] w (SPost w g n B fun d' => d' = rotF d a m b) := by
  have l1 : (n : Int) ≤ 1000000 := by omega
  have l2 : (b : Int) ≤ (n : Int) := by omega
  have l3 : (a : Int) < (m : Int) := by omega
  have l4 : (m : Int) < (b : Int) := by omega
  obtain ⟨D, hD⟩ : ∃ D, D = rotF d a m b := ⟨_, rfl⟩
  rw [← hD]
  have H0 := Lib.hid h
  have HD := Lib.hid hD
  clear h hD
  have hcf : cmpF B = .func (.func 33) #[] #[.pointer (some ⟨B, 0, none⟩)] := rfl
  have sr : ∀ (wr : World) (dk : Row) (x y z : Nat), AtS w wr g n B dk → x + z ≤ y → y + z ≤ n → Calls Try.prog 48 #[.slice (some ⟨g, 0, none⟩) n cap, .int .i64 x, .int .i64 y, .int .i64 z, .func (.func 33) #[] #[.pointer (some ⟨B, 0, none⟩)]] wr (fun e w' => e = .returned (.tuple #[]) ∧ AtS w w' g n B (srF dk x y z)) := fun wr dk x y z hA h1 h2 => by
    rw [← hcf]
    refine (srange_any cap x y z (AtS.start hA.row hA.key hA.ne) h1 h2 hn).mono ?_
    rintro e w' ⟨he, d', h3, rfl⟩
    exact ⟨he, hA.trans h3⟩
  rw [hcf]
  have SR := Lib.hid sr
  clear sr hcf
  go_enter Try.func47, Try.ntmps47
  go_wp2
  go_loopw [10, 11] (fun vi vj wr => ∃ (i j : Nat) (dk : Row), vi = .int .i64 i ∧ vj = .int .i64 j ∧ 0 < i ∧ 0 < j ∧ i ≤ m - a ∧ j ≤ b - m ∧ Hid (AtS w wr g n B dk ∧ rotF dk (m - i) m (m + j) = D)) (fun vi vj _ => (intOf vi).toNat + (intOf vj).toNat)
  case atStart => exact ⟨m - a, b - m, d, by congr 1; omega, by congr 1; omega, by omega, by omega, Nat.le_refl _, Nat.le_refl _, Lib.hid ⟨H0.out, by rw [HD.out, show m - (m - a) = a by omega, show m + (b - m) = b by omega]⟩⟩
  case round =>
    clear H0
    obtain ⟨i, j, dk, rfl, rfl, hi0, hj0, hi, hj, HI⟩ := hrel
    obtain ⟨mi, emi⟩ : ∃ q : Nat, (m : Int) - (i : Int) = (q : Int) := ⟨m - i, by omega⟩
    have emi2 : mi = m - i := by omega
    by_cases hne : i = j
    · subst hne
      have c1 := SR.out wr dk mi m i HI.out.1 (by omega) (by omega)
      have hfin := rotF_even dk (m := m) (i := i) (by omega)
      rw [HI.out.2, ← emi2] at hfin
      rw [hfin] at c1
      have Emi2 := Lib.hid emi2
      clear emi2
      have Hfin := Lib.hid hfin
      clear hfin
      go_wp2_with (go_at_call 48; with_reducible refine c1.mono ?_; rintro e w2 ⟨rfl, hA⟩; have HA := Lib.hid hA; clear hA)
      go_end0
      exact ⟨rfl, D, HA.out, rfl⟩
    · have hnz : ¬ (i : Int) = (j : Int) := by omega
      have hnb : ((i : Int) != (j : Int)) = true := by simp [hnz]
      by_cases hgt : j < i
      · have hgz : (i : Int) > (j : Int) := by omega
        have c1 := SR.out wr dk mi m j HI.out.1 (by omega) (by omega)
        have hst := rotF_left dk (m := m) (i := i) (j := j) (by omega) hgt hj0
        rw [HI.out.2, ← emi2] at hst
        have Emi2 := Lib.hid emi2
        clear emi2
        have Hst := Lib.hid hst
        clear hst
        clear HI
        go_wp2_with (go_at_call 48; with_reducible refine c1.mono ?_; rintro e w2 ⟨rfl, hA⟩; have HA := Lib.hid hA; clear hA)
        go_roundw
        case rel => exact ⟨i - j, j, _, by congr 1; omega, rfl, by omega, hj0, by omega, hj, Lib.hid ⟨HA.out, Hst.out⟩⟩
        case measure => simp [intOf]; omega
      · have hgz : ¬ (i : Int) > (j : Int) := by omega
        obtain ⟨mj, emj⟩ : ∃ q : Nat, (m : Int) + (j : Int) - (i : Int) = (q : Int) := ⟨m + j - i, by omega⟩
        have emj2 : mj = m + j - i := by omega
        have c1 := SR.out wr dk mi mj i HI.out.1 (by omega) (by omega)
        have hst := rotF_right dk (m := m) (i := i) (j := j) (by omega) (by omega) hi0
        rw [HI.out.2, ← emi2, ← emj2] at hst
        have Emi2 := Lib.hid emi2
        clear emi2
        have Hst := Lib.hid hst
        clear hst
        have Emj2 := Lib.hid emj2
        clear emj2
        clear HI
        go_wp2_with (go_at_call 48; with_reducible refine c1.mono ?_; rintro e w2 ⟨rfl, hA⟩; have HA := Lib.hid hA; clear hA)
        go_roundw
        case rel => exact ⟨i, j - i, _, rfl, by congr 1; omega, hi0, by omega, hi, by omega, Lib.hid ⟨HA.out, by rw [← Emi2.out]; exact Hst.out⟩⟩
        case measure => simp [intOf]; omega
end
end Go.Proofs.Ytnnpahjopfkchaa
