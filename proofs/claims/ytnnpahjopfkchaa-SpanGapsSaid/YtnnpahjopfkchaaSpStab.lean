/- slices.stableCmpFunc, SortStableFunc at spans: the row is in order. -/
import Derived.Test.YtnnpahjopfkchaaSpMerge
set_option linter.unusedVariables false
set_option linter.unusedSimpArgs false
namespace Go.Proofs.Ytnnpahjopfkchaa
open Go.RowKit Go.BigFrame

/-- the first q pairs of blocks are one each, the other blocks as they were -/
def Mg (z n q : Nat) (d : Row) : Prop := (∀ t, t < q → Srt (t * (2 * z)) ((t + 1) * (2 * z)) d) ∧ ∀ t, 2 * q ≤ t → Srt (t * z) (min ((t + 1) * z) n) d
section
variable {z n q A : Nat} {d d' : Row}
theorem Mg.start (h : Blocks z n d) : Mg z n 0 d := ⟨fun t ht => by omega, fun t _ => h t⟩
theorem mul2 (q z : Nat) : 2 * q * z = q * (2 * z) := by rw [Nat.mul_comm 2 q, Nat.mul_assoc]
theorem Mg.parts (h : Mg z n q d) (hA : A = q * (2 * z)) : (A + z ≤ n → Srt A (A + z) d) ∧ (A + 2 * z ≤ n → Srt (A + z) (A + 2 * z) d) ∧ (A + z ≤ n → n ≤ A + 2 * z → Srt (A + z) n d) ∧ (n ≤ A + z → Srt A n d) := by
  have e0 : 2 * q * z = A := by rw [mul2, hA]
  have e1 : (2 * q + 1) * z = A + z := by rw [Nat.succ_mul, e0]
  have e2 : (2 * q + 1 + 1) * z = A + 2 * z := by rw [Nat.succ_mul, e1]; omega
  have h0 := h.2 (2 * q) (Nat.le_refl _)
  have h1 := h.2 (2 * q + 1) (by omega)
  rw [e0, e1] at h0
  rw [e1, e2] at h1
  refine ⟨fun k => ?_, fun k => ?_, fun k1 k2 => ?_, fun k => ?_⟩
  · rwa [Nat.min_eq_left k] at h0
  · rwa [Nat.min_eq_left k] at h1
  · rwa [Nat.min_eq_right k2] at h1
  · rwa [Nat.min_eq_right k] at h0
theorem Mg.step (h : Mg z n q d) (hA : A = q * (2 * z)) (hs : Same A (A + 2 * z) d d') (h2 : Srt A (A + 2 * z) d') : Mg z n (q + 1) d' ∧ A + 2 * z = (q + 1) * (2 * z) := by
  have e : (q + 1) * (2 * z) = A + 2 * z := by rw [Nat.succ_mul, hA]
  refine ⟨⟨fun t ht => ?_, fun t ht => ?_⟩, e.symm⟩
  · by_cases k : t < q
    · have h3 : (t + 1) * (2 * z) ≤ A := by rw [hA]; exact Nat.mul_le_mul_right _ (by omega)
      exact (h.1 t k).congr fun i k1 k2 => hs.out i (by omega)
    · obtain rfl : t = q := by omega
      rw [e, ← hA]
      exact h2
  · have h3 : A + 2 * z ≤ t * z := by
      have : 2 * (q + 1) * z ≤ t * z := Nat.mul_le_mul_right _ ht
      rw [mul2, e] at this
      exact this
    exact (h.2 t (by omega)).congr fun i k1 k2 => hs.out i (by omega)
theorem Mg.fin (h : Mg z n q d) (hA : A = q * (2 * z)) (hn : n < A + 2 * z) (hs : Same A n d d') (h2 : Srt A n d') : Blocks (2 * z) n d' := by
  have e : (q + 1) * (2 * z) = A + 2 * z := by rw [Nat.succ_mul, hA]
  intro t
  by_cases k : t < q
  · have h3 : (t + 1) * (2 * z) ≤ A := by rw [hA]; exact Nat.mul_le_mul_right _ (by omega)
    exact ((h.1 t k).congr fun i k1 k2 => hs.out i (by omega)).mono (Nat.le_refl _) (Nat.min_le_left _ _)
  · by_cases k2 : t = q
    · subst k2
      rw [e, ← hA, Nat.min_eq_right (by omega)]
      exact h2
    · have h3 : (q + 1) * (2 * z) ≤ t * (2 * z) := Nat.mul_le_mul_right _ (by omega)
      exact Srt.small _ (by omega)
theorem blocks20 (h : ∀ t, t < q → Srt (t * 20) ((t + 1) * 20) d) (hl : Srt (q * 20) n d) (hn : n < q * 20 + 20) : Blocks 20 n d := by
  intro t
  by_cases k : t < q
  · exact (h t k).mono (Nat.le_refl _) (Nat.min_le_left _ _)
  · by_cases k2 : t = q
    · subst k2
      exact hl.mono (Nat.le_refl _) (Nat.min_le_right _ _)
    · exact Srt.small _ (by omega)
theorem Blocks.whole (h : Blocks z n d) (hz : n ≤ z) : Srt 0 n d := by
  have := h 0
  rw [Nat.zero_mul, Nat.zero_add, Nat.one_mul, Nat.min_eq_right hz] at this
  exact this
end
section
variable {w : World} {g n B : Nat} {d : Row}
set_option maxRecDepth 100000 in
set_option maxHeartbeats 8000000 in
theorem stable_any (cap : Nat) (h : AtS w w g n B d) (hn : n ≤ 1000000) :
    Calls Try.prog 44 #[.slice (some ⟨g, 0, none⟩) n cap, .int .i64 n, cmpF B] w (SPost w g n B fun d' => Same 0 n d d' ∧ Srt 0 n d') := by
  have l1 : (n : Int) ≤ 1000000 := by omega
  have hcf : cmpF B = .func (.func 33) #[] #[.pointer (some ⟨B, 0, none⟩)] := rfl
  have hins : ∀ (w' : World) (a b : Nat) (d : Row), AtS w w' g n B d → a ≤ b → b ≤ n → Calls Try.prog 45 #[.slice (some ⟨g, 0, none⟩) n cap, .int .i64 a, .int .i64 b, .func (.func 33) #[] #[.pointer (some ⟨B, 0, none⟩)]] w' (fun e w2 => e = .returned (.tuple #[]) ∧ ∃ d', AtS w w2 g n B d' ∧ Same a b d d' ∧ Srt a b d') := fun w' a b d hA h1 h2 => by
    rw [← hcf]
    exact (ins_any cap a b (AtS.start hA.row hA.key hA.ne) h1 h2 hn).mono fun e w2 ⟨q1, d', q2, q3⟩ => ⟨q1, d', hA.trans q2, q3⟩
  have hmrg : ∀ (w' : World) (a m b : Nat) (d : Row), AtS w w' g n B d → a < m → m < b → b ≤ n → Srt a m d → Srt m b d → Calls Try.prog 46 #[.slice (some ⟨g, 0, none⟩) n cap, .int .i64 a, .int .i64 m, .int .i64 b, .func (.func 33) #[] #[.pointer (some ⟨B, 0, none⟩)]] w' (fun e w2 => e = .returned (.tuple #[]) ∧ ∃ d', AtS w w2 g n B d' ∧ Same a b d d' ∧ Srt a b d') := fun w' a m b d hA h1 h2 h3 h4 h5 => by
    rw [← hcf]
    exact (merge_any cap hn (b - a) a m b d w' (Nat.le_refl _) (AtS.start hA.row hA.key hA.ne) h1 h2 h3 h4 h5).mono fun e w2 ⟨q1, d', q2, q3⟩ => ⟨q1, d', hA.trans q2, q3⟩
  rw [hcf]
  have H0 := Lib.hid h
  have Hins := Lib.hid hins
  have Hmrg := Lib.hid hmrg
  clear h hins hmrg hcf
  go_enter Try.func44, Try.ntmps44
  go_wp2
  go_loopw [7, 8] (fun va vb wr => ∃ (q a b : Nat) (dk : Row), va = .int .i64 a ∧ vb = .int .i64 b ∧ a ≤ n ∧ Hid (a = q * 20 ∧ b = q * 20 + 20) ∧ Hid (AtS w wr g n B dk ∧ Same 0 n d dk ∧ ∀ t, t < q → Srt (t * 20) ((t + 1) * 20) dk)) (fun va vb _ => n + 20 - (intOf vb).toNat)
  case atStart => exact ⟨0, 0, 20, d, rfl, rfl, by omega, Lib.hid ⟨rfl, rfl⟩, Lib.hid ⟨H0.out, Same.refl _ _ _, fun t ht => by omega⟩⟩
  case round =>
    clear H0
    obtain ⟨q, a, b, dk, rfl, rfl, hq, HAB, HI⟩ := hrel
    obtain ⟨ea, eb⟩ := HAB.out
    by_cases hbn : b ≤ n
    · have hbz : (b : Int) ≤ (n : Int) := by omega
      have c1 := Hins.out wr a b dk HI.out.1 (by omega) hbn
      have Ea := Lib.hid ea
      clear ea
      have Eb := Lib.hid eb
      clear eb
      go_wp2_with (go_at_call 45; with_reducible refine c1.mono ?_; rintro e w2 ⟨rfl, d2, hA, hs, ht⟩; have HA := Lib.hid (And.intro hA (And.intro hs ht)); clear hA hs ht)
      clear c1
      go_roundw
      case rel =>
        obtain ⟨hA, hs, ht⟩ := HA.out
        have ea := Ea.out
        have eb := Eb.out
        refine ⟨q + 1, b, b + 20, d2, rfl, by go_num, by omega, Lib.hid ⟨by omega, by omega⟩, Lib.hid ⟨hA, HI.out.2.1.trans (hs.mono (by omega) hbn), fun t k => ?_⟩⟩
        by_cases k2 : t < q
        · exact (HI.out.2.2 t k2).congr fun i k3 k4 => hs.out i (by omega)
        · obtain rfl : t = q := by omega
          rw [show (t + 1) * 20 = b by omega, ← ea]
          exact ht
      case measure => have ea := Ea.out; have eb := Eb.out; simp [intOf]; omega
    · have hbz : ¬ (b : Int) ≤ (n : Int) := by omega
      have c1 := Hins.out wr a n dk HI.out.1 (by omega) (Nat.le_refl _)
      have hblk : ∀ d2, Same a n dk d2 → Srt a n d2 → Same 0 n d d2 ∧ Blocks 20 n d2 := fun d2 hs ht => by
        refine ⟨HI.out.2.1.trans (hs.mono (by omega) (Nat.le_refl _)), blocks20 (q := q) (fun t k => ?_) (by rw [← ea]; exact ht) (by omega)⟩
        exact (HI.out.2.2 t k).congr fun i k3 k4 => hs.out i (by omega)
      have Ea := Lib.hid ea
      clear ea
      have Eb := Lib.hid eb
      clear eb
      have Hblk := Lib.hid hblk
      clear hblk
      clear HI
      go_wp2_with (go_at_call 45; with_reducible refine c1.mono ?_; rintro e w2 ⟨rfl, d2, hA, hs, ht⟩; have HA := Lib.hid (And.intro hA (Hblk.out d2 hs ht)); clear hA hs ht)
      clear c1 Hblk
      go_loopw [6] (fun vz wr => ∃ (z : Nat) (dk : Row), vz = .int .i64 z ∧ 20 ≤ z ∧ z ≤ 2 * n + 20 ∧ Hid (AtS w wr g n B dk ∧ Same 0 n d dk ∧ Blocks z n dk)) (fun vz _ => n + n + 40 - (intOf vz).toNat)
      case atStart => exact ⟨20, d2, rfl, Nat.le_refl _, by omega, HA⟩
      case round =>
        clear HA
        obtain ⟨z, dk, rfl, hz20, hzn, HZ⟩ := hrel
        by_cases hz : z < n
        · have hzz : (z : Int) < (n : Int) := by omega
          have hz2 : (0 : Int) ≤ (z : Int) := by omega
          go_wp2
          go_loopw [7, 8] (fun va vb wr2 => ∃ (q A b : Nat) (dj : Row), va = .int .i64 A ∧ vb = .int .i64 b ∧ A ≤ n ∧ Hid (A = q * (2 * z)) ∧ Hid (b = A + 2 * z) ∧ Hid (AtS w wr2 g n B dj ∧ Same 0 n d dj ∧ Mg z n q dj)) (fun va vb _ => n + 2 * z - (intOf vb).toNat)
          case atStart => exact ⟨0, 0, 2 * z, dk, rfl, by first | go_num | (congr 1; omega), by omega, Lib.hid (by simp), Lib.hid (by omega), Lib.hid ⟨HZ.out.1, HZ.out.2.1, Mg.start HZ.out.2.2⟩⟩
          case round =>
            clear HZ
            obtain ⟨q2, A, b2, dj, rfl, rfl, hAn, HAq, HB2, HM⟩ := hrel
            have eb2 := HB2.out
            obtain ⟨m2, em2⟩ : ∃ m : Nat, (A : Int) + (z : Int) = (m : Int) := ⟨A + z, by omega⟩
            have em3 : m2 = A + z := by omega
            obtain ⟨p1, p2, p3, p4⟩ := HM.out.2.2.parts HAq.out
            by_cases hb2 : b2 ≤ n
            · have hbz2 : (b2 : Int) ≤ (n : Int) := by omega
              have c1 := Hmrg.out wr A m2 b2 dj HM.out.1 (by omega) (by omega) hb2 (by rw [em3]; exact p1 (by omega)) (by rw [em3, eb2]; exact p2 (by omega))
              have Eb2 := Lib.hid eb2
              clear eb2
              have Em3 := Lib.hid em3
              clear em3
              clear p1 p2 p3 p4
              go_wp2_with (go_at_call 46; with_reducible refine c1.mono ?_; rintro e w3 ⟨rfl, d3, hA, hs, ht⟩; have HA := Lib.hid (And.intro hA (And.intro hs ht)); clear hA hs ht)
              clear c1
              go_roundw
              case rel =>
                obtain ⟨hA, hs, ht⟩ := HA.out
                have eb2 := Eb2.out
                rw [eb2] at hs ht
                obtain ⟨r1, r2⟩ := HM.out.2.2.step HAq.out hs ht
                exact ⟨q2 + 1, b2, b2 + 2 * z, d3, rfl, by first | go_num | (congr 1; omega), hb2, Lib.hid (by rw [eb2]; exact r2), Lib.hid rfl, Lib.hid ⟨hA, HM.out.2.1.trans (hs.mono (by omega) (by omega)), r1⟩⟩
              case measure => have eb2 := Eb2.out; simp [intOf]; omega
            · have hbz2 : ¬ (b2 : Int) ≤ (n : Int) := by omega
              have hfin : ∀ d3, Same A n dj d3 → Srt A n d3 → Same 0 n d d3 ∧ Blocks (2 * z) n d3 := fun d3 hs ht => ⟨HM.out.2.1.trans (hs.mono (by omega) (Nat.le_refl _)), HM.out.2.2.fin HAq.out (by omega) hs ht⟩
              by_cases hm2 : m2 < n
              · have hmz2 : (m2 : Int) < (n : Int) := by omega
                have c1 := Hmrg.out wr A m2 n dj HM.out.1 (by omega) hm2 (Nat.le_refl _) (by rw [em3]; exact p1 (by omega)) (by rw [em3]; exact p3 (by omega) (by omega))
                have Eb2 := Lib.hid eb2
                clear eb2
                have Em3 := Lib.hid em3
                clear em3
                have Hfin := Lib.hid hfin
                clear hfin
                clear p1 p2 p3 p4 HM
                go_wp2_with (go_at_call 46; with_reducible refine c1.mono ?_; rintro e w3 ⟨rfl, d3, hA, hs, ht⟩; have HA := Lib.hid (And.intro hA (Hfin.out d3 hs ht)); clear hA hs ht)
                clear c1
                go_roundw
                case rel => exact ⟨2 * z, d3, by first | go_num | (congr 1; omega), by omega, by omega, HA⟩
                case measure => simp [intOf]; omega
              · have hmz2 : ¬ (m2 : Int) < (n : Int) := by omega
                have HA := Lib.hid (And.intro HM.out.1 (hfin dj (Same.refl _ _ _) (p4 (by omega))))
                have Eb2 := Lib.hid eb2
                clear eb2
                have Em3 := Lib.hid em3
                clear em3
                clear p1 p2 p3 p4 HM hfin
                go_wp2
                go_roundw
                case rel => exact ⟨2 * z, dj, by first | go_num | (congr 1; omega), by omega, by omega, HA⟩
                case measure => simp [intOf]; omega
        · have hzz : ¬ (z : Int) < (n : Int) := by omega
          go_wp2
          go_end0
          exact ⟨rfl, dk, HZ.out.1, HZ.out.2.1, HZ.out.2.2.whole (by omega)⟩
set_option maxRecDepth 100000 in
theorem ssort_any (cap : Nat) (h : AtS w w g n B d) (hn : n ≤ 1000000) :
    Calls Try.prog 39 #[.slice (some ⟨g, 0, none⟩) n cap, cmpF B] w (SPost w g n B fun d' => Same 0 n d d' ∧ Srt 0 n d') := by
  have c1 := stable_any cap h hn
  unfold cmpF at c1 ⊢
  clear h
  go_enter Try.func39, Try.ntmps39
  go_wp2_with fail
  refine c1.mono ?_
  rintro e w1 ⟨rfl, h1⟩
  go_wp2
  go_end0
  exact ⟨rfl, h1⟩
end
end Go.Proofs.Ytnnpahjopfkchaa
