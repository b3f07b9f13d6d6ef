/- transomref02.May; check, told; at's closure, slices.IndexFunc; span.at, Has, Gap, Covers. The first printed after span.May's walk. -/
import Derived.Test.YtnnpahjopfkchaaSpan1
set_option linter.unusedVariables false
set_option linter.unusedSimpArgs false
namespace Go.Proofs.Ytnnpahjopfkchaa
open Go.RowKit Go.BigFrame

section
variable {w : World} {A : Option Addr} {l : List Sp} {cap : Nat}
set_option maxRecDepth 100000 in
set_option maxHeartbeats 4000000 in
theorem rmay_any (hm : l.length ≤ 1000000) (hI : SpAt w.heap.size w A l) : Calls Try.prog 14 #[.slice A l.length cap] w fun e w' => e = .returned (.bool (mayB l)) ∧ Below w.heap.size w w' := by
  obtain ⟨N, hN⟩ := stopM l
  have hres := mayB_stop hN
  obtain ⟨res, er⟩ : ∃ r, r = mayB l := ⟨_, rfl⟩
  rw [← er] at hres ⊢
  have lm : (l.length : Int) ≤ 1000000 := by omega
  have HI := Lib.hid hI
  have HN := Lib.hid hN
  have hNl := hN.le
  have Hres := Lib.hid hres
  clear hres
  clear er hI hN
  by_cases h256 : 256 < l.length
  · have hz : (l.length : Int) > 256 := by omega
    obtain rfl : res = false := by
      rw [Hres.out, decide_eq_false (by omega : ¬ l.length ≤ 256)]
      exact Bool.and_false _
    clear Hres HN HI
    go_enter Try.func14, Try.ntmps14
    go_wp2
    go_ret
    exact ⟨rfl, Below.refl _ _⟩
  have hz : ¬ (l.length : Int) > 256 := by omega
  have hle : l.length ≤ 256 := by omega
  go_enter Try.func14, Try.ntmps14
  go_wp2
  go_loopw [3] (fun i wr => ∃ k : Nat, i = .int .i64 k ∧ k ≤ N ∧ Hid (Below w.heap.size w wr)) (fun i _ => l.length - (intOf i).toNat)
  case atStart => exact ⟨0, rfl, Nat.zero_le _, Lib.hid (Below.refl _ _)⟩
  case round =>
    obtain ⟨k, rfl, hk, HB⟩ := hrel
    by_cases h1 : k < l.length
    · have h1z : (k : Int) < (l.length : Int) := by omega
      have k0 : (0 : Int) ≤ (k : Int) := by omega
      obtain ⟨b, off, eA, hb, r1, r2⟩ := (HI.out.below HB.out).at_ h1
      have hx : spn l k = l[k] := spn_get l h1
      rw [← hx] at r1 r2
      obtain ⟨x, ex⟩ : ∃ x, x = spn l k := ⟨_, rfl⟩
      rw [← ex] at r1 r2
      have HB1 := HB
      clear hx
      by_cases hkN : k < N
      · have ho := HN.out.ahead k hkN
        unfold okA at ho
        rw [← ex] at ho
        have hx12 : ¬ (x.2 : Int) ≤ (x.1 : Int) := by omega
        by_cases hk0 : 0 < k
        · have hk0z : (k : Int) > 0 := by omega
          obtain ⟨k', ek⟩ : ∃ k' : Nat, (k : Int) - 1 = (k' : Int) := ⟨k - 1, by omega⟩
          have ek2 : k' = k - 1 := by omega
          have k1 : (0 : Int) ≤ (k' : Int) := by omega
          have k2 : (k' : Int) < (l.length : Int) := by omega
          obtain ⟨b2, off2, eA2, -, -, r4⟩ := (HI.out.below HB.out).at_ (j := k') (by omega)
          rw [eA] at eA2
          injection eA2 with eA2
          injection eA2 with e1 e2
          subst e1 e2
          rw [← spn_get l (by omega)] at r4
          obtain ⟨y, ey⟩ : ∃ y, y = spn l k' := ⟨_, rfl⟩
          rw [← ey] at r4
          have h2 := ho.2 hk0
          rw [← ek2, ← ey] at h2
          have hxy : ¬ (x.1 : Int) ≤ (y.2 : Int) := by omega
          subst eA
          clear ek2 ex ey ho h2
          go_upto_region 6 with fail
          go_quiet (fail)
          go_wp2
          go_roundw
          case rel => exact ⟨k + 1, by go_num, hkN, Lib.hid (below_drewN HB1.out _)⟩
          case measure => simp [intOf]; omega
        · have hk0z : ¬ (k : Int) > 0 := by omega
          subst eA
          clear ex ho
          go_upto_region 6 with fail
          go_quiet (fail)
          go_wp2
          go_roundw
          case rel => exact ⟨k + 1, by go_num, hkN, Lib.hid (below_drewN HB1.out _)⟩
          case measure => simp [intOf]; omega
      · obtain rfl : k = N := by omega
        have ho := HN.out.here h1
        have hr0 : res = false := by rw [Hres.out, decide_eq_false (by omega : ¬ k = l.length)]; rfl
        unfold okA at ho
        rw [← ex] at ho
        subst hr0
        by_cases hx12 : x.1 < x.2
        · have hx12z : ¬ (x.2 : Int) ≤ (x.1 : Int) := by omega
          have hk0 : 0 < k := by
            rcases Nat.eq_zero_or_pos k with h0 | h0
            · exact absurd ⟨hx12, fun h => by omega⟩ ho
            · exact h0
          have hk0z : (k : Int) > 0 := by omega
          obtain ⟨k', ek⟩ : ∃ k' : Nat, (k : Int) - 1 = (k' : Int) := ⟨k - 1, by omega⟩
          have ek2 : k' = k - 1 := by omega
          have k1 : (0 : Int) ≤ (k' : Int) := by omega
          have k2 : (k' : Int) < (l.length : Int) := by omega
          obtain ⟨b2, off2, eA2, -, -, r4⟩ := (HI.out.below HB.out).at_ (j := k') (by omega)
          rw [eA] at eA2
          injection eA2 with eA2
          injection eA2 with e1 e2
          subst e1 e2
          rw [← spn_get l (by omega)] at r4
          obtain ⟨y, ey⟩ : ∃ y, y = spn l k' := ⟨_, rfl⟩
          rw [← ey] at r4
          rw [← ek2, ← ey] at ho
          have hxy : (x.1 : Int) ≤ (y.2 : Int) := by
            by_cases h : y.2 < x.1
            · exact absurd ⟨hx12, fun _ => h⟩ ho
            · omega
          subst eA
          clear ek2 ex ey ho
          go_upto_region 6 with fail
          go_quiet (fail)
          go_wp2
          go_ret
          exact ⟨rfl, below_drewN HB1.out _⟩
        · have hx12z : (x.2 : Int) ≤ (x.1 : Int) := by omega
          subst eA
          clear ex ho
          go_upto_region 6 with fail
          go_quiet (fail)
          go_wp2
          go_ret
          exact ⟨rfl, below_drewN HB1.out _⟩
    · have h1z : ¬ (k : Int) < (l.length : Int) := by omega
      have hr0 : res = decide (l.length ≤ 256) := by rw [Hres.out, decide_eq_true (by omega : N = l.length)]; rfl
      obtain rfl : res = true := by rw [hr0]; exact decide_eq_true hle
      clear hr0
      go_wp2
      go_ret
      exact ⟨rfl, HB.out⟩

noncomputable def checkE (l : List Sp) (x : Sp) : Nat := if mayB l = false then 8 else if x.2 < x.1 then 2 else 0
set_option maxRecDepth 100000 in
set_option maxHeartbeats 1000000 in
theorem check_any (x : Sp) (hm : l.length ≤ 1000000) (hI : SpAt w.heap.size w A l) : Calls Try.prog 24 #[.slice A l.length cap, spV x] w fun e w' => e = .returned (.int .i64 (checkE l x : Int)) ∧ Below w.heap.size w w' := by
  have hB : Below w.heap.size w (w.alloc (.cells #[.int .u64 (x.1 : Int), .int .u64 (x.2 : Int)] 25)) := (Below.refl _ _).alloc (Nat.le_refl _) _
  have c1 := may_any (cap := cap) hm ((hI.below hB).mono hB.size)
  have hx := (Blk.new w 25 #[.int .u64 (x.1 : Int), .int .u64 (x.2 : Int)])
  have HB := Lib.hid hB
  have HX := Lib.hid hx
  unfold spV checkE
  clear hI hB hx
  cases hmy : mayB l with
  | false =>
    rw [hmy] at c1
    rw [if_pos rfl]
    clear hmy
    go_enter Try.func24, Try.ntmps24
    go_wp2_with (go_at_call 13; with_reducible refine c1.mono ?_; rintro e w1 ⟨rfl, hb⟩)
    go_ret
    exact ⟨rfl, HB.out.trans (hb.mono HB.out.size)⟩
  | true =>
    rw [hmy] at c1
    rw [if_neg (by decide)]
    clear hmy
    by_cases h : x.2 < x.1
    · have hz : (x.1 : Int) > (x.2 : Int) := by omega
      rw [if_pos h]
      go_enter Try.func24, Try.ntmps24
      go_upto_region 3 with (go_at_call 13; with_reducible refine c1.mono ?_; rintro e w1 ⟨rfl, hb⟩)
      have hx1 := HX.out.below hb HX.out.lt
      have z0 := hx1.cell 0
      have z1 := hx1.cell 1
      simp only [List.getElem?_toArray, List.getElem?_cons_zero, List.getElem?_cons_succ] at z0 z1
      clear hx1
      go_wp2
      go_ret
      exact ⟨rfl, HB.out.trans (hb.mono HB.out.size)⟩
    · have hz : ¬ (x.1 : Int) > (x.2 : Int) := by omega
      rw [if_neg h]
      go_enter Try.func24, Try.ntmps24
      go_upto_region 3 with (go_at_call 13; with_reducible refine c1.mono ?_; rintro e w1 ⟨rfl, hb⟩)
      have hx1 := HX.out.below hb HX.out.lt
      have z0 := hx1.cell 0
      have z1 := hx1.cell 1
      simp only [List.getElem?_toArray, List.getElem?_cons_zero, List.getElem?_cons_succ] at z0 z1
      clear hx1
      go_wp2
      go_ret
      exact ⟨rfl, HB.out.trans (hb.mono HB.out.size)⟩
theorem told_ok (n : Nat) (hn : n ≤ 256) : Calls Try.prog 25 #[.slice A n cap] w fun e w' => e = .returned (.tuple #[.slice A n cap, .int .i64 0]) ∧ w = w' := by
  have hz : ¬ (n : Int) > 256 := by omega
  go_enter Try.func25, Try.ntmps25
  go_wp2
  go_ret2
  exact ⟨rfl, rfl⟩
theorem told_full (n : Nat) (hn : 256 < n) : Calls Try.prog 25 #[.slice A n cap] w fun e w' => e = .returned (.tuple #[.slice none 0 0, .int .i64 6]) ∧ w = w' := by
  have hz : (n : Int) > 256 := by omega
  go_enter Try.func25, Try.ntmps25
  go_wp2
  go_ret2
  exact ⟨rfl, rfl⟩
def hasAt (q : Sp) (n : Nat) : Prop := q.1 ≤ n ∧ n < q.2
instance (q : Sp) (n : Nat) : Decidable (hasAt q n) := inferInstanceAs (Decidable (_ ∧ _))
def HasNum (W : World) (B n : Nat) : Prop := B < W.heap.size ∧ W.cell? ⟨B, 0, none⟩ = some (.int .u64 (n : Int))
theorem HasNum.below {W W' : World} {B n : Nat} (h : HasNum W B n) (hb : Below W.heap.size W W') : HasNum W' B n := ⟨Nat.lt_of_lt_of_le h.1 hb.size, (hb.cell (p := ⟨B, 0, none⟩) h.1).trans h.2⟩
set_option maxRecDepth 100000 in
theorem pred_any (B n : Nat) (x : Sp) (hk : HasNum w B n) : Calls Try.prog 37 #[spV x, .pointer (some ⟨B, 0, none⟩)] w fun e w' => e = .returned (.bool (decide (hasAt x n))) ∧ Below w.heap.size w w' := by
  have hB : Below w.heap.size w (w.alloc (.cells #[.int .u64 (x.1 : Int), .int .u64 (x.2 : Int)] 25)) := (Below.refl _ _).alloc (Nat.le_refl _) _
  obtain ⟨k0, k1⟩ := hk.below hB
  unfold spV
  have HB := Lib.hid hB
  clear hB hk
  by_cases h1 : x.1 ≤ n
  · have h1z : (x.1 : Int) ≤ (n : Int) := by omega
    by_cases h2 : n < x.2
    · have h2z : (n : Int) < (x.2 : Int) := by omega
      rw [decide_eq_true (show hasAt x n from ⟨h1, h2⟩)]
      go_enter Try.func37, Try.ntmps37
      go_wp2
      go_ret
      exact ⟨rfl, HB.out⟩
    · have h2z : ¬ (n : Int) < (x.2 : Int) := by omega
      rw [decide_eq_false (show ¬ hasAt x n from fun h => h2 h.2)]
      go_enter Try.func37, Try.ntmps37
      go_wp2
      go_ret
      exact ⟨rfl, HB.out⟩
  · have h1z : ¬ (x.1 : Int) ≤ (n : Int) := by omega
    rw [decide_eq_false (show ¬ hasAt x n from fun h => h1 h.1)]
    go_enter Try.func37, Try.ntmps37
    go_wp2
    go_ret
    exact ⟨rfl, HB.out⟩
/-- the first span that has n (or how many spans there are) -/
structure StopH (l : List Sp) (n N : Nat) : Prop where
  le : N ≤ l.length
  ahead : ∀ j, j < N → ¬ hasAt (spn l j) n
  here : N < l.length → hasAt (spn l N) n
theorem stopH (l : List Sp) (n : Nat) : ∃ N, StopH l n N := by
  have : ∀ k, k ≤ l.length → (∃ N, StopH l n N) ∨ ∀ j, j < k → ¬ hasAt (spn l j) n := by
    intro k
    induction k with
    | zero => exact fun _ => .inr fun j hj => by omega
    | succ k ih =>
      intro hk
      rcases ih (by omega) with h | h
      · exact .inl h
      · by_cases h1 : hasAt (spn l k) n
        · exact .inl ⟨k, by omega, h, fun _ => h1⟩
        · exact .inr fun j hj => by
            by_cases e : j = k
            · rw [e]; exact h1
            · exact h j (by omega)
  rcases this l.length (Nat.le_refl _) with h | h
  · exact h
  · exact ⟨l.length, Nat.le_refl _, h, fun h => by omega⟩
theorem StopH.cov {l : List Sp} {n N : Nat} (h : StopH l n N) : cov l n ↔ N < l.length := by
  constructor
  · rintro ⟨q, hq, h1, h2⟩
    obtain ⟨j, hj, rfl⟩ := List.mem_iff_getElem.1 hq
    rcases Nat.lt_or_eq_of_le h.le with h3 | h3
    · exact h3
    · exact absurd (by rw [spn_get l hj]; exact ⟨h1, h2⟩) (h.ahead j (by omega))
  · intro h1
    have := h.here h1
    rw [spn_get l h1] at this
    exact ⟨_, List.getElem_mem h1, this⟩
set_option maxRecDepth 100000 in
set_option maxHeartbeats 1000000 in
theorem index_any (B n N : Nat) (hm : l.length ≤ 1000000) (hI : SpAt w.heap.size w A l) (hk : HasNum w B n) (hN : StopH l n N) :
    Calls Try.prog 36 #[.slice A l.length cap, .func (.func 37) #[] #[.pointer (some ⟨B, 0, none⟩)]] w fun e w' => e = .returned (.int .i64 (if N < l.length then (N : Int) else -1)) ∧ Below w.heap.size w w' := by
  have lm : (l.length : Int) ≤ 1000000 := by omega
  have HI := Lib.hid (And.intro hI (And.intro hk hN))
  have hNl := hN.le
  obtain ⟨res, er⟩ : ∃ r : Int, r = if N < l.length then (N : Int) else -1 := ⟨_, rfl⟩
  rw [← er]
  have Er := Lib.hid er
  clear er
  clear hI hk hN
  go_enter Try.func36, Try.ntmps36
  go_wp2
  go_loopw [8] (fun i wr => ∃ k : Nat, i = .int .i64 k ∧ k ≤ N ∧ Hid (Below w.heap.size w wr)) (fun i _ => l.length - (intOf i).toNat)
  case atStart => exact ⟨0, rfl, Nat.zero_le _, Lib.hid (Below.refl _ _)⟩
  case round =>
    obtain ⟨k, rfl, hk, HB⟩ := hrel
    by_cases h1 : k < l.length
    · have h1z : (k : Int) < (l.length : Int) := by omega
      have k0 : (0 : Int) ≤ (k : Int) := by omega
      obtain ⟨b, off, rfl, hb, r1, r2⟩ := (HI.out.1.below HB.out).at_ h1
      have hx : spn l k = l[k] := spn_get l h1
      rw [← hx] at r1 r2
      obtain ⟨x, ex⟩ : ∃ x, x = spn l k := ⟨_, rfl⟩
      rw [← ex] at r1 r2
      have c1 := pred_any B n x (HI.out.2.1.below HB.out)
      unfold spV at c1
      clear hx
      by_cases hkN : k < N
      · have ho := HI.out.2.2.ahead k hkN
        rw [← ex] at ho
        rw [decide_eq_false ho] at c1
        clear ex ho
        go_wp2_with fail
        refine c1.mono ?_
        rintro e w2 ⟨rfl, hb2⟩
        go_wp2
        go_roundw
        case rel => exact ⟨k + 1, by go_num, hkN, Lib.hid (HB.out.trans (hb2.mono HB.out.size))⟩
        case measure => simp [intOf]; omega
      · obtain rfl : k = N := by omega
        have ho := HI.out.2.2.here h1
        rw [← ex] at ho
        rw [decide_eq_true ho] at c1
        obtain rfl : res = (k : Int) := by rw [Er.out, if_pos h1]
        clear ex ho
        go_wp2_with fail
        refine c1.mono ?_
        rintro e w2 ⟨rfl, hb2⟩
        go_wp2
        go_ret
        exact ⟨rfl, HB.out.trans (hb2.mono HB.out.size)⟩
    · have h1z : ¬ (k : Int) < (l.length : Int) := by omega
      obtain rfl : res = -1 := by rw [Er.out, if_neg (by omega)]
      go_wp2
      go_ret
      exact ⟨rfl, HB.out⟩
end
end Go.Proofs.Ytnnpahjopfkchaa
