/- Lists of spans: which may be; span.May, transomref02.May, check, told. -/
import Derived.Test.YtnnpahjopfkchaaSpSorted
set_option linter.unusedVariables false
set_option linter.unusedSimpArgs false
namespace Go.Proofs.Ytnnpahjopfkchaa
open Go.RowKit Go.BigFrame

def spn (l : List Sp) (j : Nat) : Sp := l.getD j (0, 0)
theorem spn_get (l : List Sp) {j : Nat} (hj : j < l.length) : spn l j = l[j] := by simp [spn, hj]
def okA (l : List Sp) (j : Nat) : Prop := (spn l j).1 < (spn l j).2 ∧ (0 < j → (spn l (j - 1)).2 < (spn l j).1)
theorem norm_okA : ∀ {l : List Sp}, Norm l → ∀ j, j < l.length → okA l j
  | q :: l, h, 0, _ => ⟨h.1, fun h => by omega⟩
  | q :: l, h, j + 1, hj => by
    have hj' : j < l.length := by simpa using hj
    have ih := norm_okA h.2.2 j hj'
    refine ⟨ih.1, fun _ => ?_⟩
    cases j with
    | zero =>
      have : spn (q :: l) 1 ∈ l := by
        cases l with
        | nil => simp at hj'
        | cons r l => exact List.mem_cons_self
      exact h.2.1 _ this
    | succ j => exact ih.2 (by omega)
theorem okA_tail {q : Sp} {l : List Sp} (h : ∀ j, j < (q :: l).length → okA (q :: l) j) : ∀ j, j < l.length → okA l j := by
  intro j hj
  have h1 := h (j + 1) (by simpa using hj)
  refine ⟨h1.1, fun h0 => ?_⟩
  have h2 := h1.2 (by omega)
  cases j with
  | zero => omega
  | succ j => exact h2
theorem okA_norm : ∀ {l : List Sp}, (∀ j, j < l.length → okA l j) → Norm l
  | [], _ => trivial
  | [q], h => ⟨(h 0 (by simp)).1, fun r hr => by simp at hr, trivial⟩
  | q :: r :: l, h => by
    have ht := okA_norm (okA_tail h)
    have h1 := (h 1 (by simp)).2 (by omega)
    refine ⟨(h 0 (by simp)).1, fun s hs => ?_, ht⟩
    rcases List.mem_cons.1 hs with rfl | hs
    · exact h1
    · have h2 := ht.1
      have h3 := ht.2.1 s hs
      have h4 : q.2 < r.1 := h1
      omega
/-- the first place at which a list is not as it may be (or how many spans it has) -/
structure StopM (l : List Sp) (N : Nat) : Prop where
  le : N ≤ l.length
  ahead : ∀ j, j < N → okA l j
  here : N < l.length → ¬ okA l N
theorem stopM (l : List Sp) : ∃ N, StopM l N := by
  have : ∀ k, k ≤ l.length → (∃ N, StopM l N) ∨ ∀ j, j < k → okA l j := by
    intro k
    induction k with
    | zero => exact fun _ => .inr fun j hj => by omega
    | succ k ih =>
      intro hk
      rcases ih (by omega) with h | h
      · exact .inl h
      · by_cases h1 : okA l k
        · exact .inr fun j hj => by
            by_cases e : j = k
            · rw [e]; exact h1
            · exact h j (by omega)
        · exact .inl ⟨k, by omega, h, fun _ => h1⟩
  rcases this l.length (Nat.le_refl _) with h | h
  · exact h
  · exact ⟨l.length, Nat.le_refl _, h, fun h => by omega⟩
theorem StopM.norm {l : List Sp} {N : Nat} (h : StopM l N) : Norm l ↔ N = l.length := by
  constructor
  · intro hn
    rcases Nat.lt_or_eq_of_le h.le with h1 | h1
    · exact absurd (norm_okA hn N h1) (h.here h1)
    · exact h1
  · intro e
    exact okA_norm fun j hj => h.ahead j (by omega)
noncomputable def mayB (l : List Sp) : Bool := @decide (Norm l ∧ l.length ≤ 256) (Classical.propDecidable _)
theorem mayB_iff (l : List Sp) : mayB l = true ↔ Norm l ∧ l.length ≤ 256 := by simp [mayB]
theorem mayB_stop {l : List Sp} {N : Nat} (h : StopM l N) : mayB l = (decide (N = l.length) && decide (l.length ≤ 256)) := by
  rw [Bool.eq_iff_iff, mayB_iff, h.norm]
  simp
section
variable {w : World} {A : Option Addr} {l : List Sp} {cap : Nat}
set_option maxRecDepth 100000 in
set_option maxHeartbeats 4000000 in
theorem may_any (hm : l.length ≤ 1000000) (hI : SpAt w.heap.size w A l) : Calls Try.prog 13 #[.slice A l.length cap] w fun e w' => e = .returned (.bool (mayB l)) ∧ Below w.heap.size w w' := by
  obtain ⟨N, hN⟩ := stopM l
  have hres := mayB_stop hN
  obtain ⟨res, er⟩ : ∃ r, r = mayB l := ⟨_, rfl⟩
  rw [← er] at hres ⊢
  have lm : (l.length : Int) ≤ 1000000 := by omega
  have HI := Lib.hid hI
  have HN := Lib.hid hN
  have hNl := hN.le
  have Hres := Lib.hid hres
  clear hres
  clear er hI hN
  go_enter Try.func13, Try.ntmps13
  go_wp2
  go_loopw [7] (fun i wr => ∃ k : Nat, i = .int .i64 k ∧ k ≤ N ∧ Hid (Below w.heap.size w wr)) (fun i _ => l.length - (intOf i).toNat)
  case atStart => exact ⟨0, rfl, Nat.zero_le _, Lib.hid (Below.refl _ _)⟩
  case round =>
    obtain ⟨k, rfl, hk, HB⟩ := hrel
    by_cases h1 : k < l.length
    · have h1z : (k : Int) < (l.length : Int) := by omega
      have k0 : (0 : Int) ≤ (k : Int) := by omega
      obtain ⟨b, off, eA, hb, r1, r2⟩ := (HI.out.below HB.out).at_ h1
      have hx : spn l k = l[k] := spn_get l h1
      rw [← hx] at r1 r2
      obtain ⟨x, ex⟩ : ∃ x, x = spn l k := ⟨_, rfl⟩
      rw [← ex] at r1 r2
      have hB1 : Below w.heap.size w (wr.alloc (.cells #[.int .u64 (x.1 : Int), .int .u64 (x.2 : Int)] 25)) := HB.out.alloc HB.out.size _
      have HB1 := Lib.hid hB1
      clear hB1 hx
      by_cases hkN : k < N
      · have ho := HN.out.ahead k hkN
        unfold okA at ho
        rw [← ex] at ho
        have hx12 : ¬ (x.2 : Int) ≤ (x.1 : Int) := by omega
        by_cases hk0 : 0 < k
        · have hk0z : (k : Int) > 0 := by omega
          obtain ⟨k', ek⟩ : ∃ k' : Nat, (k : Int) - 1 = (k' : Int) := ⟨k - 1, by omega⟩
          have ek2 : k' = k - 1 := by omega
          have k1 : (0 : Int) ≤ (k' : Int) := by omega
          have k2 : (k' : Int) < (l.length : Int) := by omega
          obtain ⟨b2, off2, eA2, -, -, r4⟩ := (HI.out.below HB.out).at_ (j := k') (by omega)
          rw [eA] at eA2
          injection eA2 with eA2
          injection eA2 with e1 e2
          subst e1 e2
          rw [← spn_get l (by omega)] at r4
          obtain ⟨y, ey⟩ : ∃ y, y = spn l k' := ⟨_, rfl⟩
          rw [← ey] at r4
          have h2 := ho.2 hk0
          rw [← ek2, ← ey] at h2
          have hxy : ¬ (x.1 : Int) ≤ (y.2 : Int) := by omega
          subst eA
          clear ek2 ex ey ho h2
          go_upto_region 4 with fail
          have r4' := (Below.cell (p := ⟨b, off + k' * 2 + 1, none⟩) ((Below.refl wr.heap.size wr).alloc (Nat.le_refl _) (.cells #[.int .u64 (x.1 : Int), .int .u64 (x.2 : Int)] 25)) (Nat.lt_of_lt_of_le hb HB.out.size)).trans r4
          go_quiet (fail)
          go_wp2
          go_roundw
          case rel => exact ⟨k + 1, by go_num, hkN, Lib.hid (below_drewN HB1.out _)⟩
          case measure => simp [intOf]; omega
        · have hk0z : ¬ (k : Int) > 0 := by omega
          subst eA
          clear ex ho
          go_upto_region 4 with fail
          go_quiet (fail)
          go_wp2
          go_roundw
          case rel => exact ⟨k + 1, by go_num, hkN, Lib.hid (below_drewN HB1.out _)⟩
          case measure => simp [intOf]; omega
      · obtain rfl : k = N := by omega
        have ho := HN.out.here h1
        have hr0 : res = false := by rw [Hres.out, decide_eq_false (by omega : ¬ k = l.length)]; rfl
        unfold okA at ho
        rw [← ex] at ho
        subst hr0
        by_cases hx12 : x.1 < x.2
        · have hx12z : ¬ (x.2 : Int) ≤ (x.1 : Int) := by omega
          have hk0 : 0 < k := by
            rcases Nat.eq_zero_or_pos k with h0 | h0
            · exact absurd ⟨hx12, fun h => by omega⟩ ho
            · exact h0
          have hk0z : (k : Int) > 0 := by omega
          obtain ⟨k', ek⟩ : ∃ k' : Nat, (k : Int) - 1 = (k' : Int) := ⟨k - 1, by omega⟩
          have ek2 : k' = k - 1 := by omega
          have k1 : (0 : Int) ≤ (k' : Int) := by omega
          have k2 : (k' : Int) < (l.length : Int) := by omega
          obtain ⟨b2, off2, eA2, -, -, r4⟩ := (HI.out.below HB.out).at_ (j := k') (by omega)
          rw [eA] at eA2
          injection eA2 with eA2
          injection eA2 with e1 e2
          subst e1 e2
          rw [← spn_get l (by omega)] at r4
          obtain ⟨y, ey⟩ : ∃ y, y = spn l k' := ⟨_, rfl⟩
          rw [← ey] at r4
          rw [← ek2, ← ey] at ho
          have hxy : (x.1 : Int) ≤ (y.2 : Int) := by
            by_cases h : y.2 < x.1
            · exact absurd ⟨hx12, fun _ => h⟩ ho
            · omega
          subst eA
          clear ek2 ex ey ho
          go_upto_region 4 with fail
          have r4' := (Below.cell (p := ⟨b, off + k' * 2 + 1, none⟩) ((Below.refl wr.heap.size wr).alloc (Nat.le_refl _) (.cells #[.int .u64 (x.1 : Int), .int .u64 (x.2 : Int)] 25)) (Nat.lt_of_lt_of_le hb HB.out.size)).trans r4
          go_quiet (fail)
          go_wp2
          go_ret
          exact ⟨rfl, below_drewN HB1.out _⟩
        · have hx12z : (x.2 : Int) ≤ (x.1 : Int) := by omega
          subst eA
          clear ex ho
          go_upto_region 4 with fail
          go_quiet (fail)
          go_wp2
          go_ret
          exact ⟨rfl, below_drewN HB1.out _⟩
    · have h1z : ¬ (k : Int) < (l.length : Int) := by omega
      have hr0 : res = decide (l.length ≤ 256) := by rw [Hres.out, decide_eq_true (by omega : N = l.length)]; rfl
      by_cases h256 : l.length ≤ 256
      · have hz : (l.length : Int) ≤ 256 := by omega
        obtain rfl : res = true := by rw [hr0]; exact decide_eq_true h256
        clear hr0
        go_wp2
        go_ret
        exact ⟨rfl, HB.out⟩
      · have hz : ¬ (l.length : Int) ≤ 256 := by omega
        obtain rfl : res = false := by rw [hr0]; exact decide_eq_false h256
        clear hr0
        go_wp2
        go_ret
        exact ⟨rfl, HB.out⟩
end
end Go.Proofs.Ytnnpahjopfkchaa
