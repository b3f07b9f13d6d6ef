/- opt.Same, and what it leans on: whether two lists of blocks are the same. -/
import Derived.Test.YtimepplfaaddeaaOptMay
import Derived.Deep.QuietTactic
import Derived.BigQuiet
import Derived.LoopTactic
set_option linter.unusedVariables false
set_option linter.unusedSimpArgs false
namespace Go.Proofs.Ytimepplfaaddeaa
open Go.RowKit Go.BigFrame

theorem neq_blk (a b c d : Int) (W : World) : (binOp .neq 56 (.agg #[.int .u32 a, .int .u32 b]) (.agg #[.int .u32 c, .int .u32 d])).run Try.prog W = .ok (.bool (!(decide (a = c) && decide (b = d)))) W := by
  by_cases h1 : a = c
  · subst h1
    by_cases h2 : b = d
    · subst h2
      rw [decide_eq_true (rfl : a = a), decide_eq_true (rfl : b = b)]
      go_simp
    · have h3 : (b == d) = false := by simpa using h2
      rw [decide_eq_true (rfl : a = a), decide_eq_false h2]
      go_simp
  · have h3 : (a == c) = false := by simpa using h1
    rw [decide_eq_false h1]
    go_simp
/-- the rows of two lists, compared -/
theorem equal_any (w : World) (A B : Option Addr) (c e : Nat) (l m : List (Int × Int)) (hl : BlR w A l) (hm : BlR w B m) (hn : l.length ≤ maxLen) (hn2 : m.length ≤ maxLen) :
    Calls Try.prog 29 #[.slice A l.length c, .slice B m.length e] w fun en w' => en = .returned (.bool (decide (l = m))) ∧ ∃ n, w' = w.drewN n := by
  unfold maxLen at hn hn2
  by_cases hlen : l.length = m.length
  · obtain ⟨n, hne⟩ : ∃ n, n = l.length := ⟨_, rfl⟩
    rw [← hlen, ← hne]
    rw [← hne] at hn hlen
    have i1 : (n : Int) ≤ 9223372036854775807 := by omega
    have Hl := Lib.hid hl
    clear hl
    have Hm := Lib.hid hm
    clear hm
    have Hne := Lib.hid hne
    clear hne
    have Hlen := Lib.hid hlen
    clear hlen
    go_enter Try.func29, Try.ntmps29
    go_wp2
    go_loopw [13] (fun i wr => ∃ k : Nat, i = .int .i64 (k : Int) ∧ k ≤ n ∧ l.take k = m.take k ∧ ∃ q, wr = w.drewN q) (fun i _ => n - (intOf i).toNat)
    case atStart => exact ⟨0, rfl, Nat.zero_le _, rfl, 0, rfl⟩
    case round =>
      obtain ⟨k, rfl, hkn, heq, q, rfl⟩ := hrel
      by_cases hk : k < n
      · have j1 : (k : Int) < (n : Int) := by omega
        have j0 : (0 : Int) ≤ (k : Int) := by omega
        obtain ⟨p1, hp1⟩ : ∃ p, l[k]? = some p := ⟨_, List.getElem?_eq_getElem (by rw [← Hne.out]; exact hk)⟩
        obtain ⟨p2, hp2⟩ : ∃ p, m[k]? = some p := ⟨_, List.getElem?_eq_getElem (by rw [← Hlen.out]; exact hk)⟩
        rcases Hl.out with h | ⟨rb, off, hA, hrb, hc⟩
        · rw [h] at hp1; simp at hp1
        rcases Hm.out with h | ⟨rb2, off2, hB, hrb2, hc2⟩
        · rw [h] at hp2; simp at hp2
        subst hA hB
        obtain ⟨x1, x2⟩ := hc k p1 hp1
        obtain ⟨y1, y2⟩ := hc2 k p2 hp2
        have hnb := fun W => neq_blk p1.1 p1.2 p2.1 p2.2 W
        by_cases he : p1 = p2
        · subst he
          have hnx : l.take (k + 1) = m.take (k + 1) := by rw [List.take_add_one, List.take_add_one, heq, hp1, hp2]
          simp only [decide_true, Bool.and_self, Bool.not_true] at hnb
          clear heq hp1 hp2 hc hc2
          have Hnx := Lib.hid hnx
          clear hnx
          go_upto_region 6 with fail
          go_quiet (fail)
          go_wp2_with fail
          go_roundw
          case rel => exact ⟨k + 1, by go_num, by omega, Hnx.out, _, rfl⟩
          case measure => simp [intOf]; omega
        · have hd : (decide (p1.1 = p2.1) && decide (p1.2 = p2.2)) = false := by
            by_cases h1 : p1.1 = p2.1
            · by_cases h2 : p1.2 = p2.2
              · exact absurd (Prod.ext h1 h2) he
              · simp [h2]
            · simp [h1]
          have hne2 : decide (l = m) = false := by
            rw [decide_eq_false_iff_not]
            intro h
            rw [h, hp2] at hp1
            injection hp1 with hp1
            exact he hp1.symm
          simp only [hd, Bool.not_false] at hnb
          clear heq hp1 hp2 hc hc2 hd he
          have Hne2 := Lib.hid hne2
          clear hne2
          go_upto_region 6 with fail
          go_quiet (fail)
          go_wp2
          go_ret
          exact ⟨ret_bool Hne2.out.symm, _, by rw [World.drewN_drewN]⟩
      · obtain rfl : n = k := by omega
        have j1 : ¬ (n : Int) < (n : Int) := by omega
        have he : decide (l = m) = true := by
          rw [decide_eq_true_iff]
          rw [List.take_of_length_le (by rw [← Hne.out]; exact Nat.le_refl _), List.take_of_length_le (by rw [← Hlen.out]; exact Nat.le_refl _)] at heq
          exact heq
        clear heq
        have He := Lib.hid he
        clear he
        go_wp2
        go_ret
        exact ⟨ret_bool He.out.symm, _, rfl⟩
  · have i1 : ((l.length : Int) == (m.length : Int)) = false := by rw [beq_eq_false_iff_ne]; omega
    have i2 : ¬ (l.length : Int) = (m.length : Int) := by omega
    have he : decide (l = m) = false := by
      rw [decide_eq_false_iff_not]
      intro h
      exact hlen (by rw [h])
    have He := Lib.hid he
    clear he
    have Hl := Lib.hid hl
    clear hl
    have Hm := Lib.hid hm
    clear hm
    have Hlen := Lib.hid hlen
    clear hlen
    go_enter Try.func29, Try.ntmps29
    go_wp2
    go_ret
    exact ⟨ret_bool He.out.symm, 0, rfl⟩
set_option maxHeartbeats 4000000 in
theorem osame_raw (w : World) (x0 x1 x5 x6 y0 y1 y5 y6 : Int) (x2 x4 y2 y4 : Bool) (A B : Option Addr) (c e : Nat) (l m : List (Int × Int)) (hl : BlR w A l) (hm : BlR w B m) (hn : l.length ≤ maxLen) (hn2 : m.length ≤ maxLen) :
    Calls Try.prog 15 #[.agg #[.int .u16 x0, .int .i64 x1, .bool x2, .slice A l.length c, .bool x4, .int .u32 x5, .int .u32 x6], .agg #[.int .u16 y0, .int .i64 y1, .bool y2, .slice B m.length e, .bool y4, .int .u32 y5, .int .u32 y6]] w fun en w' => en = .returned (.bool ((x0 == y0) && ((x1 == y1) && ((x2 == y2) && (decide (l = m) && ((x4 == y4) && ((x5 == y5) && (x6 == y6)))))))) ∧ Below w.heap.size w w' := by
  have hb : Below w.heap.size w ((w.alloc (.cells #[.int .u16 x0, .int .i64 x1, .bool x2, .slice A l.length c, .bool x4, .int .u32 x5, .int .u32 x6] 26)).alloc (.cells #[.int .u16 y0, .int .i64 y1, .bool y2, .slice B m.length e, .bool y4, .int .u32 y5, .int .u32 y6] 26)) := ((Below.refl _ _).alloc (Nat.le_refl _) _).alloc (by simp) _
  have he := equal_any _ A B c e l m (hl.below (((Below.refl _ _).alloc (Nat.le_refl _) (.cells #[.int .u16 x0, .int .i64 x1, .bool x2, .slice A l.length c, .bool x4, .int .u32 x5, .int .u32 x6] 26)).alloc (by simp) (.cells #[.int .u16 y0, .int .i64 y1, .bool y2, .slice B m.length e, .bool y4, .int .u32 y5, .int .u32 y6] 26))) (hm.below (((Below.refl _ _).alloc (Nat.le_refl _) (.cells #[.int .u16 x0, .int .i64 x1, .bool x2, .slice A l.length c, .bool x4, .int .u32 x5, .int .u32 x6] 26)).alloc (by simp) (.cells #[.int .u16 y0, .int .i64 y1, .bool y2, .slice B m.length e, .bool y4, .int .u32 y5, .int .u32 y6] 26))) hn hn2
  obtain ⟨V, hV⟩ : ∃ V, V = ((x0 == y0) && ((x1 == y1) && ((x2 == y2) && (decide (l = m) && ((x4 == y4) && ((x5 == y5) && (x6 == y6))))))) := ⟨_, rfl⟩
  rw [← hV]
  clear hn hn2
  have Hb := Lib.hid hb
  clear hb
  have HV := Lib.hid hV
  clear hV
  have Hl := Lib.hid hl
  clear hl
  have Hm := Lib.hid hm
  clear hm
  cases h0 : (x0 == y0) with
  | false =>
    clear he
    have hV : V = false := by rw [HV.out]; simp [h0]
    clear HV
    have HV := Lib.hid hV
    clear hV
    go_enter Try.func15, Try.ntmps15
    go_wp2
    go_ret
    exact ⟨ret_bool HV.out.symm, Hb.out⟩
  | true =>
    cases h1 : (x1 == y1) with
    | false =>
      clear he
      have hV : V = false := by rw [HV.out]; simp [h0, h1]
      clear HV
      have HV := Lib.hid hV
      clear hV
      go_enter Try.func15, Try.ntmps15
      go_wp2
      go_ret
      exact ⟨ret_bool HV.out.symm, Hb.out⟩
    | true =>
      cases h2 : (x2 == y2) with
      | false =>
        clear he
        have hV : V = false := by rw [HV.out]; simp [h0, h1, h2]
        clear HV
        have HV := Lib.hid hV
        clear hV
        go_enter Try.func15, Try.ntmps15
        go_wp2
        go_ret
        exact ⟨ret_bool HV.out.symm, Hb.out⟩
      | true =>
        cases h3 : (decide (l = m)) with
        | false =>
          rw [h3] at he
          have He := Lib.hid he
          clear he
          have hV : V = false := by rw [HV.out]; simp [h0, h1, h2, h3]
          clear HV
          have HV := Lib.hid hV
          clear hV
          go_enter Try.func15, Try.ntmps15
          go_wp2_with fail
          (with_reducible refine (He.out).mono ?_)
          rintro en w' ⟨rfl, q, rfl⟩
          go_wp2
          go_ret
          exact ⟨ret_bool HV.out.symm, below_drewN Hb.out q⟩
        | true =>
          rw [h3] at he
          have He := Lib.hid he
          clear he
          cases h4 : (x4 == y4) with
          | false =>
            have hV : V = false := by rw [HV.out]; simp [h0, h1, h2, h3, h4]
            clear HV
            have HV := Lib.hid hV
            clear hV
            go_enter Try.func15, Try.ntmps15
            go_wp2_with fail
            (with_reducible refine (He.out).mono ?_)
            rintro en w' ⟨rfl, q, rfl⟩
            go_wp2
            go_ret
            exact ⟨ret_bool HV.out.symm, below_drewN Hb.out q⟩
          | true =>
            cases h5 : (x5 == y5) with
            | false =>
              have hV : V = false := by rw [HV.out]; simp [h0, h1, h2, h3, h4, h5]
              clear HV
              have HV := Lib.hid hV
              clear hV
              go_enter Try.func15, Try.ntmps15
              go_wp2_with fail
              (with_reducible refine (He.out).mono ?_)
              rintro en w' ⟨rfl, q, rfl⟩
              go_wp2
              go_ret
              exact ⟨ret_bool HV.out.symm, below_drewN Hb.out q⟩
            | true =>
              cases h6 : (x6 == y6) with
              | false =>
                have hV : V = false := by rw [HV.out]; simp [h0, h1, h2, h3, h4, h5, h6]
                clear HV
                have HV := Lib.hid hV
                clear hV
                go_enter Try.func15, Try.ntmps15
                go_wp2_with fail
                (with_reducible refine (He.out).mono ?_)
                rintro en w' ⟨rfl, q, rfl⟩
                go_wp2
                go_ret
                exact ⟨ret_bool HV.out.symm, below_drewN Hb.out q⟩
              | true =>
                have hV : V = true := by rw [HV.out]; simp [h0, h1, h2, h3, h4, h5, h6]
                clear HV
                have HV := Lib.hid hV
                clear hV
                go_enter Try.func15, Try.ntmps15
                go_wp2_with fail
                (with_reducible refine (He.out).mono ?_)
                rintro en w' ⟨rfl, q, rfl⟩
                go_wp2
                go_ret
                exact ⟨ret_bool HV.out.symm, below_drewN Hb.out q⟩
end Go.Proofs.Ytimepplfaaddeaa
