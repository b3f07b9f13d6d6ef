/- Contracts and plain lemmas: PktSame, OptRSame, OptSameA, PktSameA. -/
import Derived.Deep.MidRow
import Derived.Laws.Strings
import Derived.Test.YtengegcnocdkoaaRc15
import Derived.Test.YtengegcnocdkoaaRc5
import Derived.Test.YtengegcnocdkoaaRc11
set_option linter.unusedVariables false
set_option linter.unusedSimpArgs false
set_option linter.unusedSectionVars false
section
namespace Go.Proofs.Ytengegcnocdkoaa
open Go.RowKit Go.BigFrame
theorem eql_addr (a b c d : Int) (W : World) : (binOp .eql 25 (.agg #[.int .u32 a, .int .u16 b]) (.agg #[.int .u32 c, .int .u16 d])).run Try.prog W = .ok (.bool (decide (a = c) && decide (b = d))) W := by
  by_cases h1 : a = c
  · subst h1
    by_cases h2 : b = d
    · subst h2
      rw [decide_eq_true (rfl : a = a), decide_eq_true (rfl : b = b)]
      go_simp
    · have h3 : (b == d) = false := by simpa using h2
      rw [decide_eq_true (rfl : a = a), decide_eq_false h2]
      go_simp
  · have h3 : (a == c) = false := by simpa using h1
    rw [decide_eq_false h1]
    go_simp
set_option maxRecDepth 100000 in
set_option maxHeartbeats 8000000 in
theorem psame_raw (w : World) (x0 y0 x1 y1 x2 y2 x3 y3 x4 y4 x5 y5 x6 y6 x7 y7 x8 y8 x9 y9 x13 y13 x14 y14 : Int) (x10 x12 y10 y12 : Bool) (A B : Option Addr) (c e : Nat) (l m : List (Int × Int)) (dx dy : ByteArray) (hl : BlR w A l) (hm : BlR w B m) (hn : l.length ≤ maxLen) (hn2 : m.length ≤ maxLen) :
    Calls Try.prog 15 #[.agg #[.int .u32 x0, .int .u16 x1, .int .u32 x2, .int .u16 x3, .int .u32 x4, .int .u32 x5, .int .u8 x6, .int .u16 x7, .int .u16 x8, .int .i64 x9, .bool x10, .slice A l.length c, .bool x12, .int .u32 x13, .int .u32 x14, .string dx], .agg #[.int .u32 y0, .int .u16 y1, .int .u32 y2, .int .u16 y3, .int .u32 y4, .int .u32 y5, .int .u8 y6, .int .u16 y7, .int .u16 y8, .int .i64 y9, .bool y10, .slice B m.length e, .bool y12, .int .u32 y13, .int .u32 y14, .string dy]] w fun en w' => en = .returned (.bool ((decide (x0 = y0) && decide (x1 = y1)) && ((decide (x2 = y2) && decide (x3 = y3)) && ((x4 == y4) && ((x5 == y5) && ((x6 == y6) && ((x7 == y7) && (((x8 == y8) && ((x9 == y9) && ((x10 == y10) && (decide (l = m) && ((x12 == y12) && ((x13 == y13) && (x14 == y14))))))) && ((dx.toList == dy.toList)))))))))) ∧ Below w.heap.size w w' := by
  have hb : Below w.heap.size w ((w.alloc (.cells #[.int .u32 x0, .int .u16 x1, .int .u32 x2, .int .u16 x3, .int .u32 x4, .int .u32 x5, .int .u8 x6, .int .u16 x7, .int .u16 x8, .int .i64 x9, .bool x10, .slice A l.length c, .bool x12, .int .u32 x13, .int .u32 x14, .string dx] 30)).alloc (.cells #[.int .u32 y0, .int .u16 y1, .int .u32 y2, .int .u16 y3, .int .u32 y4, .int .u32 y5, .int .u8 y6, .int .u16 y7, .int .u16 y8, .int .i64 y9, .bool y10, .slice B m.length e, .bool y12, .int .u32 y13, .int .u32 y14, .string dy] 30)) := ((Below.refl _ _).alloc (Nat.le_refl _) _).alloc (by simp) _
  have he := osame_raw ((w.alloc (.cells #[.int .u32 x0, .int .u16 x1, .int .u32 x2, .int .u16 x3, .int .u32 x4, .int .u32 x5, .int .u8 x6, .int .u16 x7, .int .u16 x8, .int .i64 x9, .bool x10, .slice A l.length c, .bool x12, .int .u32 x13, .int .u32 x14, .string dx] 30)).alloc (.cells #[.int .u32 y0, .int .u16 y1, .int .u32 y2, .int .u16 y3, .int .u32 y4, .int .u32 y5, .int .u8 y6, .int .u16 y7, .int .u16 y8, .int .i64 y9, .bool y10, .slice B m.length e, .bool y12, .int .u32 y13, .int .u32 y14, .string dy] 30)) x8 x9 x13 x14 y8 y9 y13 y14 x10 x12 y10 y12 A B c e l m (hl.below hb) (hm.below hb) hn hn2
  have ha := eql_addr x0 x1 y0 y1
  have hc := eql_addr x2 x3 y2 y3
  obtain ⟨os, hos⟩ : ∃ os, os = ((x8 == y8) && ((x9 == y9) && ((x10 == y10) && (decide (l = m) && ((x12 == y12) && ((x13 == y13) && (x14 == y14))))))) := ⟨_, rfl⟩
  obtain ⟨t0, ht0⟩ : ∃ t, t = (decide (x0 = y0) && decide (x1 = y1)) := ⟨_, rfl⟩
  obtain ⟨t1, ht1⟩ : ∃ t, t = (decide (x2 = y2) && decide (x3 = y3)) := ⟨_, rfl⟩
  rw [← hos] at he ⊢
  rw [← ht0] at ha ⊢
  rw [← ht1] at hc ⊢
  clear hos ht0 ht1
  obtain ⟨V, hV⟩ : ∃ V, V = (t0 && (t1 && ((x4 == y4) && ((x5 == y5) && ((x6 == y6) && ((x7 == y7) && (os && (dx.toList == dy.toList)))))))) := ⟨_, rfl⟩
  rw [← hV]
  have hp1 := (Blk.new w 30 #[.int .u32 x0, .int .u16 x1, .int .u32 x2, .int .u16 x3, .int .u32 x4, .int .u32 x5, .int .u8 x6, .int .u16 x7, .int .u16 x8, .int .i64 x9, .bool x10, .slice A l.length c, .bool x12, .int .u32 x13, .int .u32 x14, .string dx]).alloc (.cells #[.int .u32 y0, .int .u16 y1, .int .u32 y2, .int .u16 y3, .int .u32 y4, .int .u32 y5, .int .u8 y6, .int .u16 y7, .int .u16 y8, .int .i64 y9, .bool y10, .slice B m.length e, .bool y12, .int .u32 y13, .int .u32 y14, .string dy] 30)
  have hp2 := blk_newB w (.cells #[.int .u32 x0, .int .u16 x1, .int .u32 x2, .int .u16 x3, .int .u32 x4, .int .u32 x5, .int .u8 x6, .int .u16 x7, .int .u16 x8, .int .i64 x9, .bool x10, .slice A l.length c, .bool x12, .int .u32 x13, .int .u32 x14, .string dx] 30) 30 #[.int .u32 y0, .int .u16 y1, .int .u32 y2, .int .u16 y3, .int .u32 y4, .int .u32 y5, .int .u8 y6, .int .u16 y7, .int .u16 y8, .int .i64 y9, .bool y10, .slice B m.length e, .bool y12, .int .u32 y13, .int .u32 y14, .string dy]
  clear hn hn2
  have Hb := Lib.hid hb
  clear hb
  have HV := Lib.hid hV
  clear hV
  have Hl := Lib.hid hl
  clear hl
  have Hm := Lib.hid hm
  clear hm
  have Hp1 := Lib.hid hp1
  clear hp1
  have Hp2 := Lib.hid hp2
  clear hp2
  cases t0 with
  | false =>
    have hV : V = false := by rw [HV.out]; simp
    clear HV
    have HV := Lib.hid hV
    clear hV
    clear he
    go_enter Try.func15, Try.ntmps15
    go_wp2
    go_ret
    exact ⟨ret_bool HV.out.symm, Hb.out⟩
  | true =>
    cases t1 with
    | false =>
      have hV : V = false := by rw [HV.out]; simp
      clear HV
      have HV := Lib.hid hV
      clear hV
      clear he
      go_enter Try.func15, Try.ntmps15
      go_wp2
      go_ret
      exact ⟨ret_bool HV.out.symm, Hb.out⟩
    | true =>
      cases h2 : (x4 == y4) with
      | false =>
        have hV : V = false := by rw [HV.out]; simp [h2]
        clear HV
        have HV := Lib.hid hV
        clear hV
        clear he
        go_enter Try.func15, Try.ntmps15
        go_wp2
        go_ret
        exact ⟨ret_bool HV.out.symm, Hb.out⟩
      | true =>
        cases h3 : (x5 == y5) with
        | false =>
          have hV : V = false := by rw [HV.out]; simp [h2, h3]
          clear HV
          have HV := Lib.hid hV
          clear hV
          clear he
          go_enter Try.func15, Try.ntmps15
          go_wp2
          go_ret
          exact ⟨ret_bool HV.out.symm, Hb.out⟩
        | true =>
          cases h4 : (x6 == y6) with
          | false =>
            have hV : V = false := by rw [HV.out]; simp [h2, h3, h4]
            clear HV
            have HV := Lib.hid hV
            clear hV
            clear he
            go_enter Try.func15, Try.ntmps15
            go_wp2
            go_ret
            exact ⟨ret_bool HV.out.symm, Hb.out⟩
          | true =>
            cases h5 : (x7 == y7) with
            | false =>
              have hV : V = false := by rw [HV.out]; simp [h2, h3, h4, h5]
              clear HV
              have HV := Lib.hid hV
              clear hV
              clear he
              go_enter Try.func15, Try.ntmps15
              go_wp2
              go_ret
              exact ⟨ret_bool HV.out.symm, Hb.out⟩
            | true =>
              cases os with
              | false =>
                have hV : V = false := by rw [HV.out]; simp [h2, h3, h4, h5]
                clear HV
                have HV := Lib.hid hV
                clear hV
                have He := Lib.hid he
                clear he
                go_enter Try.func15, Try.ntmps15
                go_wp2_with fail
                (with_reducible refine (He.out).mono ?_)
                rintro en w' ⟨rfl, hbq⟩
                have hq1 := Hp1.out.below hbq Hp1.out.lt
                have hq2 := Hp2.out.below hbq Hp2.out.lt
                have z1 := hq1.cell 15
                have z2 := hq2.cell 15
                have zl1 := hq1.lt
                have zl2 := hq2.lt
                simp at z1 z2
                clear hq1 hq2
                have hbz := Hb.out.trans (hbq.mono Hb.out.size)
                clear hbq
                have Hbz := Lib.hid hbz
                clear hbz
                go_wp2
                go_ret
                exact ⟨ret_bool HV.out.symm, Hbz.out⟩
              | true =>
                cases h7 : (dx.toList == dy.toList) with
                | false =>
                  have hV : V = false := by rw [HV.out]; simp [h2, h3, h4, h5, h7]
                  clear HV
                  have HV := Lib.hid hV
                  clear hV
                  have He := Lib.hid he
                  clear he
                  go_enter Try.func15, Try.ntmps15
                  go_wp2_with fail
                  (with_reducible refine (He.out).mono ?_)
                  rintro en w' ⟨rfl, hbq⟩
                  have hq1 := Hp1.out.below hbq Hp1.out.lt
                  have hq2 := Hp2.out.below hbq Hp2.out.lt
                  have z1 := hq1.cell 15
                  have z2 := hq2.cell 15
                  have zl1 := hq1.lt
                  have zl2 := hq2.lt
                  simp at z1 z2
                  clear hq1 hq2
                  have hbz := Hb.out.trans (hbq.mono Hb.out.size)
                  clear hbq
                  have Hbz := Lib.hid hbz
                  clear hbz
                  go_wp2
                  go_ret
                  exact ⟨ret_bool HV.out.symm, Hbz.out⟩
                | true =>
                  have hV : V = true := by rw [HV.out]; simp [h2, h3, h4, h5, h7]
                  clear HV
                  have HV := Lib.hid hV
                  clear hV
                  have He := Lib.hid he
                  clear he
                  go_enter Try.func15, Try.ntmps15
                  go_wp2_with fail
                  (with_reducible refine (He.out).mono ?_)
                  rintro en w' ⟨rfl, hbq⟩
                  have hq1 := Hp1.out.below hbq Hp1.out.lt
                  have hq2 := Hp2.out.below hbq Hp2.out.lt
                  have z1 := hq1.cell 15
                  have z2 := hq2.cell 15
                  have zl1 := hq1.lt
                  have zl2 := hq2.lt
                  simp at z1 z2
                  clear hq1 hq2
                  have hbz := Hb.out.trans (hbq.mono Hb.out.size)
                  clear hbq
                  have Hbz := Lib.hid hbz
                  clear hbz
                  go_wp2
                  go_ret
                  exact ⟨ret_bool HV.out.symm, Hbz.out⟩
end Go.Proofs.Ytengegcnocdkoaa
end
section
namespace Go.Proofs.Ytengegcnocdkoaa
open Go.RowKit Go.BigFrame
set_option maxRecDepth 100000 in
set_option maxHeartbeats 8000000 in
theorem rsame_raw (w : World) (x0 x1 x5 x6 y0 y1 y5 y6 : Int) (x2 x4 y2 y4 : Bool) (A B : Option Addr) (c e : Nat) (l m : List (Int × Int)) (hl : BlR w A l) (hm : BlR w B m) (hn : l.length ≤ maxLen) (hn2 : m.length ≤ maxLen) :
    Calls Try.prog 38 #[.agg #[.int .u16 x0, .int .i64 x1, .bool x2, .slice A l.length c, .bool x4, .int .u32 x5, .int .u32 x6], .agg #[.int .u16 y0, .int .i64 y1, .bool y2, .slice B m.length e, .bool y4, .int .u32 y5, .int .u32 y6]] w fun en w' => en = .returned (.bool ((x0 == y0) && ((x1 == y1) && ((x2 == y2) && (decide (l = m) && ((x4 == y4) && ((x5 == y5) && (x6 == y6)))))))) ∧ Below w.heap.size w w' := by
  obtain ⟨V, hV⟩ : ∃ V, V = ((x0 == y0) && ((x1 == y1) && ((x2 == y2) && (decide (l = m) && ((x4 == y4) && ((x5 == y5) && (x6 == y6))))))) := ⟨_, rfl⟩
  rw [← hV]
  have hb0 : Below w.heap.size w w := Below.refl _ _
  have HB := Lib.hid hb0
  obtain ⟨n, hln⟩ : ∃ n, n = l.length := ⟨_, rfl⟩
  obtain ⟨p, hmp⟩ : ∃ p, p = m.length := ⟨_, rfl⟩
  rw [← hln, ← hmp]
  rw [← hln] at hn
  rw [← hmp] at hn2
  unfold maxLen at hn hn2
  clear hb0
  have HV := Lib.hid hV
  clear hV
  by_cases g0 : x0 = y0
  case neg =>
    have t0 : (x0 != y0) = true := by simpa using g0
    have hV : V = false := by rw [HV.out]; simp [g0]
    clear HV
    have HV := Lib.hid hV
    clear hV
    clear hl hm hn hn2 g0 hln hmp
    go_enter Try.func38, Try.ntmps38
    go_upto_region 1 with fail
    have ha := Blk.alloc (Blk.new w 28 #[.int .u16 x0, .int .i64 x1, .bool x2, .slice A n c, .bool x4, .int .u32 x5, .int .u32 x6]) (.cells #[.int .u16 y0, .int .i64 y1, .bool y2, .slice B p e, .bool y4, .int .u32 y5, .int .u32 y6] 28)
    have hb := Blk.new (w.alloc (.cells #[.int .u16 x0, .int .i64 x1, .bool x2, .slice A n c, .bool x4, .int .u32 x5, .int .u32 x6] 28)) 28 #[.int .u16 y0, .int .i64 y1, .bool y2, .slice B p e, .bool y4, .int .u32 y5, .int .u32 y6]
    rw [show (w.alloc (.cells #[.int .u16 x0, .int .i64 x1, .bool x2, .slice A n c, .bool x4, .int .u32 x5, .int .u32 x6] 28)).heap.size = w.heap.size + 1 by simp] at hb
    have hB := Below.alloc (Below.alloc (HB.out) (Nat.le_trans HB.out.size (by simp <;> omega)) (.cells #[.int .u16 x0, .int .i64 x1, .bool x2, .slice A n c, .bool x4, .int .u32 x5, .int .u32 x6] 28)) (Nat.le_trans HB.out.size (by simp <;> omega)) (.cells #[.int .u16 y0, .int .i64 y1, .bool y2, .slice B p e, .bool y4, .int .u32 y5, .int .u32 y6] 28)
    clear HB
    obtain ⟨gb, hgeb⟩ : ∃ g, g = w.heap.size + 1 := ⟨_, rfl⟩
    rw [← hgeb] at hb ⊢
    obtain ⟨ga, hgea⟩ : ∃ g, g = w.heap.size := ⟨_, rfl⟩
    rw [← hgea] at ha ⊢
    have hne_a_b : ga ≠ gb := by omega
    have hle_a : w.heap.size ≤ ga := by omega
    have hle_b : w.heap.size ≤ gb := by omega
    clear hgea hgeb
    generalize (w.alloc _).alloc _ = wn1 at *
    have Ha := Lib.hid ha
    clear ha
    have Hb := Lib.hid hb
    clear hb
    have HB := Lib.hid hB
    clear hB
    have c0 := Ha.out.cell 0
    have c1 := Ha.out.cell 1
    have c2 := Ha.out.cell 2
    have c3 := Ha.out.cell 3
    have c4 := Ha.out.cell 4
    have c5 := Ha.out.cell 5
    have c6 := Ha.out.cell 6
    simp at c0 c1 c2 c3 c4 c5 c6
    have d0 := Hb.out.cell 0
    have d1 := Hb.out.cell 1
    have d2 := Hb.out.cell 2
    have d3 := Hb.out.cell 3
    have d4 := Hb.out.cell 4
    have d5 := Hb.out.cell 5
    have d6 := Hb.out.cell 6
    simp at d0 d1 d2 d3 d4 d5 d6
    go_wp2
    go_ret
    exact ⟨ret_bool HV.out.symm, HB.out⟩
  have t0 : (x0 != y0) = false := by simpa using g0
  by_cases g1 : x1 = y1
  case neg =>
    have t1 : (x1 != y1) = true := by simpa using g1
    have hV : V = false := by rw [HV.out]; simp [g1]
    clear HV
    have HV := Lib.hid hV
    clear hV
    clear hl hm hn hn2 g0 g1 hln hmp
    go_enter Try.func38, Try.ntmps38
    go_upto_region 1 with fail
    have ha := Blk.alloc (Blk.new w 28 #[.int .u16 x0, .int .i64 x1, .bool x2, .slice A n c, .bool x4, .int .u32 x5, .int .u32 x6]) (.cells #[.int .u16 y0, .int .i64 y1, .bool y2, .slice B p e, .bool y4, .int .u32 y5, .int .u32 y6] 28)
    have hb := Blk.new (w.alloc (.cells #[.int .u16 x0, .int .i64 x1, .bool x2, .slice A n c, .bool x4, .int .u32 x5, .int .u32 x6] 28)) 28 #[.int .u16 y0, .int .i64 y1, .bool y2, .slice B p e, .bool y4, .int .u32 y5, .int .u32 y6]
    rw [show (w.alloc (.cells #[.int .u16 x0, .int .i64 x1, .bool x2, .slice A n c, .bool x4, .int .u32 x5, .int .u32 x6] 28)).heap.size = w.heap.size + 1 by simp] at hb
    have hB := Below.alloc (Below.alloc (HB.out) (Nat.le_trans HB.out.size (by simp <;> omega)) (.cells #[.int .u16 x0, .int .i64 x1, .bool x2, .slice A n c, .bool x4, .int .u32 x5, .int .u32 x6] 28)) (Nat.le_trans HB.out.size (by simp <;> omega)) (.cells #[.int .u16 y0, .int .i64 y1, .bool y2, .slice B p e, .bool y4, .int .u32 y5, .int .u32 y6] 28)
    clear HB
    obtain ⟨gb, hgeb⟩ : ∃ g, g = w.heap.size + 1 := ⟨_, rfl⟩
    rw [← hgeb] at hb ⊢
    obtain ⟨ga, hgea⟩ : ∃ g, g = w.heap.size := ⟨_, rfl⟩
    rw [← hgea] at ha ⊢
    have hne_a_b : ga ≠ gb := by omega
    have hle_a : w.heap.size ≤ ga := by omega
    have hle_b : w.heap.size ≤ gb := by omega
    clear hgea hgeb
    generalize (w.alloc _).alloc _ = wn2 at *
    have Ha := Lib.hid ha
    clear ha
    have Hb := Lib.hid hb
    clear hb
    have HB := Lib.hid hB
    clear hB
    have c0 := Ha.out.cell 0
    have c1 := Ha.out.cell 1
    have c2 := Ha.out.cell 2
    have c3 := Ha.out.cell 3
    have c4 := Ha.out.cell 4
    have c5 := Ha.out.cell 5
    have c6 := Ha.out.cell 6
    simp at c0 c1 c2 c3 c4 c5 c6
    have d0 := Hb.out.cell 0
    have d1 := Hb.out.cell 1
    have d2 := Hb.out.cell 2
    have d3 := Hb.out.cell 3
    have d4 := Hb.out.cell 4
    have d5 := Hb.out.cell 5
    have d6 := Hb.out.cell 6
    simp at d0 d1 d2 d3 d4 d5 d6
    go_wp2
    go_ret
    exact ⟨ret_bool HV.out.symm, HB.out⟩
  have t1 : (x1 != y1) = false := by simpa using g1
  by_cases g2 : x2 = y2
  case neg =>
    have t2 : (x2 != y2) = true := by simpa using g2
    have hV : V = false := by rw [HV.out]; simp [g2]
    clear HV
    have HV := Lib.hid hV
    clear hV
    clear hl hm hn hn2 g0 g1 hln hmp
    go_enter Try.func38, Try.ntmps38
    go_upto_region 1 with fail
    have ha := Blk.alloc (Blk.new w 28 #[.int .u16 x0, .int .i64 x1, .bool x2, .slice A n c, .bool x4, .int .u32 x5, .int .u32 x6]) (.cells #[.int .u16 y0, .int .i64 y1, .bool y2, .slice B p e, .bool y4, .int .u32 y5, .int .u32 y6] 28)
    have hb := Blk.new (w.alloc (.cells #[.int .u16 x0, .int .i64 x1, .bool x2, .slice A n c, .bool x4, .int .u32 x5, .int .u32 x6] 28)) 28 #[.int .u16 y0, .int .i64 y1, .bool y2, .slice B p e, .bool y4, .int .u32 y5, .int .u32 y6]
    rw [show (w.alloc (.cells #[.int .u16 x0, .int .i64 x1, .bool x2, .slice A n c, .bool x4, .int .u32 x5, .int .u32 x6] 28)).heap.size = w.heap.size + 1 by simp] at hb
    have hB := Below.alloc (Below.alloc (HB.out) (Nat.le_trans HB.out.size (by simp <;> omega)) (.cells #[.int .u16 x0, .int .i64 x1, .bool x2, .slice A n c, .bool x4, .int .u32 x5, .int .u32 x6] 28)) (Nat.le_trans HB.out.size (by simp <;> omega)) (.cells #[.int .u16 y0, .int .i64 y1, .bool y2, .slice B p e, .bool y4, .int .u32 y5, .int .u32 y6] 28)
    clear HB
    obtain ⟨gb, hgeb⟩ : ∃ g, g = w.heap.size + 1 := ⟨_, rfl⟩
    rw [← hgeb] at hb ⊢
    obtain ⟨ga, hgea⟩ : ∃ g, g = w.heap.size := ⟨_, rfl⟩
    rw [← hgea] at ha ⊢
    have hne_a_b : ga ≠ gb := by omega
    have hle_a : w.heap.size ≤ ga := by omega
    have hle_b : w.heap.size ≤ gb := by omega
    clear hgea hgeb
    generalize (w.alloc _).alloc _ = wn3 at *
    have Ha := Lib.hid ha
    clear ha
    have Hb := Lib.hid hb
    clear hb
    have HB := Lib.hid hB
    clear hB
    have c0 := Ha.out.cell 0
    have c1 := Ha.out.cell 1
    have c2 := Ha.out.cell 2
    have c3 := Ha.out.cell 3
    have c4 := Ha.out.cell 4
    have c5 := Ha.out.cell 5
    have c6 := Ha.out.cell 6
    simp at c0 c1 c2 c3 c4 c5 c6
    have d0 := Hb.out.cell 0
    have d1 := Hb.out.cell 1
    have d2 := Hb.out.cell 2
    have d3 := Hb.out.cell 3
    have d4 := Hb.out.cell 4
    have d5 := Hb.out.cell 5
    have d6 := Hb.out.cell 6
    simp at d0 d1 d2 d3 d4 d5 d6
    go_wp2
    go_ret
    exact ⟨ret_bool HV.out.symm, HB.out⟩
  subst g2
  by_cases g3 : x4 = y4
  case neg =>
    have t3 : (x4 != y4) = true := by simpa using g3
    have hV : V = false := by rw [HV.out]; simp [g3]
    clear HV
    have HV := Lib.hid hV
    clear hV
    clear hl hm hn hn2 g0 g1 hln hmp
    go_enter Try.func38, Try.ntmps38
    go_upto_region 1 with fail
    have ha := Blk.alloc (Blk.new w 28 #[.int .u16 x0, .int .i64 x1, .bool x2, .slice A n c, .bool x4, .int .u32 x5, .int .u32 x6]) (.cells #[.int .u16 y0, .int .i64 y1, .bool x2, .slice B p e, .bool y4, .int .u32 y5, .int .u32 y6] 28)
    have hb := Blk.new (w.alloc (.cells #[.int .u16 x0, .int .i64 x1, .bool x2, .slice A n c, .bool x4, .int .u32 x5, .int .u32 x6] 28)) 28 #[.int .u16 y0, .int .i64 y1, .bool x2, .slice B p e, .bool y4, .int .u32 y5, .int .u32 y6]
    rw [show (w.alloc (.cells #[.int .u16 x0, .int .i64 x1, .bool x2, .slice A n c, .bool x4, .int .u32 x5, .int .u32 x6] 28)).heap.size = w.heap.size + 1 by simp] at hb
    have hB := Below.alloc (Below.alloc (HB.out) (Nat.le_trans HB.out.size (by simp <;> omega)) (.cells #[.int .u16 x0, .int .i64 x1, .bool x2, .slice A n c, .bool x4, .int .u32 x5, .int .u32 x6] 28)) (Nat.le_trans HB.out.size (by simp <;> omega)) (.cells #[.int .u16 y0, .int .i64 y1, .bool x2, .slice B p e, .bool y4, .int .u32 y5, .int .u32 y6] 28)
    clear HB
    obtain ⟨gb, hgeb⟩ : ∃ g, g = w.heap.size + 1 := ⟨_, rfl⟩
    rw [← hgeb] at hb ⊢
    obtain ⟨ga, hgea⟩ : ∃ g, g = w.heap.size := ⟨_, rfl⟩
    rw [← hgea] at ha ⊢
    have hne_a_b : ga ≠ gb := by omega
    have hle_a : w.heap.size ≤ ga := by omega
    have hle_b : w.heap.size ≤ gb := by omega
    clear hgea hgeb
    generalize (w.alloc _).alloc _ = wn4 at *
    have Ha := Lib.hid ha
    clear ha
    have Hb := Lib.hid hb
    clear hb
    have HB := Lib.hid hB
    clear hB
    have c0 := Ha.out.cell 0
    have c1 := Ha.out.cell 1
    have c2 := Ha.out.cell 2
    have c3 := Ha.out.cell 3
    have c4 := Ha.out.cell 4
    have c5 := Ha.out.cell 5
    have c6 := Ha.out.cell 6
    simp at c0 c1 c2 c3 c4 c5 c6
    have d0 := Hb.out.cell 0
    have d1 := Hb.out.cell 1
    have d2 := Hb.out.cell 2
    have d3 := Hb.out.cell 3
    have d4 := Hb.out.cell 4
    have d5 := Hb.out.cell 5
    have d6 := Hb.out.cell 6
    simp at d0 d1 d2 d3 d4 d5 d6
    go_wp2
    go_ret
    exact ⟨ret_bool HV.out.symm, HB.out⟩
  subst g3
  by_cases g4 : x5 = y5
  case neg =>
    have t4 : (x5 != y5) = true := by simpa using g4
    have hV : V = false := by rw [HV.out]; simp [g4]
    clear HV
    have HV := Lib.hid hV
    clear hV
    clear hl hm hn hn2 g0 g1 g4 hln hmp
    go_enter Try.func38, Try.ntmps38
    go_upto_region 1 with fail
    have ha := Blk.alloc (Blk.new w 28 #[.int .u16 x0, .int .i64 x1, .bool x2, .slice A n c, .bool x4, .int .u32 x5, .int .u32 x6]) (.cells #[.int .u16 y0, .int .i64 y1, .bool x2, .slice B p e, .bool x4, .int .u32 y5, .int .u32 y6] 28)
    have hb := Blk.new (w.alloc (.cells #[.int .u16 x0, .int .i64 x1, .bool x2, .slice A n c, .bool x4, .int .u32 x5, .int .u32 x6] 28)) 28 #[.int .u16 y0, .int .i64 y1, .bool x2, .slice B p e, .bool x4, .int .u32 y5, .int .u32 y6]
    rw [show (w.alloc (.cells #[.int .u16 x0, .int .i64 x1, .bool x2, .slice A n c, .bool x4, .int .u32 x5, .int .u32 x6] 28)).heap.size = w.heap.size + 1 by simp] at hb
    have hB := Below.alloc (Below.alloc (HB.out) (Nat.le_trans HB.out.size (by simp <;> omega)) (.cells #[.int .u16 x0, .int .i64 x1, .bool x2, .slice A n c, .bool x4, .int .u32 x5, .int .u32 x6] 28)) (Nat.le_trans HB.out.size (by simp <;> omega)) (.cells #[.int .u16 y0, .int .i64 y1, .bool x2, .slice B p e, .bool x4, .int .u32 y5, .int .u32 y6] 28)
    clear HB
    obtain ⟨gb, hgeb⟩ : ∃ g, g = w.heap.size + 1 := ⟨_, rfl⟩
    rw [← hgeb] at hb ⊢
    obtain ⟨ga, hgea⟩ : ∃ g, g = w.heap.size := ⟨_, rfl⟩
    rw [← hgea] at ha ⊢
    have hne_a_b : ga ≠ gb := by omega
    have hle_a : w.heap.size ≤ ga := by omega
    have hle_b : w.heap.size ≤ gb := by omega
    clear hgea hgeb
    generalize (w.alloc _).alloc _ = wn5 at *
    have Ha := Lib.hid ha
    clear ha
    have Hb := Lib.hid hb
    clear hb
    have HB := Lib.hid hB
    clear hB
    have c0 := Ha.out.cell 0
    have c1 := Ha.out.cell 1
    have c2 := Ha.out.cell 2
    have c3 := Ha.out.cell 3
    have c4 := Ha.out.cell 4
    have c5 := Ha.out.cell 5
    have c6 := Ha.out.cell 6
    simp at c0 c1 c2 c3 c4 c5 c6
    have d0 := Hb.out.cell 0
    have d1 := Hb.out.cell 1
    have d2 := Hb.out.cell 2
    have d3 := Hb.out.cell 3
    have d4 := Hb.out.cell 4
    have d5 := Hb.out.cell 5
    have d6 := Hb.out.cell 6
    simp at d0 d1 d2 d3 d4 d5 d6
    go_wp2
    go_ret
    exact ⟨ret_bool HV.out.symm, HB.out⟩
  have t4 : (x5 != y5) = false := by simpa using g4
  by_cases g5 : x6 = y6
  case neg =>
    have t5 : (x6 != y6) = true := by simpa using g5
    have hV : V = false := by rw [HV.out]; simp [g5]
    clear HV
    have HV := Lib.hid hV
    clear hV
    clear hl hm hn hn2 g0 g1 g4 g5 hln hmp
    go_enter Try.func38, Try.ntmps38
    go_upto_region 1 with fail
    have ha := Blk.alloc (Blk.new w 28 #[.int .u16 x0, .int .i64 x1, .bool x2, .slice A n c, .bool x4, .int .u32 x5, .int .u32 x6]) (.cells #[.int .u16 y0, .int .i64 y1, .bool x2, .slice B p e, .bool x4, .int .u32 y5, .int .u32 y6] 28)
    have hb := Blk.new (w.alloc (.cells #[.int .u16 x0, .int .i64 x1, .bool x2, .slice A n c, .bool x4, .int .u32 x5, .int .u32 x6] 28)) 28 #[.int .u16 y0, .int .i64 y1, .bool x2, .slice B p e, .bool x4, .int .u32 y5, .int .u32 y6]
    rw [show (w.alloc (.cells #[.int .u16 x0, .int .i64 x1, .bool x2, .slice A n c, .bool x4, .int .u32 x5, .int .u32 x6] 28)).heap.size = w.heap.size + 1 by simp] at hb
    have hB := Below.alloc (Below.alloc (HB.out) (Nat.le_trans HB.out.size (by simp <;> omega)) (.cells #[.int .u16 x0, .int .i64 x1, .bool x2, .slice A n c, .bool x4, .int .u32 x5, .int .u32 x6] 28)) (Nat.le_trans HB.out.size (by simp <;> omega)) (.cells #[.int .u16 y0, .int .i64 y1, .bool x2, .slice B p e, .bool x4, .int .u32 y5, .int .u32 y6] 28)
    clear HB
    obtain ⟨gb, hgeb⟩ : ∃ g, g = w.heap.size + 1 := ⟨_, rfl⟩
    rw [← hgeb] at hb ⊢
    obtain ⟨ga, hgea⟩ : ∃ g, g = w.heap.size := ⟨_, rfl⟩
    rw [← hgea] at ha ⊢
    have hne_a_b : ga ≠ gb := by omega
    have hle_a : w.heap.size ≤ ga := by omega
    have hle_b : w.heap.size ≤ gb := by omega
    clear hgea hgeb
    generalize (w.alloc _).alloc _ = wn6 at *
    have Ha := Lib.hid ha
    clear ha
    have Hb := Lib.hid hb
    clear hb
    have HB := Lib.hid hB
    clear hB
    have c0 := Ha.out.cell 0
    have c1 := Ha.out.cell 1
    have c2 := Ha.out.cell 2
    have c3 := Ha.out.cell 3
    have c4 := Ha.out.cell 4
    have c5 := Ha.out.cell 5
    have c6 := Ha.out.cell 6
    simp at c0 c1 c2 c3 c4 c5 c6
    have d0 := Hb.out.cell 0
    have d1 := Hb.out.cell 1
    have d2 := Hb.out.cell 2
    have d3 := Hb.out.cell 3
    have d4 := Hb.out.cell 4
    have d5 := Hb.out.cell 5
    have d6 := Hb.out.cell 6
    simp at d0 d1 d2 d3 d4 d5 d6
    go_wp2
    go_ret
    exact ⟨ret_bool HV.out.symm, HB.out⟩
  have t5 : (x6 != y6) = false := by simpa using g5
  by_cases hnp : n = p
  case neg =>
    have tl : ((n : Int) != (p : Int)) = true := by simp; omega
    have hlm : l ≠ m := fun h => hnp (by rw [hln, hmp, h])
    have hV : V = false := by rw [HV.out]; simp [hlm]
    clear HV
    have HV := Lib.hid hV
    clear hV
    clear hl hm hn hn2 g0 g1 g4 g5 hln hmp hnp hlm
    go_enter Try.func38, Try.ntmps38
    go_upto_region 1 with fail
    have ha := Blk.alloc (Blk.new w 28 #[.int .u16 x0, .int .i64 x1, .bool x2, .slice A n c, .bool x4, .int .u32 x5, .int .u32 x6]) (.cells #[.int .u16 y0, .int .i64 y1, .bool x2, .slice B p e, .bool x4, .int .u32 y5, .int .u32 y6] 28)
    have hb := Blk.new (w.alloc (.cells #[.int .u16 x0, .int .i64 x1, .bool x2, .slice A n c, .bool x4, .int .u32 x5, .int .u32 x6] 28)) 28 #[.int .u16 y0, .int .i64 y1, .bool x2, .slice B p e, .bool x4, .int .u32 y5, .int .u32 y6]
    rw [show (w.alloc (.cells #[.int .u16 x0, .int .i64 x1, .bool x2, .slice A n c, .bool x4, .int .u32 x5, .int .u32 x6] 28)).heap.size = w.heap.size + 1 by simp] at hb
    have hB := Below.alloc (Below.alloc (HB.out) (Nat.le_trans HB.out.size (by simp <;> omega)) (.cells #[.int .u16 x0, .int .i64 x1, .bool x2, .slice A n c, .bool x4, .int .u32 x5, .int .u32 x6] 28)) (Nat.le_trans HB.out.size (by simp <;> omega)) (.cells #[.int .u16 y0, .int .i64 y1, .bool x2, .slice B p e, .bool x4, .int .u32 y5, .int .u32 y6] 28)
    clear HB
    obtain ⟨gb, hgeb⟩ : ∃ g, g = w.heap.size + 1 := ⟨_, rfl⟩
    rw [← hgeb] at hb ⊢
    obtain ⟨ga, hgea⟩ : ∃ g, g = w.heap.size := ⟨_, rfl⟩
    rw [← hgea] at ha ⊢
    have hne_a_b : ga ≠ gb := by omega
    have hle_a : w.heap.size ≤ ga := by omega
    have hle_b : w.heap.size ≤ gb := by omega
    clear hgea hgeb
    generalize (w.alloc _).alloc _ = wn7 at *
    have Ha := Lib.hid ha
    clear ha
    have Hb := Lib.hid hb
    clear hb
    have HB := Lib.hid hB
    clear hB
    have c0 := Ha.out.cell 0
    have c1 := Ha.out.cell 1
    have c2 := Ha.out.cell 2
    have c3 := Ha.out.cell 3
    have c4 := Ha.out.cell 4
    have c5 := Ha.out.cell 5
    have c6 := Ha.out.cell 6
    simp at c0 c1 c2 c3 c4 c5 c6
    have d0 := Hb.out.cell 0
    have d1 := Hb.out.cell 1
    have d2 := Hb.out.cell 2
    have d3 := Hb.out.cell 3
    have d4 := Hb.out.cell 4
    have d5 := Hb.out.cell 5
    have d6 := Hb.out.cell 6
    simp at d0 d1 d2 d3 d4 d5 d6
    go_wp2
    go_ret
    exact ⟨ret_bool HV.out.symm, HB.out⟩
  subst hnp
  have tl : ((n : Int) != (n : Int)) = false := by simp
  have hV : V = decide (l = m) := by rw [HV.out]; simp [g0, g1, g4, g5]
  clear HV g0 g1 g4 g5
  have HV := Lib.hid hV
  clear hV
  have Hl := Lib.hid hl
  clear hl
  have Hm := Lib.hid hm
  clear hm
  have Hln := Lib.hid hln
  clear hln
  have Hmp := Lib.hid hmp
  clear hmp
  go_enter Try.func38, Try.ntmps38
  go_upto_region 1 with fail
  have ha := Blk.alloc (Blk.new w 28 #[.int .u16 x0, .int .i64 x1, .bool x2, .slice A n c, .bool x4, .int .u32 x5, .int .u32 x6]) (.cells #[.int .u16 y0, .int .i64 y1, .bool x2, .slice B n e, .bool x4, .int .u32 y5, .int .u32 y6] 28)
  have hb := Blk.new (w.alloc (.cells #[.int .u16 x0, .int .i64 x1, .bool x2, .slice A n c, .bool x4, .int .u32 x5, .int .u32 x6] 28)) 28 #[.int .u16 y0, .int .i64 y1, .bool x2, .slice B n e, .bool x4, .int .u32 y5, .int .u32 y6]
  rw [show (w.alloc (.cells #[.int .u16 x0, .int .i64 x1, .bool x2, .slice A n c, .bool x4, .int .u32 x5, .int .u32 x6] 28)).heap.size = w.heap.size + 1 by simp] at hb
  have hB := Below.alloc (Below.alloc (HB.out) (Nat.le_trans HB.out.size (by simp <;> omega)) (.cells #[.int .u16 x0, .int .i64 x1, .bool x2, .slice A n c, .bool x4, .int .u32 x5, .int .u32 x6] 28)) (Nat.le_trans HB.out.size (by simp <;> omega)) (.cells #[.int .u16 y0, .int .i64 y1, .bool x2, .slice B n e, .bool x4, .int .u32 y5, .int .u32 y6] 28)
  clear HB
  obtain ⟨gb, hgeb⟩ : ∃ g, g = w.heap.size + 1 := ⟨_, rfl⟩
  rw [← hgeb] at hb ⊢
  obtain ⟨ga, hgea⟩ : ∃ g, g = w.heap.size := ⟨_, rfl⟩
  rw [← hgea] at ha ⊢
  have hne_a_b : ga ≠ gb := by omega
  have hle_a : w.heap.size ≤ ga := by omega
  have hle_b : w.heap.size ≤ gb := by omega
  clear hgea hgeb
  generalize (w.alloc _).alloc _ = wn8 at *
  have Ha := Lib.hid ha
  clear ha
  have Hb := Lib.hid hb
  clear hb
  have HB := Lib.hid hB
  clear hB
  have c0 := Ha.out.cell 0
  have c1 := Ha.out.cell 1
  have c2 := Ha.out.cell 2
  have c3 := Ha.out.cell 3
  have c4 := Ha.out.cell 4
  have c5 := Ha.out.cell 5
  have c6 := Ha.out.cell 6
  simp at c0 c1 c2 c3 c4 c5 c6
  have d0 := Hb.out.cell 0
  have d1 := Hb.out.cell 1
  have d2 := Hb.out.cell 2
  have d3 := Hb.out.cell 3
  have d4 := Hb.out.cell 4
  have d5 := Hb.out.cell 5
  have d6 := Hb.out.cell 6
  simp at d0 d1 d2 d3 d4 d5 d6
  go_wp2_with fail
  clear c0 c1 c2 c3 c4 c5 c6
  clear d0 d1 d2 d3 d4 d5 d6
  go_loopw [5] (fun i wr => ∃ k : Nat, i = .int .i64 (k : Int) ∧ k ≤ n ∧ l.take k = m.take k ∧ Below w.heap.size w wr ∧ Blk wr ga 28 #[.int .u16 x0, .int .i64 x1, .bool x2, .slice A n c, .bool x4, .int .u32 x5, .int .u32 x6] ∧ Blk wr gb 28 #[.int .u16 y0, .int .i64 y1, .bool x2, .slice B n e, .bool x4, .int .u32 y5, .int .u32 y6]) (fun i _ => n - (intOf i).toNat)
  case atStart => exact ⟨0, rfl, Nat.zero_le _, rfl, HB.out, Ha.out, Hb.out⟩
  case round =>
    clear HB Ha Hb
    obtain ⟨k, rfl, hk, htk, hB, ha, hb⟩ := hrel
    have c3 := ha.cell 3
    simp at c3
    by_cases h1 : k < n
    · have j1 : (k : Int) < (n : Int) := by omega
      have hkl : k < l.length := by rw [← Hln.out]; exact h1
      have hkm : k < m.length := by rw [← Hmp.out]; exact h1
      obtain ⟨p1, p2, hp⟩ : ∃ p1 p2, l[k]? = some (p1, p2) := ⟨l[k].1, l[k].2, by rw [List.getElem?_eq_getElem hkl]⟩
      obtain ⟨q1, q2, hq⟩ : ∃ p1 p2, m[k]? = some (p1, p2) := ⟨m[k].1, m[k].2, by rw [List.getElem?_eq_getElem hkm]⟩
      rcases Hl.out.below hB with h | ⟨rb, off, hA, hrb, hcc⟩
      · rw [h] at hkl; simp at hkl
      rcases Hm.out.below hB with h | ⟨sb, off2, hA2, hsb, hdd⟩
      · rw [h] at hkm; simp at hkm
      subst hA hA2
      obtain ⟨e0, e1⟩ := hcc k (p1, p2) hp
      obtain ⟨f0, f1⟩ := hdd k (q1, q2) hq
      simp only at e0 e1 f0 f1
      have hS0 : Fresh wr wr := Below.refl _ _
      have ne : Nonempty (Cls (Fresh wr)) := ⟨⟨wr, hS0⟩⟩
      have ka : ∀ y : Cls (Fresh wr), y.w.cell? ⟨ga, 3, none⟩ = some (.slice (some ⟨rb, off, none⟩) n c) := fun y => by simpa using (ha.below y.h ha.lt).cell 3
      have kb : ∀ y : Cls (Fresh wr), y.w.cell? ⟨gb, 3, none⟩ = some (.slice (some ⟨sb, off2, none⟩) n e) := fun y => by simpa using (hb.below y.h hb.lt).cell 3
      have k0 : ∀ y : Cls (Fresh wr), y.w.cell? ⟨rb, off + k * 2, none⟩ = some (.int .u32 p1) := fun y => (y.h.cell (p := ⟨rb, off + k * 2, none⟩) hrb).trans e0
      have k1 : ∀ y : Cls (Fresh wr), y.w.cell? ⟨rb, off + k * 2 + 1, none⟩ = some (.int .u32 p2) := fun y => (y.h.cell (p := ⟨rb, off + k * 2 + 1, none⟩) hrb).trans e1
      have k2 : ∀ y : Cls (Fresh wr), y.w.cell? ⟨sb, off2 + k * 2, none⟩ = some (.int .u32 q1) := fun y => (y.h.cell (p := ⟨sb, off2 + k * 2, none⟩) hsb).trans f0
      have k3 : ∀ y : Cls (Fresh wr), y.w.cell? ⟨sb, off2 + k * 2 + 1, none⟩ = some (.int .u32 q2) := fun y => (y.h.cell (p := ⟨sb, off2 + k * 2 + 1, none⟩) hsb).trans f1
      have l1 : ∀ y : Cls (Fresh wr), (Instr.loadAt 92 (.pointer (some ⟨rb, off + k * 2, none⟩))).run Try.prog y.w = .ok (.agg #[.int .u32 p1, .int .u32 p2]) y.w := fun y => by
        have := run_loadAt_mid (P := Try.prog) y.w rb (off + k * 2) 92 [.int .u32 p1, .int .u32 p2] _ (fun j v hv => by
          cases j with
          | zero => simp at hv; subst hv; exact k0 y
          | succ j => cases j with
            | zero => simp at hv; subst hv; exact k1 y
            | succ j => simp at hv) Try.underlying92 rfl (by kernel_rfl)
        simpa using this
      have l2 : ∀ y : Cls (Fresh wr), (Instr.loadAt 92 (.pointer (some ⟨sb, off2 + k * 2, none⟩))).run Try.prog y.w = .ok (.agg #[.int .u32 q1, .int .u32 q2]) y.w := fun y => by
        have := run_loadAt_mid (P := Try.prog) y.w sb (off2 + k * 2) 92 [.int .u32 q1, .int .u32 q2] _ (fun j v hv => by
          cases j with
          | zero => simp at hv; subst hv; exact k2 y
          | succ j => cases j with
            | zero => simp at hv; subst hv; exact k3 y
            | succ j => simp at hv) Try.underlying92 rfl (by kernel_rfl)
        simpa using this
      obtain ⟨E, hE⟩ : ∃ E, E = (!(decide (p1 = q1) && decide (p2 = q2))) := ⟨_, rfl⟩
      have hnq : ∀ W : World, (binOp .neq 92 (.agg #[.int .u32 p1, .int .u32 p2]) (.agg #[.int .u32 q1, .int .u32 q2])).run Try.prog W = .ok (.bool E) W := fun W => by rw [hE]; exact neq_blk p1 p2 q1 q2 W
      have hb2 : ∀ W, Fresh wr W → Below w.heap.size w W := fun W h => hB.trans (h.mono hB.size)
      have ha2 : ∀ W, Fresh wr W → Blk W ga 28 _ := fun W h => ha.below h ha.lt
      have hbb2 : ∀ W, Fresh wr W → Blk W gb 28 _ := fun W h => hb.below h hb.lt
      clear e0 e1 f0 f1 hcc hdd
      go_upto_region 6 with fail
      clear c3
      have HE := Lib.hid hE
      clear hE
      have Hp := Lib.hid hp
      clear hp
      have Hq := Lib.hid hq
      clear hq
      have Hkl := Lib.hid hkl
      clear hkl
      have Hkm := Lib.hid hkm
      clear hkm
      have HB := Lib.hid hB
      clear hB
      have Ha := Lib.hid ha
      clear ha
      have Hb := Lib.hid hb
      clear hb
      have Hb2 := Lib.hid hb2
      clear hb2
      have Ha2 := Lib.hid ha2
      clear ha2
      have Hbb2 := Lib.hid hbb2
      clear hbb2
      have Htk := Lib.hid htk
      clear htk
      refine wp_region_flow 10 (Fresh wr) (fun w w' => Below w.heap.size w w') (by kernel_rfl) (by kernel_rfl) (by kernel_rfl) (fun w => Below.refl _ _) (Fresh.below hS0 (Below.drew (Below.refl _ _))) ?_
      simp only [List.take_succ_cons, List.take_zero, List.drop_succ_cons, List.drop_zero]
      repeat (refine flow_quiet (fun w => Below.refl _ _) rfl rfl rfl rfl ?_; intro K hK; go_big_quiet_op; go_big_quiet_on)
      refine flow_nil ?_
      intro W5 ff hW5 hF5
      simp only [fillW]
      clear hF5 ka kb k0 k1 k2 k3 l1 l2 ne hS0
      have hB5 := Hb2.out W5 hW5
      have hA5 := Ha2.out W5 hW5
      have hBb5 := Hbb2.out W5 hW5
      cases E with
      | true =>
        have hne : V = false := by
          rw [HV.out]
          refine decide_eq_false (fun h => ?_)
          have h2 := Hp.out
          rw [h, Hq.out] at h2
          injection h2 with h2
          injection h2 with h3 h4
          have := HE.out
          rw [h3, h4] at this
          simp at this
        have Hne := Lib.hid hne
        clear hne
        have HB5 := Lib.hid hB5
        clear hB5
        have HA5 := Lib.hid hA5
        clear hA5
        have HBb5 := Lib.hid hBb5
        clear hBb5
        have HW5 := Lib.hid hW5
        clear hW5
        go_wp2
        go_ret
        exact ⟨ret_bool Hne.out.symm, HB5.out⟩
      | false =>
        have h34 : p1 = q1 ∧ p2 = q2 := by have := HE.out; simpa using this
        have htk2 : l.take (k + 1) = m.take (k + 1) := by
          rw [List.take_add_one, List.take_add_one, Hp.out, Hq.out, Htk.out, h34.1, h34.2]
        have Htk2 := Lib.hid htk2
        clear htk2
        have H34 := Lib.hid h34
        clear h34
        have HB5 := Lib.hid hB5
        clear hB5
        have HA5 := Lib.hid hA5
        clear hA5
        have HBb5 := Lib.hid hBb5
        clear hBb5
        have HW5 := Lib.hid hW5
        clear hW5
        go_wp2
        go_roundw
        case rel => exact ⟨k + 1, by go_num, by omega, Htk2.out, HB5.out, HA5.out, HBb5.out⟩
        case measure => simp [intOf]; omega
    · have hke : k = n := by omega
      subst hke
      have j1 : ¬ (k : Int) < (k : Int) := by omega
      have hlm : l = m := by
        rw [List.take_of_length_le (by rw [← Hln.out]; exact Nat.le_refl _), List.take_of_length_le (by rw [← Hmp.out]; exact Nat.le_refl _)] at htk
        exact htk
      have hVt : V = true := by rw [HV.out, decide_eq_true hlm]
      have HVt := Lib.hid hVt
      clear hVt
      have Hlm := Lib.hid hlm
      clear hlm
      have HB := Lib.hid hB
      clear hB
      have Htk := Lib.hid htk
      clear htk
      go_wp2
      go_ret
      exact ⟨ret_bool HVt.out.symm, HB.out⟩
end Go.Proofs.Ytengegcnocdkoaa
end
section
namespace Go.Proofs.Ytengegcnocdkoaa
open Go.RowKit Go.BigFrame
/-- are they the same? -/
def sameB (o p : Op) : Bool := ((o.mss : Int) == (p.mss : Int)) && ((o.scale == p.scale) && ((o.sack == p.sack) && (decide (o.bl = p.bl) && ((o.time == p.time) && (((o.val : Int) == (p.val : Int)) && ((o.echo : Int) == (p.echo : Int)))))))
theorem sameB_iff (o p : Op) : sameB o p = true ↔ o = p := by
  unfold sameB
  simp only [Bool.and_eq_true, beq_iff_eq, decide_eq_true_eq, Int.natCast_inj]
  constructor
  · rintro ⟨h1, h2, h3, h4, h5, h6, h7⟩
    cases o
    cases p
    simp only at h1 h2 h3 h4 h5 h6 h7
    subst h1 h2 h3 h4 h5 h6 h7
    rfl
  · rintro rfl
    exact ⟨rfl, rfl, rfl, rfl, rfl, rfl, rfl⟩
end Go.Proofs.Ytengegcnocdkoaa
end
section
set_option maxRecDepth 20000
namespace Go.Proofs.Ytengegcnocdkoaa
open Go.RowKit Go.BigFrame
set_option maxRecDepth 100000 in
set_option maxHeartbeats 8000000 in
theorem rpsame_raw (w : World) (x0 y0 x1 y1 x2 y2 x3 y3 x4 y4 x5 y5 x6 y6 x7 y7 x8 y8 x9 y9 x13 y13 x14 y14 : Int) (x10 x12 y10 y12 : Bool) (A B : Option Addr) (c e : Nat) (l m : List (Int × Int)) (dx dy : ByteArray) (hl : BlR w A l) (hm : BlR w B m) (hn : l.length ≤ maxLen) (hn2 : m.length ≤ maxLen) :
    Calls Try.prog 16 #[.agg #[.int .u32 x0, .int .u16 x1, .int .u32 x2, .int .u16 x3, .int .u32 x4, .int .u32 x5, .int .u8 x6, .int .u16 x7, .int .u16 x8, .int .i64 x9, .bool x10, .slice A l.length c, .bool x12, .int .u32 x13, .int .u32 x14, .string dx], .agg #[.int .u32 y0, .int .u16 y1, .int .u32 y2, .int .u16 y3, .int .u32 y4, .int .u32 y5, .int .u8 y6, .int .u16 y7, .int .u16 y8, .int .i64 y9, .bool y10, .slice B m.length e, .bool y12, .int .u32 y13, .int .u32 y14, .string dy]] w fun en w' => en = .returned (.bool ((decide (x0 = y0) && decide (x1 = y1)) && ((decide (x2 = y2) && decide (x3 = y3)) && ((x4 == y4) && ((x5 == y5) && ((x6 == y6) && ((x7 == y7) && (((x8 == y8) && ((x9 == y9) && ((x10 == y10) && (decide (l = m) && ((x12 == y12) && ((x13 == y13) && (x14 == y14))))))) && ((dx.toList == dy.toList)))))))))) ∧ Below w.heap.size w w' := by
  have hb : Below w.heap.size w ((w.alloc (.cells #[.int .u32 x0, .int .u16 x1, .int .u32 x2, .int .u16 x3, .int .u32 x4, .int .u32 x5, .int .u8 x6, .int .u16 x7, .int .u16 x8, .int .i64 x9, .bool x10, .slice A l.length c, .bool x12, .int .u32 x13, .int .u32 x14, .string dx] 30)).alloc (.cells #[.int .u32 y0, .int .u16 y1, .int .u32 y2, .int .u16 y3, .int .u32 y4, .int .u32 y5, .int .u8 y6, .int .u16 y7, .int .u16 y8, .int .i64 y9, .bool y10, .slice B m.length e, .bool y12, .int .u32 y13, .int .u32 y14, .string dy] 30)) := ((Below.refl _ _).alloc (Nat.le_refl _) _).alloc (by simp) _
  have he := rsame_raw ((w.alloc (.cells #[.int .u32 x0, .int .u16 x1, .int .u32 x2, .int .u16 x3, .int .u32 x4, .int .u32 x5, .int .u8 x6, .int .u16 x7, .int .u16 x8, .int .i64 x9, .bool x10, .slice A l.length c, .bool x12, .int .u32 x13, .int .u32 x14, .string dx] 30)).alloc (.cells #[.int .u32 y0, .int .u16 y1, .int .u32 y2, .int .u16 y3, .int .u32 y4, .int .u32 y5, .int .u8 y6, .int .u16 y7, .int .u16 y8, .int .i64 y9, .bool y10, .slice B m.length e, .bool y12, .int .u32 y13, .int .u32 y14, .string dy] 30)) x8 x9 x13 x14 y8 y9 y13 y14 x10 x12 y10 y12 A B c e l m (hl.below hb) (hm.below hb) hn hn2
  have ha := eql_addr x0 x1 y0 y1
  have hc := eql_addr x2 x3 y2 y3
  obtain ⟨os, hos⟩ : ∃ os, os = ((x8 == y8) && ((x9 == y9) && ((x10 == y10) && (decide (l = m) && ((x12 == y12) && ((x13 == y13) && (x14 == y14))))))) := ⟨_, rfl⟩
  obtain ⟨t0, ht0⟩ : ∃ t, t = (decide (x0 = y0) && decide (x1 = y1)) := ⟨_, rfl⟩
  obtain ⟨t1, ht1⟩ : ∃ t, t = (decide (x2 = y2) && decide (x3 = y3)) := ⟨_, rfl⟩
  rw [← hos] at he ⊢
  rw [← ht0] at ha ⊢
  rw [← ht1] at hc ⊢
  clear hos ht0 ht1
  obtain ⟨V, hV⟩ : ∃ V, V = (t0 && (t1 && ((x4 == y4) && ((x5 == y5) && ((x6 == y6) && ((x7 == y7) && (os && (dx.toList == dy.toList)))))))) := ⟨_, rfl⟩
  rw [← hV]
  have hp1 := (Blk.new w 30 #[.int .u32 x0, .int .u16 x1, .int .u32 x2, .int .u16 x3, .int .u32 x4, .int .u32 x5, .int .u8 x6, .int .u16 x7, .int .u16 x8, .int .i64 x9, .bool x10, .slice A l.length c, .bool x12, .int .u32 x13, .int .u32 x14, .string dx]).alloc (.cells #[.int .u32 y0, .int .u16 y1, .int .u32 y2, .int .u16 y3, .int .u32 y4, .int .u32 y5, .int .u8 y6, .int .u16 y7, .int .u16 y8, .int .i64 y9, .bool y10, .slice B m.length e, .bool y12, .int .u32 y13, .int .u32 y14, .string dy] 30)
  have hp2 := blk_newB w (.cells #[.int .u32 x0, .int .u16 x1, .int .u32 x2, .int .u16 x3, .int .u32 x4, .int .u32 x5, .int .u8 x6, .int .u16 x7, .int .u16 x8, .int .i64 x9, .bool x10, .slice A l.length c, .bool x12, .int .u32 x13, .int .u32 x14, .string dx] 30) 30 #[.int .u32 y0, .int .u16 y1, .int .u32 y2, .int .u16 y3, .int .u32 y4, .int .u32 y5, .int .u8 y6, .int .u16 y7, .int .u16 y8, .int .i64 y9, .bool y10, .slice B m.length e, .bool y12, .int .u32 y13, .int .u32 y14, .string dy]
  clear hn hn2
  have Hb := Lib.hid hb
  clear hb
  have HV := Lib.hid hV
  clear hV
  have Hl := Lib.hid hl
  clear hl
  have Hm := Lib.hid hm
  clear hm
  have Hp1 := Lib.hid hp1
  clear hp1
  have Hp2 := Lib.hid hp2
  clear hp2
  cases t0 with
  | false =>
    have hV : V = false := by rw [HV.out]; simp
    clear HV
    have HV := Lib.hid hV
    clear hV
    clear he
    go_enter Try.func16, Try.ntmps16
    go_wp2
    go_ret
    exact ⟨ret_bool HV.out.symm, Hb.out⟩
  | true =>
    cases t1 with
    | false =>
      have hV : V = false := by rw [HV.out]; simp
      clear HV
      have HV := Lib.hid hV
      clear hV
      clear he
      go_enter Try.func16, Try.ntmps16
      go_wp2
      go_ret
      exact ⟨ret_bool HV.out.symm, Hb.out⟩
    | true =>
      cases h2 : (x4 == y4) with
      | false =>
        have hV : V = false := by rw [HV.out]; simp [h2]
        clear HV
        have HV := Lib.hid hV
        clear hV
        clear he
        go_enter Try.func16, Try.ntmps16
        go_wp2
        go_ret
        exact ⟨ret_bool HV.out.symm, Hb.out⟩
      | true =>
        cases h3 : (x5 == y5) with
        | false =>
          have hV : V = false := by rw [HV.out]; simp [h2, h3]
          clear HV
          have HV := Lib.hid hV
          clear hV
          clear he
          go_enter Try.func16, Try.ntmps16
          go_wp2
          go_ret
          exact ⟨ret_bool HV.out.symm, Hb.out⟩
        | true =>
          cases h4 : (x6 == y6) with
          | false =>
            have hV : V = false := by rw [HV.out]; simp [h2, h3, h4]
            clear HV
            have HV := Lib.hid hV
            clear hV
            clear he
            go_enter Try.func16, Try.ntmps16
            go_wp2
            go_ret
            exact ⟨ret_bool HV.out.symm, Hb.out⟩
          | true =>
            cases h5 : (x7 == y7) with
            | false =>
              have hV : V = false := by rw [HV.out]; simp [h2, h3, h4, h5]
              clear HV
              have HV := Lib.hid hV
              clear hV
              clear he
              go_enter Try.func16, Try.ntmps16
              go_wp2
              go_ret
              exact ⟨ret_bool HV.out.symm, Hb.out⟩
            | true =>
              cases os with
              | false =>
                have hV : V = false := by rw [HV.out]; simp [h2, h3, h4, h5]
                clear HV
                have HV := Lib.hid hV
                clear hV
                have He := Lib.hid he
                clear he
                go_enter Try.func16, Try.ntmps16
                go_wp2_with fail
                (with_reducible refine (He.out).mono ?_)
                rintro en w' ⟨rfl, hbq⟩
                have hq1 := Hp1.out.below hbq Hp1.out.lt
                have hq2 := Hp2.out.below hbq Hp2.out.lt
                have z1 := hq1.cell 15
                have z2 := hq2.cell 15
                have zl1 := hq1.lt
                have zl2 := hq2.lt
                simp at z1 z2
                clear hq1 hq2
                have hbz := Hb.out.trans (hbq.mono Hb.out.size)
                clear hbq
                have Hbz := Lib.hid hbz
                clear hbz
                go_wp2
                go_ret
                exact ⟨ret_bool HV.out.symm, Hbz.out⟩
              | true =>
                cases h7 : (dx.toList == dy.toList) with
                | false =>
                  have hV : V = false := by rw [HV.out]; simp [h2, h3, h4, h5, h7]
                  clear HV
                  have HV := Lib.hid hV
                  clear hV
                  have He := Lib.hid he
                  clear he
                  go_enter Try.func16, Try.ntmps16
                  go_wp2_with fail
                  (with_reducible refine (He.out).mono ?_)
                  rintro en w' ⟨rfl, hbq⟩
                  have hq1 := Hp1.out.below hbq Hp1.out.lt
                  have hq2 := Hp2.out.below hbq Hp2.out.lt
                  have z1 := hq1.cell 15
                  have z2 := hq2.cell 15
                  have zl1 := hq1.lt
                  have zl2 := hq2.lt
                  simp at z1 z2
                  clear hq1 hq2
                  have hbz := Hb.out.trans (hbq.mono Hb.out.size)
                  clear hbq
                  have Hbz := Lib.hid hbz
                  clear hbz
                  go_wp2
                  go_ret
                  exact ⟨ret_bool HV.out.symm, Hbz.out⟩
                | true =>
                  have hV : V = true := by rw [HV.out]; simp [h2, h3, h4, h5, h7]
                  clear HV
                  have HV := Lib.hid hV
                  clear hV
                  have He := Lib.hid he
                  clear he
                  go_enter Try.func16, Try.ntmps16
                  go_wp2_with fail
                  (with_reducible refine (He.out).mono ?_)
                  rintro en w' ⟨rfl, hbq⟩
                  have hq1 := Hp1.out.below hbq Hp1.out.lt
                  have hq2 := Hp2.out.below hbq Hp2.out.lt
                  have z1 := hq1.cell 15
                  have z2 := hq2.cell 15
                  have zl1 := hq1.lt
                  have zl2 := hq2.lt
                  simp at z1 z2
                  clear hq1 hq2
                  have hbz := Hb.out.trans (hbq.mono Hb.out.size)
                  clear hbq
                  have Hbz := Lib.hid hbz
                  clear hbz
                  go_wp2
                  go_ret
                  exact ⟨ret_bool HV.out.symm, Hbz.out⟩
def sameS (s t : Sg) : Bool := (decide ((s.s0 : Int) = (t.s0 : Int)) && decide ((s.s1 : Int) = (t.s1 : Int))) && ((decide ((s.s2 : Int) = (t.s2 : Int)) && decide ((s.s3 : Int) = (t.s3 : Int))) && (((s.s4 : Int) == (t.s4 : Int)) && (((s.s5 : Int) == (t.s5 : Int)) && (((s.f : Int) == (t.f : Int)) && (((s.s7 : Int) == (t.s7 : Int)) && (sameB s.o t.o && (s.d.toList == t.d.toList)))))))
theorem bytes_inj {a b : ByteArray} (h : a.toList = b.toList) : a = b := by
  rw [ByteArray.toList_eq, ByteArray.toList_eq] at h
  cases a
  cases b
  congr 1
  exact Array.toList_inj.1 h
theorem sameS_iff (s t : Sg) : sameS s t = true ↔ s = t := by
  unfold sameS
  simp only [Bool.and_eq_true, beq_iff_eq, decide_eq_true_eq, Int.natCast_inj, sameB_iff]
  constructor
  · rintro ⟨⟨h1, h2⟩, ⟨h3, h4⟩, h5, h6, h7, h8, h9, h10⟩
    replace h10 := bytes_inj h10
    cases s
    cases t
    simp only at h1 h2 h3 h4 h5 h6 h7 h8 h9 h10
    subst h1 h2 h3 h4 h5 h6 h7 h8 h9 h10
    rfl
  · rintro rfl
    exact ⟨⟨rfl, rfl⟩, ⟨rfl, rfl⟩, rfl, rfl, rfl, rfl, rfl, rfl⟩
theorem sameS_self (s : Sg) : sameS s s = true := (sameS_iff s s).2 rfl
theorem psame_any (w : World) (s t : Sg) (A B : Option Addr) (c e : Nat) (hl : BlR w A s.o.bl) (hm : BlR w B t.o.bl) (hn : s.o.bl.length ≤ maxLen) (hn2 : t.o.bl.length ≤ maxLen) :
    Calls Try.prog 15 #[.agg (s.c A c), .agg (t.c B e)] w fun en w' => en = .returned (.bool (sameS s t)) ∧ Below w.heap.size w w' :=
  psame_raw w _ _ _ _ _ _ _ _ _ _ _ _ _ _ _ _ _ _ _ _ _ _ _ _ _ _ _ _ A B c e s.o.bl t.o.bl s.d t.d hl hm hn hn2
theorem rpsame_any (w : World) (s t : Sg) (A B : Option Addr) (c e : Nat) (hl : BlR w A s.o.bl) (hm : BlR w B t.o.bl) (hn : s.o.bl.length ≤ maxLen) (hn2 : t.o.bl.length ≤ maxLen) :
    Calls Try.prog 16 #[.agg (s.c A c), .agg (t.c B e)] w fun en w' => en = .returned (.bool (sameS s t)) ∧ Below w.heap.size w w' :=
  rpsame_raw w _ _ _ _ _ _ _ _ _ _ _ _ _ _ _ _ _ _ _ _ _ _ _ _ _ _ _ _ A B c e s.o.bl t.o.bl s.d t.d hl hm hn hn2
end Go.Proofs.Ytengegcnocdkoaa
end
