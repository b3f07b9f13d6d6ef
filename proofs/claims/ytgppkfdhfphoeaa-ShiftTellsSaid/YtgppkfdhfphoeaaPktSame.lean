/- pkt.Same: whether two segments are the same. -/
import Derived.Test.YtgppkfdhfphoeaaOptSame
import Derived.Test.YtgppkfdhfphoeaaPktTurned
set_option linter.unusedVariables false
set_option linter.unusedSimpArgs false
namespace Go.Proofs.Ytgppkfdhfphoeaa
open Go.RowKit Go.BigFrame

theorem eql_addr (a b c d : Int) (W : World) : (binOp .eql 25 (.agg #[.int .u32 a, .int .u16 b]) (.agg #[.int .u32 c, .int .u16 d])).run Try.prog W = .ok (.bool (decide (a = c) && decide (b = d))) W := by
  by_cases h1 : a = c
  · subst h1
    by_cases h2 : b = d
    · subst h2
      rw [decide_eq_true (rfl : a = a), decide_eq_true (rfl : b = b)]
      go_simp
    · have h3 : (b == d) = false := by simpa using h2
      rw [decide_eq_true (rfl : a = a), decide_eq_false h2]
      go_simp
  · have h3 : (a == c) = false := by simpa using h1
    rw [decide_eq_false h1]
    go_simp
set_option maxRecDepth 100000 in
set_option maxHeartbeats 8000000 in
theorem psame_raw (w : World) (x0 y0 x1 y1 x2 y2 x3 y3 x4 y4 x5 y5 x6 y6 x7 y7 x8 y8 x9 y9 x13 y13 x14 y14 : Int) (x10 x12 y10 y12 : Bool) (A B : Option Addr) (c e : Nat) (l m : List (Int × Int)) (dx dy : ByteArray) (hl : BlR w A l) (hm : BlR w B m) (hn : l.length ≤ maxLen) (hn2 : m.length ≤ maxLen) :
    Calls Try.prog 14 #[.agg #[.int .u32 x0, .int .u16 x1, .int .u32 x2, .int .u16 x3, .int .u32 x4, .int .u32 x5, .int .u8 x6, .int .u16 x7, .int .u16 x8, .int .i64 x9, .bool x10, .slice A l.length c, .bool x12, .int .u32 x13, .int .u32 x14, .string dx], .agg #[.int .u32 y0, .int .u16 y1, .int .u32 y2, .int .u16 y3, .int .u32 y4, .int .u32 y5, .int .u8 y6, .int .u16 y7, .int .u16 y8, .int .i64 y9, .bool y10, .slice B m.length e, .bool y12, .int .u32 y13, .int .u32 y14, .string dy]] w fun en w' => en = .returned (.bool ((decide (x0 = y0) && decide (x1 = y1)) && ((decide (x2 = y2) && decide (x3 = y3)) && ((x4 == y4) && ((x5 == y5) && ((x6 == y6) && ((x7 == y7) && (((x8 == y8) && ((x9 == y9) && ((x10 == y10) && (decide (l = m) && ((x12 == y12) && ((x13 == y13) && (x14 == y14))))))) && ((dx.toList == dy.toList)))))))))) ∧ Below w.heap.size w w' := by
  have hb : Below w.heap.size w ((w.alloc (.cells #[.int .u32 x0, .int .u16 x1, .int .u32 x2, .int .u16 x3, .int .u32 x4, .int .u32 x5, .int .u8 x6, .int .u16 x7, .int .u16 x8, .int .i64 x9, .bool x10, .slice A l.length c, .bool x12, .int .u32 x13, .int .u32 x14, .string dx] 39)).alloc (.cells #[.int .u32 y0, .int .u16 y1, .int .u32 y2, .int .u16 y3, .int .u32 y4, .int .u32 y5, .int .u8 y6, .int .u16 y7, .int .u16 y8, .int .i64 y9, .bool y10, .slice B m.length e, .bool y12, .int .u32 y13, .int .u32 y14, .string dy] 39)) := ((Below.refl _ _).alloc (Nat.le_refl _) _).alloc (by simp) _
  have he := osame_raw ((w.alloc (.cells #[.int .u32 x0, .int .u16 x1, .int .u32 x2, .int .u16 x3, .int .u32 x4, .int .u32 x5, .int .u8 x6, .int .u16 x7, .int .u16 x8, .int .i64 x9, .bool x10, .slice A l.length c, .bool x12, .int .u32 x13, .int .u32 x14, .string dx] 39)).alloc (.cells #[.int .u32 y0, .int .u16 y1, .int .u32 y2, .int .u16 y3, .int .u32 y4, .int .u32 y5, .int .u8 y6, .int .u16 y7, .int .u16 y8, .int .i64 y9, .bool y10, .slice B m.length e, .bool y12, .int .u32 y13, .int .u32 y14, .string dy] 39)) x8 x9 x13 x14 y8 y9 y13 y14 x10 x12 y10 y12 A B c e l m (hl.below hb) (hm.below hb) hn hn2
  have ha := eql_addr x0 x1 y0 y1
  have hc := eql_addr x2 x3 y2 y3
  obtain ⟨os, hos⟩ : ∃ os, os = ((x8 == y8) && ((x9 == y9) && ((x10 == y10) && (decide (l = m) && ((x12 == y12) && ((x13 == y13) && (x14 == y14))))))) := ⟨_, rfl⟩
  obtain ⟨t0, ht0⟩ : ∃ t, t = (decide (x0 = y0) && decide (x1 = y1)) := ⟨_, rfl⟩
  obtain ⟨t1, ht1⟩ : ∃ t, t = (decide (x2 = y2) && decide (x3 = y3)) := ⟨_, rfl⟩
  rw [← hos] at he ⊢
  rw [← ht0] at ha ⊢
  rw [← ht1] at hc ⊢
  clear hos ht0 ht1
  obtain ⟨V, hV⟩ : ∃ V, V = (t0 && (t1 && ((x4 == y4) && ((x5 == y5) && ((x6 == y6) && ((x7 == y7) && (os && (dx.toList == dy.toList)))))))) := ⟨_, rfl⟩
  rw [← hV]
  have hp1 := (Blk.new w 39 #[.int .u32 x0, .int .u16 x1, .int .u32 x2, .int .u16 x3, .int .u32 x4, .int .u32 x5, .int .u8 x6, .int .u16 x7, .int .u16 x8, .int .i64 x9, .bool x10, .slice A l.length c, .bool x12, .int .u32 x13, .int .u32 x14, .string dx]).alloc (.cells #[.int .u32 y0, .int .u16 y1, .int .u32 y2, .int .u16 y3, .int .u32 y4, .int .u32 y5, .int .u8 y6, .int .u16 y7, .int .u16 y8, .int .i64 y9, .bool y10, .slice B m.length e, .bool y12, .int .u32 y13, .int .u32 y14, .string dy] 39)
  have hp2 := blk_newB w (.cells #[.int .u32 x0, .int .u16 x1, .int .u32 x2, .int .u16 x3, .int .u32 x4, .int .u32 x5, .int .u8 x6, .int .u16 x7, .int .u16 x8, .int .i64 x9, .bool x10, .slice A l.length c, .bool x12, .int .u32 x13, .int .u32 x14, .string dx] 39) 39 #[.int .u32 y0, .int .u16 y1, .int .u32 y2, .int .u16 y3, .int .u32 y4, .int .u32 y5, .int .u8 y6, .int .u16 y7, .int .u16 y8, .int .i64 y9, .bool y10, .slice B m.length e, .bool y12, .int .u32 y13, .int .u32 y14, .string dy]
  clear hn hn2
  have Hb := Lib.hid hb
  clear hb
  have HV := Lib.hid hV
  clear hV
  have Hl := Lib.hid hl
  clear hl
  have Hm := Lib.hid hm
  clear hm
  have Hp1 := Lib.hid hp1
  clear hp1
  have Hp2 := Lib.hid hp2
  clear hp2
  cases t0 with
  | false =>
    have hV : V = false := by rw [HV.out]; simp
    clear HV
    have HV := Lib.hid hV
    clear hV
    clear he
    go_enter Try.func14, Try.ntmps14
    go_wp2
    go_ret
    exact ⟨ret_bool HV.out.symm, Hb.out⟩
  | true =>
    cases t1 with
    | false =>
      have hV : V = false := by rw [HV.out]; simp
      clear HV
      have HV := Lib.hid hV
      clear hV
      clear he
      go_enter Try.func14, Try.ntmps14
      go_wp2
      go_ret
      exact ⟨ret_bool HV.out.symm, Hb.out⟩
    | true =>
      cases h2 : (x4 == y4) with
      | false =>
        have hV : V = false := by rw [HV.out]; simp [h2]
        clear HV
        have HV := Lib.hid hV
        clear hV
        clear he
        go_enter Try.func14, Try.ntmps14
        go_wp2
        go_ret
        exact ⟨ret_bool HV.out.symm, Hb.out⟩
      | true =>
        cases h3 : (x5 == y5) with
        | false =>
          have hV : V = false := by rw [HV.out]; simp [h2, h3]
          clear HV
          have HV := Lib.hid hV
          clear hV
          clear he
          go_enter Try.func14, Try.ntmps14
          go_wp2
          go_ret
          exact ⟨ret_bool HV.out.symm, Hb.out⟩
        | true =>
          cases h4 : (x6 == y6) with
          | false =>
            have hV : V = false := by rw [HV.out]; simp [h2, h3, h4]
            clear HV
            have HV := Lib.hid hV
            clear hV
            clear he
            go_enter Try.func14, Try.ntmps14
            go_wp2
            go_ret
            exact ⟨ret_bool HV.out.symm, Hb.out⟩
          | true =>
            cases h5 : (x7 == y7) with
            | false =>
              have hV : V = false := by rw [HV.out]; simp [h2, h3, h4, h5]
              clear HV
              have HV := Lib.hid hV
              clear hV
              clear he
              go_enter Try.func14, Try.ntmps14
              go_wp2
              go_ret
              exact ⟨ret_bool HV.out.symm, Hb.out⟩
            | true =>
              cases os with
              | false =>
                have hV : V = false := by rw [HV.out]; simp [h2, h3, h4, h5]
                clear HV
                have HV := Lib.hid hV
                clear hV
                have He := Lib.hid he
                clear he
                go_enter Try.func14, Try.ntmps14
                go_wp2_with fail
                (with_reducible refine (He.out).mono ?_)
                rintro en w' ⟨rfl, hbq⟩
                have hq1 := Hp1.out.below hbq Hp1.out.lt
                have hq2 := Hp2.out.below hbq Hp2.out.lt
                have z1 := hq1.cell 15
                have z2 := hq2.cell 15
                have zl1 := hq1.lt
                have zl2 := hq2.lt
                simp at z1 z2
                clear hq1 hq2
                have hbz := Hb.out.trans (hbq.mono Hb.out.size)
                clear hbq
                have Hbz := Lib.hid hbz
                clear hbz
                go_wp2
                go_ret
                exact ⟨ret_bool HV.out.symm, Hbz.out⟩
              | true =>
                cases h7 : (dx.toList == dy.toList) with
                | false =>
                  have hV : V = false := by rw [HV.out]; simp [h2, h3, h4, h5, h7]
                  clear HV
                  have HV := Lib.hid hV
                  clear hV
                  have He := Lib.hid he
                  clear he
                  go_enter Try.func14, Try.ntmps14
                  go_wp2_with fail
                  (with_reducible refine (He.out).mono ?_)
                  rintro en w' ⟨rfl, hbq⟩
                  have hq1 := Hp1.out.below hbq Hp1.out.lt
                  have hq2 := Hp2.out.below hbq Hp2.out.lt
                  have z1 := hq1.cell 15
                  have z2 := hq2.cell 15
                  have zl1 := hq1.lt
                  have zl2 := hq2.lt
                  simp at z1 z2
                  clear hq1 hq2
                  have hbz := Hb.out.trans (hbq.mono Hb.out.size)
                  clear hbq
                  have Hbz := Lib.hid hbz
                  clear hbz
                  go_wp2
                  go_ret
                  exact ⟨ret_bool HV.out.symm, Hbz.out⟩
                | true =>
                  have hV : V = true := by rw [HV.out]; simp [h2, h3, h4, h5, h7]
                  clear HV
                  have HV := Lib.hid hV
                  clear hV
                  have He := Lib.hid he
                  clear he
                  go_enter Try.func14, Try.ntmps14
                  go_wp2_with fail
                  (with_reducible refine (He.out).mono ?_)
                  rintro en w' ⟨rfl, hbq⟩
                  have hq1 := Hp1.out.below hbq Hp1.out.lt
                  have hq2 := Hp2.out.below hbq Hp2.out.lt
                  have z1 := hq1.cell 15
                  have z2 := hq2.cell 15
                  have zl1 := hq1.lt
                  have zl2 := hq2.lt
                  simp at z1 z2
                  clear hq1 hq2
                  have hbz := Hb.out.trans (hbq.mono Hb.out.size)
                  clear hbq
                  have Hbz := Lib.hid hbz
                  clear hbz
                  go_wp2
                  go_ret
                  exact ⟨ret_bool HV.out.symm, Hbz.out⟩
end Go.Proofs.Ytgppkfdhfphoeaa
