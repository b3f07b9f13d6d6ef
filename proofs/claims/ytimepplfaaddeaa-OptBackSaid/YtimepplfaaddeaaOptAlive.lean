/- Layer 7 (opt): Same as one word; what the law asks of a known run. -/
import Derived.Test.YtimepplfaaddeaaOptTurnW
import Derived.Test.YtimepplfaaddeaaOptRSame
import Derived.Test.YtimepplfaaddeaaOptBits
set_option linter.unusedVariables false
set_option linter.unusedSimpArgs false
namespace Go.Proofs.Ytimepplfaaddeaa
open Go.RowKit Go.BigFrame

/-- are they the same? -/
def sameB (o p : Op) : Bool := ((o.mss : Int) == (p.mss : Int)) && ((o.scale == p.scale) && ((o.sack == p.sack) && (decide (o.bl = p.bl) && ((o.time == p.time) && (((o.val : Int) == (p.val : Int)) && ((o.echo : Int) == (p.echo : Int)))))))
theorem sameB_iff (o p : Op) : sameB o p = true ↔ o = p := by
  unfold sameB
  simp only [Bool.and_eq_true, beq_iff_eq, decide_eq_true_eq, Int.natCast_inj]
  constructor
  · rintro ⟨h1, h2, h3, h4, h5, h6, h7⟩
    cases o
    cases p
    simp only at h1 h2 h3 h4 h5 h6 h7
    subst h1 h2 h3 h4 h5 h6 h7
    rfl
  · rintro rfl
    exact ⟨rfl, rfl, rfl, rfl, rfl, rfl, rfl⟩
theorem sameB_self (o : Op) : sameB o o = true := (sameB_iff o o).2 rfl
theorem same_any (w : World) (o p : Op) (A B : Option Addr) (c e : Nat) (hl : BlR w A o.bl) (hm : BlR w B p.bl) (hn : o.bl.length ≤ maxLen) (hn2 : p.bl.length ≤ maxLen) :
    Calls Try.prog 15 #[.agg (optC o A c), .agg (optC p B e)] w fun en w' => en = .returned (.bool (sameB o p)) ∧ Below w.heap.size w w' :=
  osame_raw w _ _ _ _ _ _ _ _ _ _ _ _ A B c e o.bl p.bl hl hm hn hn2
theorem rsame_any (w : World) (o p : Op) (A B : Option Addr) (c e : Nat) (hl : BlR w A o.bl) (hm : BlR w B p.bl) (hn : o.bl.length ≤ maxLen) (hn2 : p.bl.length ≤ maxLen) :
    Calls Try.prog 16 #[.agg (optC o A c), .agg (optC p B e)] w fun en w' => en = .returned (.bool (sameB o p)) ∧ Below w.heap.size w w' :=
  rsame_raw w _ _ _ _ _ _ _ _ _ _ _ _ A B c e o.bl p.bl hl hm hn hn2
def exO : Op := ⟨1460, 7, true, [], false, 0, 0⟩
theorem exO_wf : exO.wf := ⟨by decide, by decide, by decide, by decide, fun p hp => by cases hp⟩
theorem exO_enc : encR exO = (⟨#[2, 4, 5, 180, 1, 3, 3, 7, 1, 1, 4, 2]⟩, 0) := by kernel_rfl
theorem exO_dec : decR [2, 4, 5, 180, 1, 3, 3, 7, 1, 1, 4, 2, 30, 3, 120, 0, 2] = (exO, 0) := by kernel_rfl
theorem exO_bad : decR [4, 2, 4, 2] = (zeroO, 70) := by kernel_rfl
def arO : Op := ⟨0, 15, false, [], false, 0, 0⟩
theorem arO_wf : arO.wf := ⟨by decide, by decide, by decide, by decide, fun p hp => by cases hp⟩
theorem arO_enc : encR arO = (⟨#[]⟩, 2) := by kernel_rfl
theorem exT : turnR 2 0 0 [1, 1, 5, 10, 0, 0, 0, 1, 0, 0, 0, 3] = ([1, 1, 5, 10, 0, 0, 0, 3, 0, 0, 0, 5], 0) := by kernel_rfl
theorem ex_enc (W : World) : Calls Try.prog 9 #[.agg #[.int .u16 1460, .int .i64 7, .bool true, .slice none 0 0, .bool false, .int .u32 0, .int .u32 0]] W fun e w' => e = .returned (.tuple #[.string ⟨#[2, 4, 5, 180, 1, 3, 3, 7, 1, 1, 4, 2]⟩, .int .i64 0]) ∧ Below W.heap.size W w' := by
  have := enc_any W exO none 0 exO_wf (.inl rfl) (by decide)
  rw [exO_enc] at this
  exact this
theorem ar_enc (W : World) : Calls Try.prog 9 #[.agg #[.int .u16 0, .int .i64 15, .bool false, .slice none 0 0, .bool false, .int .u32 0, .int .u32 0]] W fun e w' => e = .returned (.tuple #[.string ⟨#[]⟩, .int .i64 2]) ∧ Below W.heap.size W w' := by
  have := enc_any W arO none 0 arO_wf (.inl rfl) (by decide)
  rw [arO_enc] at this
  exact this
theorem ex_dec (W : World) : Calls Try.prog 11 #[.string ⟨#[2, 4, 5, 180, 1, 3, 3, 7, 1, 1, 4, 2, 30, 3, 120, 0, 2]⟩] W fun e w' => (∃ A c, e = .returned (.tuple #[.agg #[.int .u16 1460, .int .i64 7, .bool true, .slice A 0 c, .bool false, .int .u32 0, .int .u32 0], .int .i64 0])) ∧ Below W.heap.size W w' := by
  refine (dec_any _ W).mono ?_
  rintro e w' ⟨r, A, c, code, rfl, hbr, hb, hre⟩
  have h2 : (r, code) = (exO, 0) := hre.trans exO_dec
  injection h2 with h2 h3
  subst h2 h3
  exact ⟨⟨A, c, rfl⟩, hb⟩
theorem bad_dec (W : World) : Calls Try.prog 11 #[.string ⟨#[4, 2, 4, 2]⟩] W fun e w' => (∃ A c, e = .returned (.tuple #[.agg #[.int .u16 0, .int .i64 0, .bool false, .slice A 0 c, .bool false, .int .u32 0, .int .u32 0], .int .i64 70])) ∧ Below W.heap.size W w' := by
  refine (dec_any _ W).mono ?_
  rintro e w' ⟨r, A, c, code, rfl, hbr, hb, hre⟩
  have h2 : (r, code) = (zeroO, 70) := hre.trans exO_bad
  injection h2 with h2 h3
  subst h2 h3
  exact ⟨⟨A, c, rfl⟩, hb⟩
theorem ex_turn (W : World) : Calls Try.prog 19 #[.string ⟨#[1, 1, 5, 10, 0, 0, 0, 1, 0, 0, 0, 3]⟩, .int .u32 2, .int .u32 0, .int .u32 0] W fun e w' => e = .returned (.tuple #[.string ⟨#[1, 1, 5, 10, 0, 0, 0, 3, 0, 0, 0, 5]⟩, .int .i64 0]) ∧ Below W.heap.size W w' := by
  have := turn_any ⟨#[1, 1, 5, 10, 0, 0, 0, 1, 0, 0, 0, 3]⟩ _ rfl 2 0 0 (by decide) (by decide) (by decide) W
  unfold TurnPost at this
  rw [exT] at this
  exact this
theorem ex_same (W : World) (A B : Option Addr) (c e : Nat) : Calls Try.prog 15 #[.agg #[.int .u16 1460, .int .i64 7, .bool true, .slice A 0 c, .bool false, .int .u32 0, .int .u32 0], .agg #[.int .u16 1460, .int .i64 7, .bool true, .slice B 0 e, .bool false, .int .u32 0, .int .u32 0]] W fun en w' => en = .returned (.bool true) ∧ Below W.heap.size W w' := by
  have := same_any W exO exO A B c e (.inl rfl) (.inl rfl) (by decide) (by decide)
  rw [sameB_self] at this
  exact this
theorem ex_may (W : World) : Calls Try.prog 13 #[.agg #[.int .u16 1460, .int .i64 7, .bool true, .slice none 0 0, .bool false, .int .u32 0, .int .u32 0]] W fun en w' => en = .returned (.bool true) ∧ Below W.heap.size W w' :=
  may_any W exO none 0 exO_wf (.inl rfl) (by decide)
theorem field_none (w : World) : (Instr.field 26 (.agg #[.int .u16 0, .int .i64 (-1), .bool false, .slice none 0 0, .bool false, .int .u32 0, .int .u32 0]) 1).run Try.prog w = .ok (.int .i64 (-1)) w := by kernel_rfl
theorem cat_ex (W : World) : (Op.stringOp .add ⟨#[2, 4, 5, 180, 1, 3, 3, 7, 1, 1, 4, 2]⟩ ⟨#[30, 3, 120, 0, 2]⟩).run Try.prog W = .ok (.string ⟨#[2, 4, 5, 180, 1, 3, 3, 7, 1, 1, 4, 2, 30, 3, 120, 0, 2]⟩) W := by
  rw [cat_run _ _ (by decide)]
  rfl
set_option maxRecDepth 100000 in
set_option maxHeartbeats 4000000 in
theorem alive07 (w : World) : Calls Try.prog 8 #[] w fun e w' => e = .returned (.bool true) ∧ Below w.heap.size w w' := by
  have hb0 : Below w.heap.size w w := Below.refl _ _
  have HB := Lib.hid hb0
  clear hb0
  have hc := cat_ex
  go_enter Try.func8, Try.ntmps8
  go_upto_region 2 with fail
  have ho := Blk.new w 26 #[.int .u16 1460, .int .i64 7, .bool true, .slice none 0 0, .bool false, .int .u32 0, .int .u32 0]
  have hB := HB.out.alloc HB.out.size (.cells #[.int .u16 1460, .int .i64 7, .bool true, .slice none 0 0, .bool false, .int .u32 0, .int .u32 0] 26)
  clear HB
  obtain ⟨go, hge⟩ : ∃ g, g = w.heap.size := ⟨_, rfl⟩
  rw [← hge] at ho ⊢
  have hle_o : w.heap.size ≤ go := by omega
  clear hge
  generalize w.alloc _ = wn1 at *
  have Ho := Lib.hid ho
  clear ho
  have HB := Lib.hid hB
  clear hB
  have d0 := Ho.out.cell 0
  have d1 := Ho.out.cell 1
  have d2 := Ho.out.cell 2
  have d3 := Ho.out.cell 3
  have d4 := Ho.out.cell 4
  have d5 := Ho.out.cell 5
  have d6 := Ho.out.cell 6
  simp at d0 d1 d2 d3 d4 d5 d6
  go_wp2_with fail
  (with_reducible refine (ex_enc _).mono ?_)
  rintro e w2 ⟨rfl, hbq⟩
  have ho := Ho.out.below hbq Ho.out.lt
  clear Ho
  have Ho := Lib.hid ho
  clear ho
  have hB := HB.out.trans (hbq.mono HB.out.size)
  clear HB
  have HB := Lib.hid hB
  clear hB
  clear hbq
  go_wp2_with fail
  with_reducible refine (ex_dec _).mono ?_
  rintro e w3 ⟨⟨A, c, rfl⟩, hbq⟩
  clear d0 d1 d2 d3 d4 d5 d6
  have ho := Ho.out.below hbq Ho.out.lt
  clear Ho
  have Ho := Lib.hid ho
  clear ho
  have hB := HB.out.trans (hbq.mono HB.out.size)
  clear HB
  have HB := Lib.hid hB
  clear hB
  clear hbq
  go_upto_region 4 with fail
  have hp := Blk.new w3 26 #[.int .u16 1460, .int .i64 7, .bool true, .slice A 0 c, .bool false, .int .u32 0, .int .u32 0]
  have ho := Blk.alloc Ho.out (.cells #[.int .u16 1460, .int .i64 7, .bool true, .slice A 0 c, .bool false, .int .u32 0, .int .u32 0] 26)
  clear Ho
  have hB := HB.out.alloc HB.out.size (.cells #[.int .u16 1460, .int .i64 7, .bool true, .slice A 0 c, .bool false, .int .u32 0, .int .u32 0] 26)
  clear HB
  obtain ⟨gp, hge⟩ : ∃ g, g = w3.heap.size := ⟨_, rfl⟩
  rw [← hge] at hp ⊢
  have hle_p : w3.heap.size ≤ gp := by omega
  clear hge
  generalize w3.alloc _ = wn3 at *
  have Ho := Lib.hid ho
  clear ho
  have Hp := Lib.hid hp
  clear hp
  have HB := Lib.hid hB
  clear hB
  go_wp2_with fail
  with_reducible refine (bad_dec _).mono ?_
  rintro e w4 ⟨⟨A2, c2, rfl⟩, hbq⟩
  have ho := Ho.out.below hbq Ho.out.lt
  clear Ho
  have Ho := Lib.hid ho
  clear ho
  have hp := Hp.out.below hbq Hp.out.lt
  clear Hp
  have Hp := Lib.hid hp
  clear hp
  have hB := HB.out.trans (hbq.mono HB.out.size)
  clear HB
  have HB := Lib.hid hB
  clear hB
  clear hbq
  go_upto_region 5 with fail
  have hq := Blk.new w4 26 #[.int .u16 0, .int .i64 0, .bool false, .slice A2 0 c2, .bool false, .int .u32 0, .int .u32 0]
  have ho := Blk.alloc Ho.out (.cells #[.int .u16 0, .int .i64 0, .bool false, .slice A2 0 c2, .bool false, .int .u32 0, .int .u32 0] 26)
  clear Ho
  have hp := Blk.alloc Hp.out (.cells #[.int .u16 0, .int .i64 0, .bool false, .slice A2 0 c2, .bool false, .int .u32 0, .int .u32 0] 26)
  clear Hp
  have hB := HB.out.alloc HB.out.size (.cells #[.int .u16 0, .int .i64 0, .bool false, .slice A2 0 c2, .bool false, .int .u32 0, .int .u32 0] 26)
  clear HB
  obtain ⟨gq, hge⟩ : ∃ g, g = w4.heap.size := ⟨_, rfl⟩
  rw [← hge] at hq ⊢
  have hle_q : w4.heap.size ≤ gq := by omega
  clear hge
  generalize w4.alloc _ = wn4 at *
  have Ho := Lib.hid ho
  clear ho
  have Hp := Lib.hid hp
  clear hp
  have Hq := Lib.hid hq
  clear hq
  have HB := Lib.hid hB
  clear hB
  go_wp2_with fail
  (with_reducible refine (ar_enc _).mono ?_)
  rintro e w5 ⟨rfl, hbq⟩
  have ho := Ho.out.below hbq Ho.out.lt
  clear Ho
  have Ho := Lib.hid ho
  clear ho
  have hp := Hp.out.below hbq Hp.out.lt
  clear Hp
  have Hp := Lib.hid hp
  clear hp
  have hq := Hq.out.below hbq Hq.out.lt
  clear Hq
  have Hq := Lib.hid hq
  clear hq
  have hB := HB.out.trans (hbq.mono HB.out.size)
  clear HB
  have HB := Lib.hid hB
  clear hB
  clear hbq
  go_wp2_with fail
  (with_reducible refine (ex_turn _).mono ?_)
  rintro e w6 ⟨rfl, hbq⟩
  have ho := Ho.out.below hbq Ho.out.lt
  clear Ho
  have Ho := Lib.hid ho
  clear ho
  have hp := Hp.out.below hbq Hp.out.lt
  clear Hp
  have Hp := Lib.hid hp
  clear hp
  have hq := Hq.out.below hbq Hq.out.lt
  clear Hq
  have Hq := Lib.hid hq
  clear hq
  have hB := HB.out.trans (hbq.mono HB.out.size)
  clear HB
  have HB := Lib.hid hB
  clear hB
  clear hbq
  have d0 := Ho.out.cell 0
  have d1 := Ho.out.cell 1
  have d2 := Ho.out.cell 2
  have d3 := Ho.out.cell 3
  have d4 := Ho.out.cell 4
  have d5 := Ho.out.cell 5
  have d6 := Ho.out.cell 6
  simp at d0 d1 d2 d3 d4 d5 d6
  have f0 := Hp.out.cell 0
  have f1 := Hp.out.cell 1
  have f2 := Hp.out.cell 2
  have f3 := Hp.out.cell 3
  have f4 := Hp.out.cell 4
  have f5 := Hp.out.cell 5
  have f6 := Hp.out.cell 6
  simp at f0 f1 f2 f3 f4 f5 f6
  go_wp2_with fail
  (with_reducible refine (ex_same _ _ _ _ _).mono ?_)
  rintro e w7 ⟨rfl, hbq⟩
  have ho := Ho.out.below hbq Ho.out.lt
  clear Ho
  have Ho := Lib.hid ho
  clear ho
  have hp := Hp.out.below hbq Hp.out.lt
  clear Hp
  have Hp := Lib.hid hp
  clear hp
  have hq := Hq.out.below hbq Hq.out.lt
  clear Hq
  have Hq := Lib.hid hq
  clear hq
  have hB := HB.out.trans (hbq.mono HB.out.size)
  clear HB
  have HB := Lib.hid hB
  clear hB
  clear hbq
  go_wp2_with fail
  (with_reducible refine (none_any _).mono ?_)
  rintro e w8 ⟨rfl, hbq⟩
  have ho := Ho.out.below hbq Ho.out.lt
  clear Ho
  have Ho := Lib.hid ho
  clear ho
  have hp := Hp.out.below hbq Hp.out.lt
  clear Hp
  have Hp := Lib.hid hp
  clear hp
  have hq := Hq.out.below hbq Hq.out.lt
  clear Hq
  have Hq := Lib.hid hq
  clear hq
  have hB := HB.out.trans (hbq.mono HB.out.size)
  clear HB
  have HB := Lib.hid hB
  clear hB
  clear hbq
  clear d0 d1 d2 d3 d4 d5 d6
  clear f0 f1 f2 f3 f4 f5 f6
  have d0 := Ho.out.cell 0
  have d1 := Ho.out.cell 1
  have d2 := Ho.out.cell 2
  have d3 := Ho.out.cell 3
  have d4 := Ho.out.cell 4
  have d5 := Ho.out.cell 5
  have d6 := Ho.out.cell 6
  simp at d0 d1 d2 d3 d4 d5 d6
  go_wp2_with fail
  rw [field_none]
  go_wp2_with fail
  (with_reducible refine (ex_may _).mono ?_)
  rintro e w9 ⟨rfl, hbq⟩
  have ho := Ho.out.below hbq Ho.out.lt
  clear Ho
  have Ho := Lib.hid ho
  clear ho
  have hp := Hp.out.below hbq Hp.out.lt
  clear Hp
  have Hp := Lib.hid hp
  clear hp
  have hq := Hq.out.below hbq Hq.out.lt
  clear Hq
  have Hq := Lib.hid hq
  clear hq
  have hB := HB.out.trans (hbq.mono HB.out.size)
  clear HB
  have HB := Lib.hid hB
  clear hB
  clear hbq
  go_wp2
  go_ret
  exact ⟨rfl, HB.out⟩
end Go.Proofs.Ytimepplfaaddeaa
