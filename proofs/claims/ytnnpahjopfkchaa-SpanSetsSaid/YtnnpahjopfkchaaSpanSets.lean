/- The statement SpanSets: which lists may be, and which list has the numbers of another one with a span, or without it; any list, any span. -/
import Derived.Test.YtnnpahjopfkchaaSpLaw
set_option linter.unusedVariables false
set_option linter.unusedSimpArgs false
namespace Go.Proofs.Ytnnpahjopfkchaa.spanSets
open Go.ChangeShapes Go.WideShapes Go.ChangeAt Go.RowKit Go.BigFrame
open Go.ChangeMaps (open_string shut_string)

set_option maxRecDepth 100000 in
set_option maxHeartbeats 4000000 in
theorem walk_long (a : Option Addr) (n cap : Nat) (x y : Int) (w : World) (hn : (n : Int) > 300) :
    Calls Try.prog 3 #[.slice a n cap, .agg #[.int .u64 x, .int .u64 y]] w fun e w' => e = .returned (.bool true) ∧ Below w.heap.size w w' := by
  have hB1 : Below w.heap.size w (w.alloc (.cells #[.int .u64 x, .int .u64 y] 25)) := (Below.refl _ w).alloc (Nat.le_refl _) _
  have HB := Lib.hid hB1
  clear hB1
  have c1 := alive_any (w.alloc (.cells #[.int .u64 x, .int .u64 y] 25))
  go_enter Try.func3, Try.ntmps3
  go_wp2_with fail
  (with_reducible refine (long_any _ _ _ _).mono ?_)
  rintro e w' ⟨rfl, rfl⟩
  go_wp2_with fail
  refine c1.mono ?_
  rintro e w1 ⟨rfl, hb⟩
  have hB := HB.out.trans (hb.mono HB.out.size)
  clear hb
  go_wp2
  go_ret
  exact ⟨rfl, hB⟩
set_option maxRecDepth 100000 in
set_option maxHeartbeats 4000000 in
theorem walk_short (a : Option Addr) (cap : Nat) (l : List Sp) (x : Sp) (w : World) (hn : l.length ≤ 300) (hI : SpAt w.heap.size w a l) :
    Calls Try.prog 3 #[.slice a l.length cap, .agg #[.int .u64 (x.1 : Int), .int .u64 (x.2 : Int)]] w fun e w' => e = .returned (.bool true) ∧ Below w.heap.size w w' := by
  have hlz : ¬ (l.length : Int) > 300 := by omega
  obtain ⟨w1, hw1⟩ : ∃ w1, w1 = w.alloc (.cells #[.int .u64 (x.1 : Int), .int .u64 (x.2 : Int)] 25) := ⟨_, rfl⟩
  have hB1 : Below w.heap.size w w1 := by rw [hw1]; exact (Below.refl _ w).alloc (Nat.le_refl _) _
  have hx : Blk w1 w.heap.size 25 #[.int .u64 (x.1 : Int), .int .u64 (x.2 : Int)] := by rw [hw1]; exact Blk.new _ _ _
  have hI1 := (hI.below hB1).mono hB1.size
  obtain ⟨R, hR⟩ : ∃ R, R = setR true l x := ⟨_, rfl⟩
  obtain ⟨T, hT⟩ : ∃ T, T = setR false l x := ⟨_, rfl⟩
  have hRl := setR_len true l x
  have hTl := setR_len false l x
  rw [← hR] at hRl
  rw [← hT] at hTl
  have kAdd : ∀ W, Below w1.heap.size w1 W → Calls Try.prog 10 #[.slice a l.length cap, .agg #[.int .u64 (x.1 : Int), .int .u64 (x.2 : Int)]] W (SetPost W R) := fun W hb => by
    rw [hR]; exact add_any (cap := cap) x (by omega) ((hI1.below hb).mono hb.size)
  have kSet : ∀ W, Below w1.heap.size w1 W → Calls Try.prog 11 #[.slice a l.length cap, .agg #[.int .u64 (x.1 : Int), .int .u64 (x.2 : Int)], .bool true] W (SetPost W R) := fun W hb => by
    rw [hR]; exact set_any (cap := cap) true x (by omega) ((hI1.below hb).mono hb.size)
  have kCut : ∀ W, Below w1.heap.size w1 W → Calls Try.prog 12 #[.slice a l.length cap, .agg #[.int .u64 (x.1 : Int), .int .u64 (x.2 : Int)]] W (SetPost W T) := fun W hb => by
    rw [hT]; exact cut_any (cap := cap) x (by omega) ((hI1.below hb).mono hb.size)
  have kUn : ∀ W, Below w1.heap.size w1 W → Calls Try.prog 11 #[.slice a l.length cap, .agg #[.int .u64 (x.1 : Int), .int .u64 (x.2 : Int)], .bool false] W (SetPost W T) := fun W hb => by
    rw [hT]; exact set_any (cap := cap) false x (by omega) ((hI1.below hb).mono hb.size)
  have kMay : ∀ W, Below w1.heap.size w1 W → Calls Try.prog 13 #[.slice a l.length cap] W fun e w' => e = .returned (.bool (mayB l)) ∧ Below W.heap.size W w' := fun W hb => may_any (cap := cap) (by omega) ((hI1.below hb).mono hb.size)
  have kRMay : ∀ W, Below w1.heap.size w1 W → Calls Try.prog 14 #[.slice a l.length cap] W fun e w' => e = .returned (.bool (mayB l)) ∧ Below W.heap.size W w' := fun W hb => rmay_any (cap := cap) (by omega) ((hI1.below hb).mono hb.size)
  have HK := Lib.hid (And.intro kAdd (And.intro kSet (And.intro kCut (And.intro kUn (And.intro kMay kRMay)))))
  have HX := Lib.hid (And.intro hB1 (And.intro hx (And.intro (show R.1.length ≤ 1000000 by omega) (show T.1.length ≤ 1000000 by omega))))
  have HW := Lib.hid hw1
  have c0 := HK.out.1 w1 (Below.refl _ _)
  clear kAdd kSet kCut kUn kMay kRMay hw1 hB1 hx hI1 hI hR hT hRl hTl hn
  go_enter Try.func3, Try.ntmps3
  go_wp2_with fail
  (with_reducible refine (long_any _ _ _ _).mono ?_)
  rintro e w' ⟨rfl, rfl⟩
  go_upto_region 3 with fail
  rw [← HW.out]
  have x0 := HX.out.2.1.cell 0
  have x1 := HX.out.2.1.cell 1
  simp only [List.getElem?_toArray, List.getElem?_cons_zero, List.getElem?_cons_succ] at x0 x1
  go_wp2_with fail
  with_reducible refine c0.mono ?_
  clear x0 x1 c0
  rintro e w2 ⟨A1, k1, rfl, ha, hb⟩
  have HA := Lib.hid (And.intro ha hb)
  have hx := HX.out.2.1.below hb HX.out.2.1.lt
  have x0 := hx.cell 0
  have x1 := hx.cell 1
  simp only [List.getElem?_toArray, List.getElem?_cons_zero, List.getElem?_cons_succ] at x0 x1
  have c1 := HK.out.2.1 w2 HA.out.2
  clear ha hb hx
  go_wp2_with fail
  with_reducible refine c1.mono ?_
  clear x0 x1 c1
  rintro e w3 ⟨A2, k2, rfl, ha, hb⟩
  have HA2 := Lib.hid (And.intro ha (And.intro (HA.out.2.trans (hb.mono HA.out.2.size)) ((HA.out.1.below hb).mono hb.size)))
  have hx := HX.out.2.1.below HA2.out.2.1 HX.out.2.1.lt
  have x0 := hx.cell 0
  have x1 := hx.cell 1
  simp only [List.getElem?_toArray, List.getElem?_cons_zero, List.getElem?_cons_succ] at x0 x1
  have c2 := HK.out.2.2.1 w3 HA2.out.2.1
  clear ha hb hx
  go_wp2_with fail
  with_reducible refine c2.mono ?_
  clear x0 x1 c2
  rintro e w4 ⟨A3, k3, rfl, ha, hb⟩
  have HA3 := Lib.hid (And.intro ha (And.intro (HA2.out.2.1.trans (hb.mono HA2.out.2.1.size)) (And.intro ((HA2.out.2.2.below hb).mono hb.size) ((HA2.out.1.below hb).mono hb.size))))
  have hx := HX.out.2.1.below HA3.out.2.1 HX.out.2.1.lt
  have x0 := hx.cell 0
  have x1 := hx.cell 1
  simp only [List.getElem?_toArray, List.getElem?_cons_zero, List.getElem?_cons_succ] at x0 x1
  have c3 := HK.out.2.2.2.1 w4 HA3.out.2.1
  clear ha hb hx
  go_wp2_with fail
  with_reducible refine c3.mono ?_
  clear x0 x1 c3
  rintro e w5 ⟨A4, k4, rfl, ha, hb⟩
  have HA4 := Lib.hid (And.intro ha (And.intro (HA3.out.2.1.trans (hb.mono HA3.out.2.1.size)) (And.intro ((HA3.out.2.2.1.below hb).mono hb.size) (And.intro ((HA3.out.2.2.2.below hb).mono hb.size) ((HA3.out.1.below hb).mono hb.size)))))
  clear ha hb
  have c4 := HK.out.2.2.2.2.1 w5 HA4.out.2.1
  go_wp2_with fail
  with_reducible refine c4.mono ?_
  clear c4
  rintro e w6 ⟨rfl, hb⟩
  have HB6 := Lib.hid (And.intro (HA4.out.2.1.trans (hb.mono HA4.out.2.1.size)) hb)
  clear hb
  have c5 := HK.out.2.2.2.2.2 w6 HB6.out.1
  go_wp2_with fail
  with_reducible refine c5.mono ?_
  clear c5
  rintro e w7 ⟨rfl, hb⟩
  have HB7 := Lib.hid (And.intro (HB6.out.1.trans (hb.mono HB6.out.1.size)) (HB6.out.2.trans (hb.mono HB6.out.2.size)))
  clear hb
  have c6 : Calls Try.prog 15 #[.slice A1 R.1.length k1, .slice A2 R.1.length k2] w7 fun e w' => e = .returned (.bool true) ∧ Below w7.heap.size w7 w' := by
    have := same_any (w := w7) (cap := k1) (cap' := k2) HX.out.2.2.1 HX.out.2.2.1 ((HA4.out.2.2.1.below HB7.out.2).mono HB7.out.2.size) ((HA4.out.2.2.2.1.below HB7.out.2).mono HB7.out.2.size)
    simpa using this
  go_wp2_with fail
  with_reducible refine c6.mono ?_
  clear c6
  rintro e w8 ⟨rfl, hb⟩
  have HB8 := Lib.hid (And.intro (HB7.out.1.trans (hb.mono HB7.out.1.size)) (HB7.out.2.trans (hb.mono HB7.out.2.size)))
  clear hb
  have c7 : Calls Try.prog 15 #[.slice A3 T.1.length k3, .slice A4 T.1.length k4] w8 fun e w' => e = .returned (.bool true) ∧ Below w8.heap.size w8 w' := by
    have := same_any (w := w8) (cap := k3) (cap' := k4) HX.out.2.2.2 HX.out.2.2.2 ((HA4.out.2.2.2.2.below HB8.out.2).mono HB8.out.2.size) ((HA4.out.1.below HB8.out.2).mono HB8.out.2.size)
    simpa using this
  go_wp2_with fail
  with_reducible refine c7.mono ?_
  clear c7
  rintro e w9 ⟨rfl, hb⟩
  have HB9 := Lib.hid (HB8.out.1.trans (hb.mono HB8.out.1.size))
  clear hb
  have c8 := alive_any w9
  go_wp2_with fail
  with_reducible refine c8.mono ?_
  clear c8
  rintro e w10 ⟨rfl, hb⟩
  have hb1 := HB9.out.trans (hb.mono HB9.out.size)
  have hB := HX.out.1.trans (hb1.mono HX.out.1.size)
  clear hb hb1
  go_wp2
  go_ret
  exact ⟨rfl, hB⟩
theorem walk (a : Option Addr) (n cap : Nat) (x y : Int) (w : World) (h0 : StrRows w [.inl .u64, .inl .u64] a n) (hx : (Lit.int .u64 x).wf = true) (hy : (Lit.int .u64 y).wf = true) :
    Calls Try.prog 3 #[.slice a n cap, .agg #[.int .u64 x, .int .u64 y]] w fun e w' => e = .returned (.bool true) ∧ Below w.heap.size w w' := by
  by_cases hn : (n : Int) > 300
  · exact walk_long a n cap x y w hn
  · obtain ⟨l, rfl, hu, hI⟩ := sp_rows h0
    obtain ⟨x, rfl, -⟩ := u64_nat hx
    obtain ⟨y, rfl, -⟩ := u64_nat hy
    exact walk_short a cap l (x, y) w (by omega) hI
theorem own : ownKnob Try.prog.godebug = none := by kernel_rfl
theorem laidOut : laidOutB Try.prog = true := by kernel_rfl
set_option maxRecDepth 100000 in
theorem lifted (os : Os) (started : os.Started) (H : Type) (enc : TypeId × Value → H) :
    ReturnsInHanded {} Try.checked os 3 .any (Rows.spanSetsSpec.pre6 enc Try.prog Try.f3 Rows.spanSetsRow.domain false) (Rows.spanSetsSpec.post enc Try.prog Try.f3 false true false false) := by
  refine returnsInHanded_of_change (C := Try.checked) own started (by kernel_rfl) Try.func3
    (ChangeSpec.witness6 (enc := enc) (C := Try.checked) false ⟨#[], #[.slice none 0 0, .agg #[.int .u64 0, .int .u64 0]], []⟩ 8 (by kernel_rfl) (by kernel_rfl) (by kernel_rfl) (by kernel_rfl)) ?_
  intro W base args ds gs before hval0 hW hcnd _
  have hval : ∀ (j : Nat) t v, Try.f3.params[j]? = some t → args[j]? = some v → Value.okWide Try.prog W .any base t v := hval0
  have hW' := hW
  obtain ⟨p, q, hA0, hV, rfl, hfz, hnd⟩ := hW
  have hA : DataW.TrodAll enc Try.prog W 0 (fun _ => true) true Try.f3.params.toList args.toList ds p := hA0
  rw [Try.params3] at hA hval
  obtain ⟨v0, vs0, d0, ds0, p0, q0, hargs, rfl, rfl, h0, r0⟩ := trodAll_cons hA
  obtain ⟨v1, vs1, d1, ds1, p1, q1, rfl, rfl, rfl, h1, r1⟩ := trodAll_cons r0
  obtain ⟨rfl, rfl, rfl⟩ := trodAll_nil r1
  obtain rfl : args = #[v0, v1] := by cases args; simp_all
  obtain ⟨rfl, rfl⟩ := trodVars_none hV
  obtain ⟨a0, len0, cap0, rfl⟩ := okWide_slice Try.underlying22 (hval 0 22 v0 rfl rfl)
  have k0 := h0
  have lt0 : ∀ x ∈ p0, x.block < W.heap.size := by obtain ⟨m, hm⟩ := k0; exact DataW.trod_lt m _ _ _ hm
  have w0 : StrRows W [.inl .u64, .inl .u64] a0 len0 := str_rows Try.underlying22 Try.underlying25 (by kernel_rfl) (by kernel_rfl) (by kernel_rfl) (by decide) h0
  have k1 := h1
  have lt1 : ∀ x ∈ p1, x.block < W.heap.size := by obtain ⟨m, hm⟩ := k1; exact DataW.trod_lt m _ _ _ hm
  obtain ⟨c1_0, c1_1, y1_0, y1_1, m1, rfl, rfl, rfl, hy1_0, hy1_1⟩ := Go.Joins.open_agg2 Try.underlying25 (by kernel_rfl) (by kernel_rfl) (hval 1 25 v1 rfl rfl) h1
  obtain ⟨a1_0, e1_0, rfl, w1_0⟩ := DataW.trod_int Try.underlying23 hy1_0
  simp at e1_0
  subst e1_0
  obtain ⟨a1_1, e1_1, rfl, w1_1⟩ := DataW.trod_int Try.underlying23 hy1_1
  simp at e1_1
  subst e1_1
  clear hA0 hval0
  refine (walk a0 len0 cap0 a1_0 a1_1 W w0 w1_0 w1_1).mono fun e W' ⟨he, bel⟩ => ?_
  subst he
  exact ⟨_, rfl, _, _, _, [], _, [], hW', trodAll_mk1 (shut_bool Try.underlying4 _), (trodAll_cons_mk (Below.trod laidOut (by kernel_rfl) (of_decide_eq_true (by kernel_rfl)) k0 bel lt0) (trodAll_cons_mk (Below.trod laidOut (by kernel_rfl) (of_decide_eq_true (by kernel_rfl)) k1 bel lt1) trodAll_mk0)), rfl, bel.frame _, fun h => by cases h⟩

theorem over : Rows.spanSetsRow.holds Try.pinned (OpenSpec.ofChange Rows.spanSetsSpec) :=
  OpenClaim.holds_of_wide 3 Try.f3 rfl rfl rfl rfl rfl rfl rfl ⟨rfl, rfl, rfl, rfl, rfl⟩ rfl rfl rfl rfl rfl (by kernel_rfl) Try.func3 (by kernel_rfl)
    (of_decide_eq_true (by kernel_rfl)) (by unfold Func.isWrapper; first | (rw [if_pos (by decide +kernel)]; kernel_rfl) | (rw [if_neg (by decide +kernel)]; exact ⟨rfl, rfl⟩))
    (fun os started H enc _ => lifted os started H enc)

/-- THE STATEMENT -/
theorem proved : Rows.SpanSetsSaid := over
#print axioms proved
end Go.Proofs.Ytnnpahjopfkchaa.spanSets
