/- The statement SpanTells: which numbers a list has, which spans it covers, where its gaps begin, and how many it has; any list, any span, any number. -/
import Derived.Test.YtnnpahjopfkchaaSpDet
set_option linter.unusedVariables false
set_option linter.unusedSimpArgs false
namespace Go.Proofs.Ytnnpahjopfkchaa.spanTells
open Go.ChangeShapes Go.WideShapes Go.ChangeAt Go.RowKit Go.BigFrame
open Go.ChangeMaps (open_string shut_string)

set_option maxRecDepth 100000 in
set_option maxHeartbeats 4000000 in
theorem walk_long (a : Option Addr) (n cap : Nat) (x y m : Int) (w : World) (hn : (n : Int) > 300) :
    Calls Try.prog 4 #[.slice a n cap, .agg #[.int .u64 x, .int .u64 y], .int .u64 m] w fun e w' => e = .returned (.bool true) ∧ Below w.heap.size w w' := by
  have hB1 : Below w.heap.size w (w.alloc (.cells #[.int .u64 x, .int .u64 y] 25)) := (Below.refl _ w).alloc (Nat.le_refl _) _
  have HB := Lib.hid hB1
  clear hB1
  have c1 := alive_any (w.alloc (.cells #[.int .u64 x, .int .u64 y] 25))
  go_enter Try.func4, Try.ntmps4
  go_wp2_with fail
  (with_reducible refine (long_any _ _ _ _).mono ?_)
  rintro e w' ⟨rfl, rfl⟩
  go_wp2_with fail
  refine c1.mono ?_
  rintro e w1 ⟨rfl, hb⟩
  have hB := HB.out.trans (hb.mono HB.out.size)
  clear hb
  go_wp2
  go_ret
  exact ⟨rfl, hB⟩
set_option maxRecDepth 100000 in
set_option maxHeartbeats 4000000 in
theorem walk_short (a : Option Addr) (cap : Nat) (l : List Sp) (x : Sp) (m : Nat) (w : World) (hn : l.length ≤ 300) (hu : U64 l) (hI : SpAt w.heap.size w a l) :
    Calls Try.prog 4 #[.slice a l.length cap, .agg #[.int .u64 (x.1 : Int), .int .u64 (x.2 : Int)], .int .u64 (m : Int)] w fun e w' => e = .returned (.bool true) ∧ Below w.heap.size w w' := by
  have hlz : ¬ (l.length : Int) > 300 := by omega
  obtain ⟨w1, hw1⟩ : ∃ w1, w1 = w.alloc (.cells #[.int .u64 (x.1 : Int), .int .u64 (x.2 : Int)] 25) := ⟨_, rfl⟩
  have hB1 : Below w.heap.size w w1 := by rw [hw1]; exact (Below.refl _ w).alloc (Nat.le_refl _) _
  have hx : Blk w1 w.heap.size 25 #[.int .u64 (x.1 : Int), .int .u64 (x.2 : Int)] := by rw [hw1]; exact Blk.new _ _ _
  have hI1 := (hI.below hB1).mono hB1.size
  have hIW : ∀ W, Below w1.heap.size w1 W → SpAt W.heap.size W a l := fun W hb => (hI1.below hb).mono hb.size
  have k1 := fresh_calls fun W hb => has_det (cap := cap) m (by omega) (hIW W hb)
  have k2 := fresh_calls fun W hb => rmay_any (cap := cap) (by omega) (hIW W hb)
  have k3 := fresh_calls fun W hb => rhas_det (cap := cap) m (by omega) (hIW W hb)
  have k4 := fresh_calls fun W hb => covers_det (cap := cap) x (by omega) (hIW W hb)
  have k5 := fresh_calls fun W hb => rcovers_det (cap := cap) x (by omega) (hIW W hb)
  have k6 := fresh_calls fun W hb => gap_det (cap := cap) m (by omega) (hIW W hb)
  have k7 := fresh_calls fun W hb => rgap_det (cap := cap) m (by omega) (hIW W hb)
  have k8 := fresh_calls fun W hb => len_any (cap := cap) (by omega) (hIW W hb) hu
  have k9 := fresh_calls fun W hb => rlen_any (cap := cap) (by omega) (hIW W hb) hu
  have k10 := fresh_calls (W0 := w1) fun W hb => alive_any W
  have hcx : ∀ y : Cls (Fresh w1), Blk y.w w.heap.size 25 #[.int .u64 (x.1 : Int), .int .u64 (x.2 : Int)] := fun y => hx.below y.h hx.lt
  obtain ⟨g, hg⟩ : ∃ g, g = w.heap.size := ⟨_, rfl⟩
  rw [← hg] at hcx
  have x0 : ∀ y : Cls (Fresh w1), y.w.cell? ⟨g, 0, none⟩ = some (.int .u64 (x.1 : Int)) := fun y => by simpa using (hcx y).cell 0
  have x1 : ∀ y : Cls (Fresh w1), y.w.cell? ⟨g, 1, none⟩ = some (.int .u64 (x.2 : Int)) := fun y => by simpa using (hcx y).cell 1
  have hS0 : Fresh w1 w1.drew := Fresh.below (Below.refl _ _) (Below.drew (Below.refl _ _))
  have ne : Nonempty (Cls (Fresh w1)) := ⟨⟨w1, Below.refl _ _⟩⟩
  have HW := Lib.hid (And.intro hw1 (And.intro hg hB1))
  clear hw1 hg hB1 hx hI1 hI hIW hu hn hcx
  have f1 : ∀ (vals : Array Value) (w : World), (callFunc 16 vals).run Try.prog w = .ok (.enter 16 vals) w := fun _ _ => by kernel_rfl
  have f2 : ∀ (vals : Array Value) (w : World), (callFunc 14 vals).run Try.prog w = .ok (.enter 14 vals) w := fun _ _ => by kernel_rfl
  have f3 : ∀ (vals : Array Value) (w : World), (callFunc 17 vals).run Try.prog w = .ok (.enter 17 vals) w := fun _ _ => by kernel_rfl
  have f4 : ∀ (vals : Array Value) (w : World), (callFunc 18 vals).run Try.prog w = .ok (.enter 18 vals) w := fun _ _ => by kernel_rfl
  have f5 : ∀ (vals : Array Value) (w : World), (callFunc 19 vals).run Try.prog w = .ok (.enter 19 vals) w := fun _ _ => by kernel_rfl
  have f6 : ∀ (vals : Array Value) (w : World), (callFunc 20 vals).run Try.prog w = .ok (.enter 20 vals) w := fun _ _ => by kernel_rfl
  have f7 : ∀ (vals : Array Value) (w : World), (callFunc 21 vals).run Try.prog w = .ok (.enter 21 vals) w := fun _ _ => by kernel_rfl
  have f8 : ∀ (vals : Array Value) (w : World), (callFunc 22 vals).run Try.prog w = .ok (.enter 22 vals) w := fun _ _ => by kernel_rfl
  have f9 : ∀ (vals : Array Value) (w : World), (callFunc 23 vals).run Try.prog w = .ok (.enter 23 vals) w := fun _ _ => by kernel_rfl
  have f10 : ∀ (vals : Array Value) (w : World), (callFunc 9 vals).run Try.prog w = .ok (.enter 9 vals) w := fun _ _ => by kernel_rfl
  generalize gapN l m = G at *
  generalize lenN l = Ln at *
  generalize cvB l x = cb at *
  generalize covB l m = hb at *
  generalize mayB l = mb at *
  have K1 := Lib.hid k1
  clear k1
  have K2 := Lib.hid k2
  clear k2
  have K3 := Lib.hid k3
  clear k3
  have K4 := Lib.hid k4
  clear k4
  have K5 := Lib.hid k5
  clear k5
  have K6 := Lib.hid k6
  clear k6
  have K7 := Lib.hid k7
  clear k7
  have K8 := Lib.hid k8
  clear k8
  have K9 := Lib.hid k9
  clear k9
  have K10 := Lib.hid k10
  clear k10
  have F1 := Lib.hid f1
  clear f1
  have F2 := Lib.hid f2
  clear f2
  have F3 := Lib.hid f3
  clear f3
  have F4 := Lib.hid f4
  clear f4
  have F5 := Lib.hid f5
  clear f5
  have F6 := Lib.hid f6
  clear f6
  have F7 := Lib.hid f7
  clear f7
  have F8 := Lib.hid f8
  clear f8
  have F9 := Lib.hid f9
  clear f9
  have F10 := Lib.hid f10
  clear f10
  have HS0 := Lib.hid hS0
  clear hS0
  cases mb <;> cases hb <;> cases cb <;> simp only [Bool.true_and, Bool.false_and] at K1
  all_goals
    go_enter Try.func4, Try.ntmps4
    go_wp2_with fail
    (with_reducible refine (long_any _ _ _ _).mono ?_)
    rintro e w' ⟨rfl, rfl⟩
    go_upto_region 3 with fail
    rw [← HW.out.1, ← HW.out.2.1]
    refine wp_region_flow 40 (Fresh w1) (fun w w' => Below w.heap.size w w') (by kernel_rfl) (by kernel_rfl) (by kernel_rfl) (fun w => Below.refl _ _) HS0.out ?_
    simp only [List.take_succ_cons, List.take_zero, List.drop_succ_cons, List.drop_zero]
    repeat (first
      | (refine flow_skip rfl rfl w1 ?_; intro K hK; go_big_quiet_op; go_big_quiet_on)
      | (refine flow_quiet (fun w => Below.refl _ _) rfl rfl rfl rfl ?_; intro K hK; go_big_quiet_op; go_big_quiet_on)
      | (refine flow_call F1.out _ ?_ rfl rfl rfl _ K1.out w1 ?_; (focus (simp only [List.map_toArray, List.map_cons, List.map_nil]; rfl)); intro K hK; go_big_quiet_op; go_big_quiet_on)
      | (refine flow_call F2.out _ ?_ rfl rfl rfl _ K2.out w1 ?_; (focus (simp only [List.map_toArray, List.map_cons, List.map_nil]; rfl)); intro K hK; go_big_quiet_op; go_big_quiet_on)
      | (refine flow_call F3.out _ ?_ rfl rfl rfl _ K3.out w1 ?_; (focus (simp only [List.map_toArray, List.map_cons, List.map_nil]; rfl)); intro K hK; go_big_quiet_op; go_big_quiet_on)
      | (refine flow_call F4.out _ ?_ rfl rfl rfl _ K4.out w1 ?_; (focus (simp only [List.map_toArray, List.map_cons, List.map_nil]; rfl)); intro K hK; go_big_quiet_op; go_big_quiet_on)
      | (refine flow_call F5.out _ ?_ rfl rfl rfl _ K5.out w1 ?_; (focus (simp only [List.map_toArray, List.map_cons, List.map_nil]; rfl)); intro K hK; go_big_quiet_op; go_big_quiet_on)
      | (refine flow_call F6.out _ ?_ rfl rfl rfl _ K6.out w1 ?_; (focus (simp only [List.map_toArray, List.map_cons, List.map_nil]; rfl)); intro K hK; go_big_quiet_op; go_big_quiet_on)
      | (refine flow_call F7.out _ ?_ rfl rfl rfl _ K7.out w1 ?_; (focus (simp only [List.map_toArray, List.map_cons, List.map_nil]; rfl)); intro K hK; go_big_quiet_op; go_big_quiet_on)
      | (refine flow_call F8.out _ ?_ rfl rfl rfl _ K8.out w1 ?_; (focus (simp only [List.map_toArray, List.map_cons, List.map_nil]; rfl)); intro K hK; go_big_quiet_op; go_big_quiet_on)
      | (refine flow_call F9.out _ ?_ rfl rfl rfl _ K9.out w1 ?_; (focus (simp only [List.map_toArray, List.map_cons, List.map_nil]; rfl)); intro K hK; go_big_quiet_op; go_big_quiet_on)
      | (refine flow_call F10.out #[] (by simp only [List.map_toArray, List.map_nil]) rfl rfl rfl _ K10.out w1 ?_; intro K hK; go_big_quiet_op; go_big_quiet_on))
    refine flow_nil ?_
    intro W5 f hW5 hF5
    clear hF5
    simp only [fillW]
    have hB5 : Below w.heap.size w W5 := HW.out.2.2.trans (Below.mono hW5 HW.out.2.2.size)
    clear hW5 ne x0 x1
    have HB5 := Lib.hid hB5
    clear hB5
    go_wp2
    go_ret
    exact ⟨rfl, HB5.out⟩
theorem walk (a : Option Addr) (n cap : Nat) (x y m : Int) (w : World) (h0 : StrRows w [.inl .u64, .inl .u64] a n) (hx : (Lit.int .u64 x).wf = true) (hy : (Lit.int .u64 y).wf = true) (hm : (Lit.int .u64 m).wf = true) :
    Calls Try.prog 4 #[.slice a n cap, .agg #[.int .u64 x, .int .u64 y], .int .u64 m] w fun e w' => e = .returned (.bool true) ∧ Below w.heap.size w w' := by
  by_cases hn : (n : Int) > 300
  · exact walk_long a n cap x y m w hn
  · obtain ⟨l, rfl, hu, hI⟩ := sp_rows h0
    obtain ⟨x, rfl, -⟩ := u64_nat hx
    obtain ⟨y, rfl, -⟩ := u64_nat hy
    obtain ⟨m, rfl, -⟩ := u64_nat hm
    exact walk_short a cap l (x, y) m w (by omega) hu hI
theorem own : ownKnob Try.prog.godebug = none := by kernel_rfl
theorem laidOut : laidOutB Try.prog = true := by kernel_rfl
set_option maxRecDepth 100000 in
theorem lifted (os : Os) (started : os.Started) (H : Type) (enc : TypeId × Value → H) :
    ReturnsInHanded {} Try.checked os 4 .any (Rows.spanTellsSpec.pre6 enc Try.prog Try.f4 Rows.spanTellsRow.domain false) (Rows.spanTellsSpec.post enc Try.prog Try.f4 false true false false) := by
  refine returnsInHanded_of_change (C := Try.checked) own started (by kernel_rfl) Try.func4
    (ChangeSpec.witness6 (enc := enc) (C := Try.checked) false ⟨#[], #[.slice none 0 0, .agg #[.int .u64 0, .int .u64 0], .int .u64 0], []⟩ 8 (by kernel_rfl) (by kernel_rfl) (by kernel_rfl) (by kernel_rfl)) ?_
  intro W base args ds gs before hval0 hW hcnd _
  have hval : ∀ (j : Nat) t v, Try.f4.params[j]? = some t → args[j]? = some v → Value.okWide Try.prog W .any base t v := hval0
  have hW' := hW
  obtain ⟨p, q, hA0, hV, rfl, hfz, hnd⟩ := hW
  have hA : DataW.TrodAll enc Try.prog W 0 (fun _ => true) true Try.f4.params.toList args.toList ds p := hA0
  rw [Try.params4] at hA hval
  obtain ⟨v0, vs0, d0, ds0, p0, q0, hargs, rfl, rfl, h0, r0⟩ := trodAll_cons hA
  obtain ⟨v1, vs1, d1, ds1, p1, q1, rfl, rfl, rfl, h1, r1⟩ := trodAll_cons r0
  obtain ⟨v2, vs2, d2, ds2, p2, q2, rfl, rfl, rfl, h2, r2⟩ := trodAll_cons r1
  obtain ⟨rfl, rfl, rfl⟩ := trodAll_nil r2
  obtain rfl : args = #[v0, v1, v2] := by cases args; simp_all
  obtain ⟨rfl, rfl⟩ := trodVars_none hV
  obtain ⟨a0, len0, cap0, rfl⟩ := okWide_slice Try.underlying22 (hval 0 22 v0 rfl rfl)
  have k0 := h0
  have lt0 : ∀ x ∈ p0, x.block < W.heap.size := by obtain ⟨m, hm⟩ := k0; exact DataW.trod_lt m _ _ _ hm
  have w0 : StrRows W [.inl .u64, .inl .u64] a0 len0 := str_rows Try.underlying22 Try.underlying25 (by kernel_rfl) (by kernel_rfl) (by kernel_rfl) (by decide) h0
  have k1 := h1
  have lt1 : ∀ x ∈ p1, x.block < W.heap.size := by obtain ⟨m, hm⟩ := k1; exact DataW.trod_lt m _ _ _ hm
  obtain ⟨c1_0, c1_1, y1_0, y1_1, m1, rfl, rfl, rfl, hy1_0, hy1_1⟩ := Go.Joins.open_agg2 Try.underlying25 (by kernel_rfl) (by kernel_rfl) (hval 1 25 v1 rfl rfl) h1
  obtain ⟨a1_0, e1_0, rfl, w1_0⟩ := DataW.trod_int Try.underlying23 hy1_0
  simp at e1_0
  subst e1_0
  obtain ⟨a1_1, e1_1, rfl, w1_1⟩ := DataW.trod_int Try.underlying23 hy1_1
  simp at e1_1
  subst e1_1
  obtain ⟨a2, rfl, rfl, rfl, w2⟩ := open_int Try.underlying23 (hval 2 23 v2 rfl rfl) h2
  clear hA0 hval0
  refine (walk a0 len0 cap0 a1_0 a1_1 a2 W w0 w1_0 w1_1 w2).mono fun e W' ⟨he, bel⟩ => ?_
  subst he
  exact ⟨_, rfl, _, _, _, [], _, [], hW', trodAll_mk1 (shut_bool Try.underlying4 _), (trodAll_cons_mk (Below.trod laidOut (by kernel_rfl) (of_decide_eq_true (by kernel_rfl)) k0 bel lt0) (trodAll_cons_mk (Below.trod laidOut (by kernel_rfl) (of_decide_eq_true (by kernel_rfl)) k1 bel lt1) (trodAll_cons_mk (shut_int Try.underlying23 w2) trodAll_mk0))), rfl, bel.frame _, fun h => by cases h⟩

theorem over : Rows.spanTellsRow.holds Try.pinned (OpenSpec.ofChange Rows.spanTellsSpec) :=
  OpenClaim.holds_of_wide 4 Try.f4 rfl rfl rfl rfl rfl rfl rfl ⟨rfl, rfl, rfl, rfl, rfl⟩ rfl rfl rfl rfl rfl (by kernel_rfl) Try.func4 (by kernel_rfl)
    (of_decide_eq_true (by kernel_rfl)) (by unfold Func.isWrapper; first | (rw [if_pos (by decide +kernel)]; kernel_rfl) | (rw [if_neg (by decide +kernel)]; exact ⟨rfl, rfl⟩))
    (fun os started H enc _ => lifted os started H enc)

/-- THE STATEMENT -/
theorem proved : Rows.SpanTellsSaid := over
#print axioms proved
end Go.Proofs.Ytnnpahjopfkchaa.spanTells
