/- Layer 31 (trace): Do. -/
import Derived.Test.YtcdbbdjabccjdaaTraceF
set_option linter.unusedVariables false
set_option linter.unusedSimpArgs false
namespace Go.Proofs.Ytcdbbdjabccjdaa
open Go.RowKit Go.BigFrame Go.ChangeMaps

/-- may an act be at all? -/
def argOk (e : Int) (d : Nat) (s : ByteArray) : Bool := decide ((1 ≤ d ∧ d ≤ 9) ∧ (0 ≤ e ∧ e ≤ 1) ∧ ((d = 3 ∨ d = 4) ↔ s.size ≠ 0))
def fullB (e d : Nat) (t : Tr) (s : ByteArray) : Bool := decide (d = 3) && ((t.own e).live && (!(t.own e).cl && decide (1048576 < (t.own e).wr.size + s.size)))
/-- what Do answers, and what there is then -/
def doM (t : Tr) (e : Int) (d : Nat) (s : ByteArray) : Int × Tr :=
  if argOk e d s = true then if fullB e.toNat d t s = true then (6, t) else match ruleM d e.toNat t s with | some t' => (0, t') | none => (3, t) else (2, t)
def DoPost (w : World) (b : Nat) (r : Int) (t : Tr) (e : Ending) (w' : World) : Prop := e = .returned (.int .i64 r) ∧ TrAt w' b t ∧ w.grownBy w' (some b)
def RuleMap (b : Nat) (e : Int) (d : Nat) (s : ByteArray) (l : List Value) (W : World) : Prop := ∃ n g, l = [.map (some g)] ∧ b < n ∧ RulesAt W n g b e (d : Int) s
def RuleTup (b : Nat) (e : Int) (d : Nat) (s : ByteArray) (l : List Value) (W : World) : Prop := ∃ c, l = [.tuple #[c, .bool true]] ∧ ∀ e' : Nat, e' ≤ 1 → e = (e' : Int) → Does W c b d e' s
def RuleClo (b : Nat) (e : Int) (d : Nat) (s : ByteArray) (l : List Value) (W : World) : Prop := ∃ c, l = [c] ∧ ∀ e' : Nat, e' ≤ 1 → e = (e' : Int) → Does W c b d e' s
theorem RuleMap.of {b : Nat} {e : Int} {d : Nat} {s : ByteArray} (l : List Value) (w w' : World) (hb : Below w.heap.size w w') (h : RuleMap b e d s l w) : RuleMap b e d s l w' := by
  obtain ⟨n, g, h1, h2, h3⟩ := h
  exact ⟨n, g, h1, h2, h3.of hb⟩
theorem RuleTup.of {b : Nat} {e : Int} {d : Nat} {s : ByteArray} (l : List Value) (w w' : World) (hb : Below w.heap.size w w') (h : RuleTup b e d s l w) : RuleTup b e d s l w' := by
  obtain ⟨c, h1, h2⟩ := h
  exact ⟨c, h1, fun e' h h' => (h2 e' h h').of (keeps_below hb)⟩
theorem RuleClo.of {b : Nat} {e : Int} {d : Nat} {s : ByteArray} (l : List Value) (w w' : World) (hb : Below w.heap.size w w') (h : RuleClo b e d s l w) : RuleClo b e d s l w' := by
  obtain ⟨c, h1, h2⟩ := h
  exact ⟨c, h1, fun e' h h' => (h2 e' h h').of (keeps_below hb)⟩
theorem grown_after {w W w' : World} {b : Nat} {n : Nat} (h : Below w.heap.size w W) (hg : (W.drewN n).grownBy w' (some b)) : w.grownBy w' (some b) :=
  ⟨hg.os.trans h.os, hg.tape.trans h.tape, hg.output.trans h.output, Nat.le_trans h.size hg.size, fun i hi hn => (hg.block i (Nat.lt_of_lt_of_le hi h.size) hn).trans (h.block i hi)⟩
theorem quiet_both {P : Program} {f : FuncId} {args : Array Value} {w : World} {n : Nat} {v : Value} (h : Calls P f args (w.drewN n) fun e w' => e = .returned v ∧ ∃ m, w' = (w.drewN n).drewN m) : Calls P f args (w.drewN n) fun e w'' => e = .returned v ∧ ∃ m, w'' = w.drewN m :=
  h.mono fun _ _ ⟨he, m, hm⟩ => ⟨he, n + m, by rw [hm, World.drewN_drewN]⟩
theorem do_nil (w : World) (e d : Int) (s : ByteArray) :
    Calls Try.prog 12 #[.pointer none, .agg #[.int .i64 e, .int .u8 d, .string s]] w fun r w' => r = .returned (.int .i64 1) ∧ Below w.heap.size w w' := by
  have hb0 : Below w.heap.size w w := Below.refl _ _
  have HB := Lib.hid hb0
  clear hb0
  go_enter Try.func12, Try.ntmps12
  go_wp2_with fail
  have hx := Blk.new w 36 #[.int .i64 e, .int .u8 d, .string s]
  have hB := HB.out.alloc HB.out.size (.cells #[.int .i64 e, .int .u8 d, .string s] 36)
  clear HB
  obtain ⟨gx, hge⟩ : ∃ g, g = w.heap.size := ⟨_, rfl⟩
  rw [← hge] at hx ⊢
  clear hge
  generalize w.alloc _ = wn1 at *
  have Hx := Lib.hid hx
  clear hx
  have HB := Lib.hid hB
  clear hB
  have hn := none_nil wn1
  (with_reducible refine hn.mono ?_)
  rintro r w' ⟨rfl, rfl⟩
  go_wp2
  go_ret
  exact ⟨rfl, HB.out⟩
theorem do_neg (w : World) (b : Nat) (t : Tr) (e : Int) (d : Nat) (s : ByteArray) (h : TrAt w b t) (hd : 1 ≤ d ∧ d ≤ 9) (he : e < 0) :
    Calls Try.prog 12 #[.pointer (some ⟨b, 0, none⟩), .agg #[.int .i64 e, .int .u8 (d : Int), .string s]] w (DoPost w b 2 t) := by
  have hb0 : Below w.heap.size w w := Below.refl _ _
  have HB := Lib.hid hb0
  clear hb0
  have Ht := Lib.hid h
  have hlt := h.lt
  clear h
  go_enter Try.func12, Try.ntmps12
  go_wp2_with fail
  have hx := Blk.new w 36 #[.int .i64 e, .int .u8 (d : Int), .string s]
  have ht := Blk.alloc Ht.out (.cells #[.int .i64 e, .int .u8 (d : Int), .string s] 36)
  clear Ht
  have hB := HB.out.alloc HB.out.size (.cells #[.int .i64 e, .int .u8 (d : Int), .string s] 36)
  clear HB
  obtain ⟨gx, hge⟩ : ∃ g, g = w.heap.size := ⟨_, rfl⟩
  rw [← hge] at hx ⊢
  clear hge
  generalize w.alloc _ = wn1 at *
  have Ht := Lib.hid ht
  clear ht
  have Hx := Lib.hid hx
  clear hx
  have HB := Lib.hid hB
  clear hB
  have c13 := Ht.out.cell 13
  simp [trC] at c13
  have hn := none_at wn1 b c13
  (with_reducible refine hn.mono ?_)
  clear hn c13
  rintro r w' ⟨rfl, rfl⟩
  have hx := Hx.out
  have k0 : ∀ y : Cls (KeepS wn1 gx 36 #[.int .i64 e, .int .u8 (d : Int), .string s]), y.w.cell? ⟨gx, 0, none⟩ = some (.int .i64 e) := fun y => y.h.2.cell 0
  have k1 : ∀ y : Cls (KeepS wn1 gx 36 #[.int .i64 e, .int .u8 (d : Int), .string s]), y.w.cell? ⟨gx, 1, none⟩ = some (.int .u8 (d : Int)) := fun y => y.h.2.cell 1
  have k2 : ∀ y : Cls (KeepS wn1 gx 36 #[.int .i64 e, .int .u8 (d : Int), .string s]), y.w.cell? ⟨gx, 2, none⟩ = some (.string s) := fun y => y.h.2.cell 2
  have hS0 : KeepS wn1 gx 36 #[.int .i64 e, .int .u8 (d : Int), .string s] wn1 := ⟨Below.refl _ _, hx⟩
  have hlt1 : b < wn1.heap.size := Nat.lt_of_lt_of_le hlt HB.out.size
  have ne : Nonempty (Cls (KeepS wn1 gx 36 #[.int .i64 e, .int .u8 (d : Int), .string s])) := ⟨⟨wn1, hS0⟩⟩
  have cf : ∀ (vals : Array Value) (w : World), (callFunc 31 vals).run Try.prog w = .ok (.enter 31 vals) w := fun _ _ => by kernel_rfl
  have Cf := Lib.hid cf
  clear cf
  have Hx := Lib.hid hx
  clear hx
  clear Hx
  go_upto_region 3 with fail
  refine wp_region_flow 11 (KeepS wn1 gx 36 #[.int .i64 e, .int .u8 (d : Int), .string s]) (fun w w' => Below w.heap.size w w') (by kernel_rfl) (by kernel_rfl) (by kernel_rfl) (fun w => Below.refl _ _) hS0.drew ?_
  simp only [List.take_succ_cons, List.take_zero, List.drop_succ_cons, List.drop_zero]
  repeat (refine flow_quiet (fun w => Below.refl _ _) rfl rfl rfl rfl ?_; intro K hK; go_big_quiet_op; go_big_quiet_on)
  refine flow_callF (RuleMap b e d s) RuleMap.of Cf.out #[.pointer (some ⟨b, 0, none⟩), .agg #[.int .i64 e, .int .u8 (d : Int), .string s]] ?_ rfl ?_ rfl rfl wn1 ?_
  · simp only [List.map_toArray, List.map_cons, List.map_nil]; rfl
  · exact fun x => (rules_at x.w b e (d : Int) s).mono fun r w' ⟨g, hr, h1, h2⟩ => ⟨_, hr, ⟨_, g, rfl, Nat.lt_of_lt_of_le hlt1 x.h.1.size, h1⟩, KeepS.below _ _ x.h h2, h2⟩
  intro K hK; go_big_quiet_op; go_big_quiet_on
  repeat (refine flow_quiet (fun w => Below.refl _ _) rfl rfl rfl rfl ?_; intro K hK; go_big_quiet_op; go_big_quiet_on)
  refine flow_fact (RuleTup b e d s) RuleTup.of ?_ rfl rfl wn1 ?_
  · intro w f hS hN
    obtain ⟨n, g, hl, hbn, hr⟩ := known_at hN 0 rfl rfl
    obtain ⟨c, hrun, hdo⟩ := hr.hit hbn hd
    injection hl with hl
    unfold gives
    simp only [execOp, Sem.run_bind]
    rw [fill_eval (y := 15) (by simp) (by simp), fill_eval_out (y := 17) (by simp), hl]
    simp only [Act.eval, Array.getD_eq_getD_getElem?, List.getElem?_toArray, List.getElem?_cons_succ, List.getElem?_cons_zero, Option.getD_some]
    rw [hrun]
    exact ⟨⟨c, rfl, hdo⟩, hS, Below.refl _ _⟩
  intro K hK; go_big_quiet_op; go_big_quiet_on
  refine flow_move (fun _ => rfl) 0 rfl rfl rfl (by simp) RuleTup.of (fun w => Below.refl _ _) rfl rfl wn1 ?_
  intro K hK; go_big_quiet_op; go_big_quiet_on
  refine flow_extract (RuleClo b e d s) 0 rfl rfl rfl (by simp) RuleClo.of (fun w => Below.refl _ _) ?_ rfl rfl wn1 ?_
  · rintro u W ⟨c, hc, h⟩
    injection hc with hc
    subst hc
    exact ⟨c, rfl, c, rfl, h⟩
  intro K hK; go_big_quiet_op; go_big_quiet_on
  refine flow_extractV (.bool true) 1 rfl rfl rfl (by simp) (fun w => Below.refl _ _) ?_ rfl rfl wn1 ?_
  · rintro u W ⟨c, hc, h⟩
    injection hc with hc
    subst hc
    rfl
  intro K hK; go_big_quiet_op; go_big_quiet_on
  refine flow_move (fun _ => rfl) 0 rfl rfl rfl (by simp) RuleClo.of (fun w => Below.refl _ _) rfl rfl wn1 ?_
  intro K hK; go_big_quiet_op; go_big_quiet_on
  repeat (refine flow_quiet (fun w => Below.refl _ _) rfl rfl rfl rfl ?_; intro K hK; go_big_quiet_op; go_big_quiet_on)
  refine flow_nil ?_
  intro W f hW hF
  obtain ⟨c, hc, hdo⟩ := hF _ List.mem_cons_self
  simp only [fillW, Act.put, List.setIfInBounds_toArray, List.set_cons_succ, List.set_cons_zero]
  injection hc with hc
  generalize f 5 = z5 at *
  generalize f 12 = z12 at *
  generalize f 15 = z15 at *
  generalize f 18 = z18 at *
  generalize f 19 = z19 at *
  clear hF
  have hT : TrAt W b t := Ht.out.below hW.1 Ht.out.lt
  have hBW := HB.out.trans (hW.1.mono HB.out.size)
  have q0 := hW.2.cell 0
  have q1 := hW.2.cell 1
  have q2 := hW.2.cell 2
  simp at q0 q1 q2
  clear k0 k1 k2 hS0 ne Cf Ht HB hlt1
  have HT := Lib.hid hT
  clear hT
  have HBW := Lib.hid hBW
  clear hBW
  have Hdo := Lib.hid hdo
  clear hdo
  clear hW Hx
  subst hc
  go_wp2
  all_goals
    go_ret
    exact ⟨rfl, HT.out, only_of_below HBW.out _⟩

theorem do_big (w : World) (b : Nat) (t : Tr) (e : Int) (d : Nat) (s : ByteArray) (h : TrAt w b t) (hd : 1 ≤ d ∧ d ≤ 9) (he : 1 < e) :
    Calls Try.prog 12 #[.pointer (some ⟨b, 0, none⟩), .agg #[.int .i64 e, .int .u8 (d : Int), .string s]] w (DoPost w b 2 t) := by
  have hb0 : Below w.heap.size w w := Below.refl _ _
  have HB := Lib.hid hb0
  clear hb0
  have Ht := Lib.hid h
  have hlt := h.lt
  clear h
  go_enter Try.func12, Try.ntmps12
  go_wp2_with fail
  have hx := Blk.new w 36 #[.int .i64 e, .int .u8 (d : Int), .string s]
  have ht := Blk.alloc Ht.out (.cells #[.int .i64 e, .int .u8 (d : Int), .string s] 36)
  clear Ht
  have hB := HB.out.alloc HB.out.size (.cells #[.int .i64 e, .int .u8 (d : Int), .string s] 36)
  clear HB
  obtain ⟨gx, hge⟩ : ∃ g, g = w.heap.size := ⟨_, rfl⟩
  rw [← hge] at hx ⊢
  clear hge
  generalize w.alloc _ = wn1 at *
  have Ht := Lib.hid ht
  clear ht
  have Hx := Lib.hid hx
  clear hx
  have HB := Lib.hid hB
  clear hB
  have c13 := Ht.out.cell 13
  simp [trC] at c13
  have hn := none_at wn1 b c13
  (with_reducible refine hn.mono ?_)
  clear hn c13
  rintro r w' ⟨rfl, rfl⟩
  have hx := Hx.out
  have k0 : ∀ y : Cls (KeepS wn1 gx 36 #[.int .i64 e, .int .u8 (d : Int), .string s]), y.w.cell? ⟨gx, 0, none⟩ = some (.int .i64 e) := fun y => y.h.2.cell 0
  have k1 : ∀ y : Cls (KeepS wn1 gx 36 #[.int .i64 e, .int .u8 (d : Int), .string s]), y.w.cell? ⟨gx, 1, none⟩ = some (.int .u8 (d : Int)) := fun y => y.h.2.cell 1
  have k2 : ∀ y : Cls (KeepS wn1 gx 36 #[.int .i64 e, .int .u8 (d : Int), .string s]), y.w.cell? ⟨gx, 2, none⟩ = some (.string s) := fun y => y.h.2.cell 2
  have hS0 : KeepS wn1 gx 36 #[.int .i64 e, .int .u8 (d : Int), .string s] wn1 := ⟨Below.refl _ _, hx⟩
  have hlt1 : b < wn1.heap.size := Nat.lt_of_lt_of_le hlt HB.out.size
  have ne : Nonempty (Cls (KeepS wn1 gx 36 #[.int .i64 e, .int .u8 (d : Int), .string s])) := ⟨⟨wn1, hS0⟩⟩
  have cf : ∀ (vals : Array Value) (w : World), (callFunc 31 vals).run Try.prog w = .ok (.enter 31 vals) w := fun _ _ => by kernel_rfl
  have Cf := Lib.hid cf
  clear cf
  have Hx := Lib.hid hx
  clear hx
  clear Hx
  go_upto_region 3 with fail
  refine wp_region_flow 11 (KeepS wn1 gx 36 #[.int .i64 e, .int .u8 (d : Int), .string s]) (fun w w' => Below w.heap.size w w') (by kernel_rfl) (by kernel_rfl) (by kernel_rfl) (fun w => Below.refl _ _) hS0.drew ?_
  simp only [List.take_succ_cons, List.take_zero, List.drop_succ_cons, List.drop_zero]
  repeat (refine flow_quiet (fun w => Below.refl _ _) rfl rfl rfl rfl ?_; intro K hK; go_big_quiet_op; go_big_quiet_on)
  refine flow_callF (RuleMap b e d s) RuleMap.of Cf.out #[.pointer (some ⟨b, 0, none⟩), .agg #[.int .i64 e, .int .u8 (d : Int), .string s]] ?_ rfl ?_ rfl rfl wn1 ?_
  · simp only [List.map_toArray, List.map_cons, List.map_nil]; rfl
  · exact fun x => (rules_at x.w b e (d : Int) s).mono fun r w' ⟨g, hr, h1, h2⟩ => ⟨_, hr, ⟨_, g, rfl, Nat.lt_of_lt_of_le hlt1 x.h.1.size, h1⟩, KeepS.below _ _ x.h h2, h2⟩
  intro K hK; go_big_quiet_op; go_big_quiet_on
  repeat (refine flow_quiet (fun w => Below.refl _ _) rfl rfl rfl rfl ?_; intro K hK; go_big_quiet_op; go_big_quiet_on)
  refine flow_fact (RuleTup b e d s) RuleTup.of ?_ rfl rfl wn1 ?_
  · intro w f hS hN
    obtain ⟨n, g, hl, hbn, hr⟩ := known_at hN 0 rfl rfl
    obtain ⟨c, hrun, hdo⟩ := hr.hit hbn hd
    injection hl with hl
    unfold gives
    simp only [execOp, Sem.run_bind]
    rw [fill_eval (y := 15) (by simp) (by simp), fill_eval_out (y := 17) (by simp), hl]
    simp only [Act.eval, Array.getD_eq_getD_getElem?, List.getElem?_toArray, List.getElem?_cons_succ, List.getElem?_cons_zero, Option.getD_some]
    rw [hrun]
    exact ⟨⟨c, rfl, hdo⟩, hS, Below.refl _ _⟩
  intro K hK; go_big_quiet_op; go_big_quiet_on
  refine flow_move (fun _ => rfl) 0 rfl rfl rfl (by simp) RuleTup.of (fun w => Below.refl _ _) rfl rfl wn1 ?_
  intro K hK; go_big_quiet_op; go_big_quiet_on
  refine flow_extract (RuleClo b e d s) 0 rfl rfl rfl (by simp) RuleClo.of (fun w => Below.refl _ _) ?_ rfl rfl wn1 ?_
  · rintro u W ⟨c, hc, h⟩
    injection hc with hc
    subst hc
    exact ⟨c, rfl, c, rfl, h⟩
  intro K hK; go_big_quiet_op; go_big_quiet_on
  refine flow_extractV (.bool true) 1 rfl rfl rfl (by simp) (fun w => Below.refl _ _) ?_ rfl rfl wn1 ?_
  · rintro u W ⟨c, hc, h⟩
    injection hc with hc
    subst hc
    rfl
  intro K hK; go_big_quiet_op; go_big_quiet_on
  refine flow_move (fun _ => rfl) 0 rfl rfl rfl (by simp) RuleClo.of (fun w => Below.refl _ _) rfl rfl wn1 ?_
  intro K hK; go_big_quiet_op; go_big_quiet_on
  repeat (refine flow_quiet (fun w => Below.refl _ _) rfl rfl rfl rfl ?_; intro K hK; go_big_quiet_op; go_big_quiet_on)
  refine flow_nil ?_
  intro W f hW hF
  obtain ⟨c, hc, hdo⟩ := hF _ List.mem_cons_self
  simp only [fillW, Act.put, List.setIfInBounds_toArray, List.set_cons_succ, List.set_cons_zero]
  injection hc with hc
  generalize f 5 = z5 at *
  generalize f 12 = z12 at *
  generalize f 15 = z15 at *
  generalize f 18 = z18 at *
  generalize f 19 = z19 at *
  clear hF
  have hT : TrAt W b t := Ht.out.below hW.1 Ht.out.lt
  have hBW := HB.out.trans (hW.1.mono HB.out.size)
  have q0 := hW.2.cell 0
  have q1 := hW.2.cell 1
  have q2 := hW.2.cell 2
  simp at q0 q1 q2
  clear k0 k1 k2 hS0 ne Cf Ht HB hlt1
  have HT := Lib.hid hT
  clear hT
  have HBW := Lib.hid hBW
  clear hBW
  have Hdo := Lib.hid hdo
  clear hdo
  clear hW Hx
  subst hc
  go_wp2
  all_goals
    go_ret
    exact ⟨rfl, HT.out, only_of_below HBW.out _⟩

--MORE

theorem do_out (w : World) (b : Nat) (t : Tr) (e : Int) (d : Nat) (s : ByteArray) (h : TrAt w b t) (hd : d < 1 ∨ 9 < d) :
    Calls Try.prog 12 #[.pointer (some ⟨b, 0, none⟩), .agg #[.int .i64 e, .int .u8 (d : Int), .string s]] w (DoPost w b 2 t) := by
  have h3 : ((d : Int) == 3) = false := by simp; omega
  have h4 : ((d : Int) == 4) = false := by simp; omega
  have hb0 : Below w.heap.size w w := Below.refl _ _
  have HB := Lib.hid hb0
  clear hb0
  have Ht := Lib.hid h
  have hlt := h.lt
  clear h
  go_enter Try.func12, Try.ntmps12
  go_wp2_with fail
  have hx := Blk.new w 36 #[.int .i64 e, .int .u8 (d : Int), .string s]
  have ht := Blk.alloc Ht.out (.cells #[.int .i64 e, .int .u8 (d : Int), .string s] 36)
  clear Ht
  have hB := HB.out.alloc HB.out.size (.cells #[.int .i64 e, .int .u8 (d : Int), .string s] 36)
  clear HB
  obtain ⟨gx, hge⟩ : ∃ g, g = w.heap.size := ⟨_, rfl⟩
  rw [← hge] at hx ⊢
  clear hge
  generalize w.alloc _ = wn1 at *
  have Ht := Lib.hid ht
  clear ht
  have Hx := Lib.hid hx
  clear hx
  have HB := Lib.hid hB
  clear hB
  have c13 := Ht.out.cell 13
  simp [trC] at c13
  have hn := none_at wn1 b c13
  (with_reducible refine hn.mono ?_)
  clear hn c13
  rintro r w' ⟨rfl, rfl⟩
  have hx := Hx.out
  have k0 : ∀ y : Cls (KeepS wn1 gx 36 #[.int .i64 e, .int .u8 (d : Int), .string s]), y.w.cell? ⟨gx, 0, none⟩ = some (.int .i64 e) := fun y => y.h.2.cell 0
  have k1 : ∀ y : Cls (KeepS wn1 gx 36 #[.int .i64 e, .int .u8 (d : Int), .string s]), y.w.cell? ⟨gx, 1, none⟩ = some (.int .u8 (d : Int)) := fun y => y.h.2.cell 1
  have k2 : ∀ y : Cls (KeepS wn1 gx 36 #[.int .i64 e, .int .u8 (d : Int), .string s]), y.w.cell? ⟨gx, 2, none⟩ = some (.string s) := fun y => y.h.2.cell 2
  have hS0 : KeepS wn1 gx 36 #[.int .i64 e, .int .u8 (d : Int), .string s] wn1 := ⟨Below.refl _ _, hx⟩
  have hlt1 : b < wn1.heap.size := Nat.lt_of_lt_of_le hlt HB.out.size
  have ne : Nonempty (Cls (KeepS wn1 gx 36 #[.int .i64 e, .int .u8 (d : Int), .string s])) := ⟨⟨wn1, hS0⟩⟩
  have cf : ∀ (vals : Array Value) (w : World), (callFunc 31 vals).run Try.prog w = .ok (.enter 31 vals) w := fun _ _ => by kernel_rfl
  have Cf := Lib.hid cf
  clear cf
  have Hx := Lib.hid hx
  clear hx
  clear Hx
  go_upto_region 3 with fail
  refine wp_region_flow 11 (KeepS wn1 gx 36 #[.int .i64 e, .int .u8 (d : Int), .string s]) (fun w w' => Below w.heap.size w w') (by kernel_rfl) (by kernel_rfl) (by kernel_rfl) (fun w => Below.refl _ _) hS0.drew ?_
  simp only [List.take_succ_cons, List.take_zero, List.drop_succ_cons, List.drop_zero]
  repeat (refine flow_quiet (fun w => Below.refl _ _) rfl rfl rfl rfl ?_; intro K hK; go_big_quiet_op; go_big_quiet_on)
  refine flow_callF (RuleMap b e d s) RuleMap.of Cf.out #[.pointer (some ⟨b, 0, none⟩), .agg #[.int .i64 e, .int .u8 (d : Int), .string s]] ?_ rfl ?_ rfl rfl wn1 ?_
  · simp only [List.map_toArray, List.map_cons, List.map_nil]; rfl
  · exact fun x => (rules_at x.w b e (d : Int) s).mono fun r w' ⟨g, hr, h1, h2⟩ => ⟨_, hr, ⟨_, g, rfl, Nat.lt_of_lt_of_le hlt1 x.h.1.size, h1⟩, KeepS.below _ _ x.h h2, h2⟩
  intro K hK; go_big_quiet_op; go_big_quiet_on
  repeat (refine flow_quiet (fun w => Below.refl _ _) rfl rfl rfl rfl ?_; intro K hK; go_big_quiet_op; go_big_quiet_on)
  refine flow_val (.tuple #[.nilFunc, .bool false]) ?_ rfl rfl wn1 ?_
  · intro w f hS hN
    obtain ⟨n, g, hl, hbn, hr⟩ := known_at hN 0 rfl rfl
    have hrun := hr.miss (by omega)
    injection hl with hl
    unfold gives
    simp only [execOp, Sem.run_bind]
    rw [fill_eval (y := 15) (by simp) (by simp), fill_eval_out (y := 17) (by simp), hl]
    simp only [Act.eval, Array.getD_eq_getD_getElem?, List.getElem?_toArray, List.getElem?_cons_succ, List.getElem?_cons_zero, Option.getD_some]
    rw [hrun]
    exact ⟨rfl, hS, Below.refl _ _⟩
  intro K hK; go_big_quiet_op; go_big_quiet_on
  repeat (refine flow_quiet (fun w => Below.refl _ _) rfl rfl rfl rfl ?_; intro K hK; go_big_quiet_op; go_big_quiet_on)
  refine flow_nil ?_
  intro W f hW hF
  simp only [fillW, Act.put, List.setIfInBounds_toArray, List.set_cons_succ, List.set_cons_zero]
  generalize f 15 = z15 at *
  clear hF
  have hT : TrAt W b t := Ht.out.below hW.1 Ht.out.lt
  have hBW := HB.out.trans (hW.1.mono HB.out.size)
  have q0 := hW.2.cell 0
  have q1 := hW.2.cell 1
  have q2 := hW.2.cell 2
  simp at q0 q1 q2
  clear k0 k1 k2 hS0 ne Cf Ht HB hlt1
  have HT := Lib.hid hT
  clear hT
  have HBW := Lib.hid hBW
  clear hBW
  clear hW Hx
  go_wp2
  all_goals
    go_ret
    exact ⟨rfl, HT.out, only_of_below HBW.out _⟩

theorem do_text_0 (w : World) (b : Nat) (t : Tr) (e : Int) (d : Nat) (h : TrAt w b t) (hd : 1 ≤ d ∧ d ≤ 9) (he : e = 0) (hq : d = 3 ∨ d = 4) (s : ByteArray) (hs1 : s.toList = []) :
    Calls Try.prog 12 #[.pointer (some ⟨b, 0, none⟩), .agg #[.int .i64 e, .int .u8 (d : Int), .string s]] w (DoPost w b 2 t) := by
  have h34 : ((d : Int) == 3 || (d : Int) == 4) = true := by simp; omega
  have He := Lib.hid he
  clear he
  have Hs1 := Lib.hid hs1
  clear hs1
  have hb0 : Below w.heap.size w w := Below.refl _ _
  have HB := Lib.hid hb0
  clear hb0
  have Ht := Lib.hid h
  have hlt := h.lt
  clear h
  go_enter Try.func12, Try.ntmps12
  go_wp2_with fail
  have hx := Blk.new w 36 #[.int .i64 e, .int .u8 (d : Int), .string s]
  have ht := Blk.alloc Ht.out (.cells #[.int .i64 e, .int .u8 (d : Int), .string s] 36)
  clear Ht
  have hB := HB.out.alloc HB.out.size (.cells #[.int .i64 e, .int .u8 (d : Int), .string s] 36)
  clear HB
  obtain ⟨gx, hge⟩ : ∃ g, g = w.heap.size := ⟨_, rfl⟩
  rw [← hge] at hx ⊢
  clear hge
  generalize w.alloc _ = wn1 at *
  have Ht := Lib.hid ht
  clear ht
  have Hx := Lib.hid hx
  clear hx
  have HB := Lib.hid hB
  clear hB
  have c13 := Ht.out.cell 13
  simp [trC] at c13
  have hn := none_at wn1 b c13
  (with_reducible refine hn.mono ?_)
  clear hn c13
  rintro r w' ⟨rfl, rfl⟩
  have hx := Hx.out
  have k0 : ∀ y : Cls (KeepS wn1 gx 36 #[.int .i64 e, .int .u8 (d : Int), .string s]), y.w.cell? ⟨gx, 0, none⟩ = some (.int .i64 e) := fun y => y.h.2.cell 0
  have k1 : ∀ y : Cls (KeepS wn1 gx 36 #[.int .i64 e, .int .u8 (d : Int), .string s]), y.w.cell? ⟨gx, 1, none⟩ = some (.int .u8 (d : Int)) := fun y => y.h.2.cell 1
  have k2 : ∀ y : Cls (KeepS wn1 gx 36 #[.int .i64 e, .int .u8 (d : Int), .string s]), y.w.cell? ⟨gx, 2, none⟩ = some (.string s) := fun y => y.h.2.cell 2
  have hS0 : KeepS wn1 gx 36 #[.int .i64 e, .int .u8 (d : Int), .string s] wn1 := ⟨Below.refl _ _, hx⟩
  have hlt1 : b < wn1.heap.size := Nat.lt_of_lt_of_le hlt HB.out.size
  have ne : Nonempty (Cls (KeepS wn1 gx 36 #[.int .i64 e, .int .u8 (d : Int), .string s])) := ⟨⟨wn1, hS0⟩⟩
  have cf : ∀ (vals : Array Value) (w : World), (callFunc 31 vals).run Try.prog w = .ok (.enter 31 vals) w := fun _ _ => by kernel_rfl
  have Cf := Lib.hid cf
  clear cf
  have Hx := Lib.hid hx
  clear hx
  clear Hx
  go_upto_region 3 with fail
  refine wp_region_flow 11 (KeepS wn1 gx 36 #[.int .i64 e, .int .u8 (d : Int), .string s]) (fun w w' => Below w.heap.size w w') (by kernel_rfl) (by kernel_rfl) (by kernel_rfl) (fun w => Below.refl _ _) hS0.drew ?_
  simp only [List.take_succ_cons, List.take_zero, List.drop_succ_cons, List.drop_zero]
  repeat (refine flow_quiet (fun w => Below.refl _ _) rfl rfl rfl rfl ?_; intro K hK; go_big_quiet_op; go_big_quiet_on)
  refine flow_callF (RuleMap b e d s) RuleMap.of Cf.out #[.pointer (some ⟨b, 0, none⟩), .agg #[.int .i64 e, .int .u8 (d : Int), .string s]] ?_ rfl ?_ rfl rfl wn1 ?_
  · simp only [List.map_toArray, List.map_cons, List.map_nil]; rfl
  · exact fun x => (rules_at x.w b e (d : Int) s).mono fun r w' ⟨g, hr, h1, h2⟩ => ⟨_, hr, ⟨_, g, rfl, Nat.lt_of_lt_of_le hlt1 x.h.1.size, h1⟩, KeepS.below _ _ x.h h2, h2⟩
  intro K hK; go_big_quiet_op; go_big_quiet_on
  repeat (refine flow_quiet (fun w => Below.refl _ _) rfl rfl rfl rfl ?_; intro K hK; go_big_quiet_op; go_big_quiet_on)
  refine flow_fact (RuleTup b e d s) RuleTup.of ?_ rfl rfl wn1 ?_
  · intro w f hS hN
    obtain ⟨n, g, hl, hbn, hr⟩ := known_at hN 0 rfl rfl
    obtain ⟨c, hrun, hdo⟩ := hr.hit hbn hd
    injection hl with hl
    unfold gives
    simp only [execOp, Sem.run_bind]
    rw [fill_eval (y := 15) (by simp) (by simp), fill_eval_out (y := 17) (by simp), hl]
    simp only [Act.eval, Array.getD_eq_getD_getElem?, List.getElem?_toArray, List.getElem?_cons_succ, List.getElem?_cons_zero, Option.getD_some]
    rw [hrun]
    exact ⟨⟨c, rfl, hdo⟩, hS, Below.refl _ _⟩
  intro K hK; go_big_quiet_op; go_big_quiet_on
  refine flow_move (fun _ => rfl) 0 rfl rfl rfl (by simp) RuleTup.of (fun w => Below.refl _ _) rfl rfl wn1 ?_
  intro K hK; go_big_quiet_op; go_big_quiet_on
  refine flow_extract (RuleClo b e d s) 0 rfl rfl rfl (by simp) RuleClo.of (fun w => Below.refl _ _) ?_ rfl rfl wn1 ?_
  · rintro u W ⟨c, hc, h⟩
    injection hc with hc
    subst hc
    exact ⟨c, rfl, c, rfl, h⟩
  intro K hK; go_big_quiet_op; go_big_quiet_on
  refine flow_extractV (.bool true) 1 rfl rfl rfl (by simp) (fun w => Below.refl _ _) ?_ rfl rfl wn1 ?_
  · rintro u W ⟨c, hc, h⟩
    injection hc with hc
    subst hc
    rfl
  intro K hK; go_big_quiet_op; go_big_quiet_on
  refine flow_move (fun _ => rfl) 0 rfl rfl rfl (by simp) RuleClo.of (fun w => Below.refl _ _) rfl rfl wn1 ?_
  intro K hK; go_big_quiet_op; go_big_quiet_on
  repeat (refine flow_quiet (fun w => Below.refl _ _) rfl rfl rfl rfl ?_; intro K hK; go_big_quiet_op; go_big_quiet_on)
  refine flow_nil ?_
  intro W f hW hF
  obtain ⟨c, hc, hdo⟩ := hF _ List.mem_cons_self
  simp only [fillW, Act.put, List.setIfInBounds_toArray, List.set_cons_succ, List.set_cons_zero]
  injection hc with hc
  generalize f 5 = z5 at *
  generalize f 12 = z12 at *
  generalize f 15 = z15 at *
  generalize f 18 = z18 at *
  generalize f 19 = z19 at *
  clear hF
  have hT : TrAt W b t := Ht.out.below hW.1 Ht.out.lt
  have hBW := HB.out.trans (hW.1.mono HB.out.size)
  have q0 := hW.2.cell 0
  have q1 := hW.2.cell 1
  have q2 := hW.2.cell 2
  simp at q0 q1 q2
  clear k0 k1 k2 hS0 ne Cf Ht HB hlt1
  have HT := Lib.hid hT
  clear hT
  have HBW := Lib.hid hBW
  clear hBW
  have Hdo := Lib.hid hdo
  clear hdo
  clear hW Hx
  subst hc
  have he := He.out
  have hs1 := Hs1.out
  clear He Hs1
  subst he
  have hs2 : s.toList.isEmpty = true := by rw [hs1]; rfl
  go_wp2
  all_goals
    go_ret
    exact ⟨rfl, HT.out, only_of_below HBW.out _⟩
theorem do_none_0 (w : World) (b : Nat) (t : Tr) (e : Int) (d : Nat) (s : ByteArray) (h : TrAt w b t) (hd : 1 ≤ d ∧ d ≤ 9) (he : e = 0) (hq : d ≠ 3 ∧ d ≠ 4) (hs1 : (!s.toList.isEmpty) = true) (hs2 : s.toList.isEmpty = false) :
    Calls Try.prog 12 #[.pointer (some ⟨b, 0, none⟩), .agg #[.int .i64 e, .int .u8 (d : Int), .string s]] w (DoPost w b 2 t) := by
  have h3 : ((d : Int) == 3) = false := by simp; omega
  have h4 : ((d : Int) == 4) = false := by simp; omega
  have He := Lib.hid he
  clear he
  have hb0 : Below w.heap.size w w := Below.refl _ _
  have HB := Lib.hid hb0
  clear hb0
  have Ht := Lib.hid h
  have hlt := h.lt
  clear h
  go_enter Try.func12, Try.ntmps12
  go_wp2_with fail
  have hx := Blk.new w 36 #[.int .i64 e, .int .u8 (d : Int), .string s]
  have ht := Blk.alloc Ht.out (.cells #[.int .i64 e, .int .u8 (d : Int), .string s] 36)
  clear Ht
  have hB := HB.out.alloc HB.out.size (.cells #[.int .i64 e, .int .u8 (d : Int), .string s] 36)
  clear HB
  obtain ⟨gx, hge⟩ : ∃ g, g = w.heap.size := ⟨_, rfl⟩
  rw [← hge] at hx ⊢
  clear hge
  generalize w.alloc _ = wn1 at *
  have Ht := Lib.hid ht
  clear ht
  have Hx := Lib.hid hx
  clear hx
  have HB := Lib.hid hB
  clear hB
  have c13 := Ht.out.cell 13
  simp [trC] at c13
  have hn := none_at wn1 b c13
  (with_reducible refine hn.mono ?_)
  clear hn c13
  rintro r w' ⟨rfl, rfl⟩
  have hx := Hx.out
  have k0 : ∀ y : Cls (KeepS wn1 gx 36 #[.int .i64 e, .int .u8 (d : Int), .string s]), y.w.cell? ⟨gx, 0, none⟩ = some (.int .i64 e) := fun y => y.h.2.cell 0
  have k1 : ∀ y : Cls (KeepS wn1 gx 36 #[.int .i64 e, .int .u8 (d : Int), .string s]), y.w.cell? ⟨gx, 1, none⟩ = some (.int .u8 (d : Int)) := fun y => y.h.2.cell 1
  have k2 : ∀ y : Cls (KeepS wn1 gx 36 #[.int .i64 e, .int .u8 (d : Int), .string s]), y.w.cell? ⟨gx, 2, none⟩ = some (.string s) := fun y => y.h.2.cell 2
  have hS0 : KeepS wn1 gx 36 #[.int .i64 e, .int .u8 (d : Int), .string s] wn1 := ⟨Below.refl _ _, hx⟩
  have hlt1 : b < wn1.heap.size := Nat.lt_of_lt_of_le hlt HB.out.size
  have ne : Nonempty (Cls (KeepS wn1 gx 36 #[.int .i64 e, .int .u8 (d : Int), .string s])) := ⟨⟨wn1, hS0⟩⟩
  have cf : ∀ (vals : Array Value) (w : World), (callFunc 31 vals).run Try.prog w = .ok (.enter 31 vals) w := fun _ _ => by kernel_rfl
  have Cf := Lib.hid cf
  clear cf
  have Hx := Lib.hid hx
  clear hx
  clear Hx
  go_upto_region 3 with fail
  refine wp_region_flow 11 (KeepS wn1 gx 36 #[.int .i64 e, .int .u8 (d : Int), .string s]) (fun w w' => Below w.heap.size w w') (by kernel_rfl) (by kernel_rfl) (by kernel_rfl) (fun w => Below.refl _ _) hS0.drew ?_
  simp only [List.take_succ_cons, List.take_zero, List.drop_succ_cons, List.drop_zero]
  repeat (refine flow_quiet (fun w => Below.refl _ _) rfl rfl rfl rfl ?_; intro K hK; go_big_quiet_op; go_big_quiet_on)
  refine flow_callF (RuleMap b e d s) RuleMap.of Cf.out #[.pointer (some ⟨b, 0, none⟩), .agg #[.int .i64 e, .int .u8 (d : Int), .string s]] ?_ rfl ?_ rfl rfl wn1 ?_
  · simp only [List.map_toArray, List.map_cons, List.map_nil]; rfl
  · exact fun x => (rules_at x.w b e (d : Int) s).mono fun r w' ⟨g, hr, h1, h2⟩ => ⟨_, hr, ⟨_, g, rfl, Nat.lt_of_lt_of_le hlt1 x.h.1.size, h1⟩, KeepS.below _ _ x.h h2, h2⟩
  intro K hK; go_big_quiet_op; go_big_quiet_on
  repeat (refine flow_quiet (fun w => Below.refl _ _) rfl rfl rfl rfl ?_; intro K hK; go_big_quiet_op; go_big_quiet_on)
  refine flow_fact (RuleTup b e d s) RuleTup.of ?_ rfl rfl wn1 ?_
  · intro w f hS hN
    obtain ⟨n, g, hl, hbn, hr⟩ := known_at hN 0 rfl rfl
    obtain ⟨c, hrun, hdo⟩ := hr.hit hbn hd
    injection hl with hl
    unfold gives
    simp only [execOp, Sem.run_bind]
    rw [fill_eval (y := 15) (by simp) (by simp), fill_eval_out (y := 17) (by simp), hl]
    simp only [Act.eval, Array.getD_eq_getD_getElem?, List.getElem?_toArray, List.getElem?_cons_succ, List.getElem?_cons_zero, Option.getD_some]
    rw [hrun]
    exact ⟨⟨c, rfl, hdo⟩, hS, Below.refl _ _⟩
  intro K hK; go_big_quiet_op; go_big_quiet_on
  refine flow_move (fun _ => rfl) 0 rfl rfl rfl (by simp) RuleTup.of (fun w => Below.refl _ _) rfl rfl wn1 ?_
  intro K hK; go_big_quiet_op; go_big_quiet_on
  refine flow_extract (RuleClo b e d s) 0 rfl rfl rfl (by simp) RuleClo.of (fun w => Below.refl _ _) ?_ rfl rfl wn1 ?_
  · rintro u W ⟨c, hc, h⟩
    injection hc with hc
    subst hc
    exact ⟨c, rfl, c, rfl, h⟩
  intro K hK; go_big_quiet_op; go_big_quiet_on
  refine flow_extractV (.bool true) 1 rfl rfl rfl (by simp) (fun w => Below.refl _ _) ?_ rfl rfl wn1 ?_
  · rintro u W ⟨c, hc, h⟩
    injection hc with hc
    subst hc
    rfl
  intro K hK; go_big_quiet_op; go_big_quiet_on
  refine flow_move (fun _ => rfl) 0 rfl rfl rfl (by simp) RuleClo.of (fun w => Below.refl _ _) rfl rfl wn1 ?_
  intro K hK; go_big_quiet_op; go_big_quiet_on
  repeat (refine flow_quiet (fun w => Below.refl _ _) rfl rfl rfl rfl ?_; intro K hK; go_big_quiet_op; go_big_quiet_on)
  refine flow_nil ?_
  intro W f hW hF
  obtain ⟨c, hc, hdo⟩ := hF _ List.mem_cons_self
  simp only [fillW, Act.put, List.setIfInBounds_toArray, List.set_cons_succ, List.set_cons_zero]
  injection hc with hc
  generalize f 5 = z5 at *
  generalize f 12 = z12 at *
  generalize f 15 = z15 at *
  generalize f 18 = z18 at *
  generalize f 19 = z19 at *
  clear hF
  have hT : TrAt W b t := Ht.out.below hW.1 Ht.out.lt
  have hBW := HB.out.trans (hW.1.mono HB.out.size)
  have q0 := hW.2.cell 0
  have q1 := hW.2.cell 1
  have q2 := hW.2.cell 2
  simp at q0 q1 q2
  clear k0 k1 k2 hS0 ne Cf Ht HB hlt1
  have HT := Lib.hid hT
  clear hT
  have HBW := Lib.hid hBW
  clear hBW
  have Hdo := Lib.hid hdo
  clear hdo
  clear hW Hx
  subst hc
  have he := He.out
  clear He
  subst he
  go_wp2
  all_goals
    go_ret
    exact ⟨rfl, HT.out, only_of_below HBW.out _⟩

theorem do_text_1 (w : World) (b : Nat) (t : Tr) (e : Int) (d : Nat) (h : TrAt w b t) (hd : 1 ≤ d ∧ d ≤ 9) (he : e = 1) (hq : d = 3 ∨ d = 4) (s : ByteArray) (hs1 : s.toList = []) :
    Calls Try.prog 12 #[.pointer (some ⟨b, 0, none⟩), .agg #[.int .i64 e, .int .u8 (d : Int), .string s]] w (DoPost w b 2 t) := by
  have h34 : ((d : Int) == 3 || (d : Int) == 4) = true := by simp; omega
  have He := Lib.hid he
  clear he
  have Hs1 := Lib.hid hs1
  clear hs1
  have hb0 : Below w.heap.size w w := Below.refl _ _
  have HB := Lib.hid hb0
  clear hb0
  have Ht := Lib.hid h
  have hlt := h.lt
  clear h
  go_enter Try.func12, Try.ntmps12
  go_wp2_with fail
  have hx := Blk.new w 36 #[.int .i64 e, .int .u8 (d : Int), .string s]
  have ht := Blk.alloc Ht.out (.cells #[.int .i64 e, .int .u8 (d : Int), .string s] 36)
  clear Ht
  have hB := HB.out.alloc HB.out.size (.cells #[.int .i64 e, .int .u8 (d : Int), .string s] 36)
  clear HB
  obtain ⟨gx, hge⟩ : ∃ g, g = w.heap.size := ⟨_, rfl⟩
  rw [← hge] at hx ⊢
  clear hge
  generalize w.alloc _ = wn1 at *
  have Ht := Lib.hid ht
  clear ht
  have Hx := Lib.hid hx
  clear hx
  have HB := Lib.hid hB
  clear hB
  have c13 := Ht.out.cell 13
  simp [trC] at c13
  have hn := none_at wn1 b c13
  (with_reducible refine hn.mono ?_)
  clear hn c13
  rintro r w' ⟨rfl, rfl⟩
  have hx := Hx.out
  have k0 : ∀ y : Cls (KeepS wn1 gx 36 #[.int .i64 e, .int .u8 (d : Int), .string s]), y.w.cell? ⟨gx, 0, none⟩ = some (.int .i64 e) := fun y => y.h.2.cell 0
  have k1 : ∀ y : Cls (KeepS wn1 gx 36 #[.int .i64 e, .int .u8 (d : Int), .string s]), y.w.cell? ⟨gx, 1, none⟩ = some (.int .u8 (d : Int)) := fun y => y.h.2.cell 1
  have k2 : ∀ y : Cls (KeepS wn1 gx 36 #[.int .i64 e, .int .u8 (d : Int), .string s]), y.w.cell? ⟨gx, 2, none⟩ = some (.string s) := fun y => y.h.2.cell 2
  have hS0 : KeepS wn1 gx 36 #[.int .i64 e, .int .u8 (d : Int), .string s] wn1 := ⟨Below.refl _ _, hx⟩
  have hlt1 : b < wn1.heap.size := Nat.lt_of_lt_of_le hlt HB.out.size
  have ne : Nonempty (Cls (KeepS wn1 gx 36 #[.int .i64 e, .int .u8 (d : Int), .string s])) := ⟨⟨wn1, hS0⟩⟩
  have cf : ∀ (vals : Array Value) (w : World), (callFunc 31 vals).run Try.prog w = .ok (.enter 31 vals) w := fun _ _ => by kernel_rfl
  have Cf := Lib.hid cf
  clear cf
  have Hx := Lib.hid hx
  clear hx
  clear Hx
  go_upto_region 3 with fail
  refine wp_region_flow 11 (KeepS wn1 gx 36 #[.int .i64 e, .int .u8 (d : Int), .string s]) (fun w w' => Below w.heap.size w w') (by kernel_rfl) (by kernel_rfl) (by kernel_rfl) (fun w => Below.refl _ _) hS0.drew ?_
  simp only [List.take_succ_cons, List.take_zero, List.drop_succ_cons, List.drop_zero]
  repeat (refine flow_quiet (fun w => Below.refl _ _) rfl rfl rfl rfl ?_; intro K hK; go_big_quiet_op; go_big_quiet_on)
  refine flow_callF (RuleMap b e d s) RuleMap.of Cf.out #[.pointer (some ⟨b, 0, none⟩), .agg #[.int .i64 e, .int .u8 (d : Int), .string s]] ?_ rfl ?_ rfl rfl wn1 ?_
  · simp only [List.map_toArray, List.map_cons, List.map_nil]; rfl
  · exact fun x => (rules_at x.w b e (d : Int) s).mono fun r w' ⟨g, hr, h1, h2⟩ => ⟨_, hr, ⟨_, g, rfl, Nat.lt_of_lt_of_le hlt1 x.h.1.size, h1⟩, KeepS.below _ _ x.h h2, h2⟩
  intro K hK; go_big_quiet_op; go_big_quiet_on
  repeat (refine flow_quiet (fun w => Below.refl _ _) rfl rfl rfl rfl ?_; intro K hK; go_big_quiet_op; go_big_quiet_on)
  refine flow_fact (RuleTup b e d s) RuleTup.of ?_ rfl rfl wn1 ?_
  · intro w f hS hN
    obtain ⟨n, g, hl, hbn, hr⟩ := known_at hN 0 rfl rfl
    obtain ⟨c, hrun, hdo⟩ := hr.hit hbn hd
    injection hl with hl
    unfold gives
    simp only [execOp, Sem.run_bind]
    rw [fill_eval (y := 15) (by simp) (by simp), fill_eval_out (y := 17) (by simp), hl]
    simp only [Act.eval, Array.getD_eq_getD_getElem?, List.getElem?_toArray, List.getElem?_cons_succ, List.getElem?_cons_zero, Option.getD_some]
    rw [hrun]
    exact ⟨⟨c, rfl, hdo⟩, hS, Below.refl _ _⟩
  intro K hK; go_big_quiet_op; go_big_quiet_on
  refine flow_move (fun _ => rfl) 0 rfl rfl rfl (by simp) RuleTup.of (fun w => Below.refl _ _) rfl rfl wn1 ?_
  intro K hK; go_big_quiet_op; go_big_quiet_on
  refine flow_extract (RuleClo b e d s) 0 rfl rfl rfl (by simp) RuleClo.of (fun w => Below.refl _ _) ?_ rfl rfl wn1 ?_
  · rintro u W ⟨c, hc, h⟩
    injection hc with hc
    subst hc
    exact ⟨c, rfl, c, rfl, h⟩
  intro K hK; go_big_quiet_op; go_big_quiet_on
  refine flow_extractV (.bool true) 1 rfl rfl rfl (by simp) (fun w => Below.refl _ _) ?_ rfl rfl wn1 ?_
  · rintro u W ⟨c, hc, h⟩
    injection hc with hc
    subst hc
    rfl
  intro K hK; go_big_quiet_op; go_big_quiet_on
  refine flow_move (fun _ => rfl) 0 rfl rfl rfl (by simp) RuleClo.of (fun w => Below.refl _ _) rfl rfl wn1 ?_
  intro K hK; go_big_quiet_op; go_big_quiet_on
  repeat (refine flow_quiet (fun w => Below.refl _ _) rfl rfl rfl rfl ?_; intro K hK; go_big_quiet_op; go_big_quiet_on)
  refine flow_nil ?_
  intro W f hW hF
  obtain ⟨c, hc, hdo⟩ := hF _ List.mem_cons_self
  simp only [fillW, Act.put, List.setIfInBounds_toArray, List.set_cons_succ, List.set_cons_zero]
  injection hc with hc
  generalize f 5 = z5 at *
  generalize f 12 = z12 at *
  generalize f 15 = z15 at *
  generalize f 18 = z18 at *
  generalize f 19 = z19 at *
  clear hF
  have hT : TrAt W b t := Ht.out.below hW.1 Ht.out.lt
  have hBW := HB.out.trans (hW.1.mono HB.out.size)
  have q0 := hW.2.cell 0
  have q1 := hW.2.cell 1
  have q2 := hW.2.cell 2
  simp at q0 q1 q2
  clear k0 k1 k2 hS0 ne Cf Ht HB hlt1
  have HT := Lib.hid hT
  clear hT
  have HBW := Lib.hid hBW
  clear hBW
  have Hdo := Lib.hid hdo
  clear hdo
  clear hW Hx
  subst hc
  have he := He.out
  have hs1 := Hs1.out
  clear He Hs1
  subst he
  have hs2 : s.toList.isEmpty = true := by rw [hs1]; rfl
  go_wp2
  all_goals
    go_ret
    exact ⟨rfl, HT.out, only_of_below HBW.out _⟩
theorem do_none_1 (w : World) (b : Nat) (t : Tr) (e : Int) (d : Nat) (s : ByteArray) (h : TrAt w b t) (hd : 1 ≤ d ∧ d ≤ 9) (he : e = 1) (hq : d ≠ 3 ∧ d ≠ 4) (hs1 : (!s.toList.isEmpty) = true) (hs2 : s.toList.isEmpty = false) :
    Calls Try.prog 12 #[.pointer (some ⟨b, 0, none⟩), .agg #[.int .i64 e, .int .u8 (d : Int), .string s]] w (DoPost w b 2 t) := by
  have h3 : ((d : Int) == 3) = false := by simp; omega
  have h4 : ((d : Int) == 4) = false := by simp; omega
  have He := Lib.hid he
  clear he
  have hb0 : Below w.heap.size w w := Below.refl _ _
  have HB := Lib.hid hb0
  clear hb0
  have Ht := Lib.hid h
  have hlt := h.lt
  clear h
  go_enter Try.func12, Try.ntmps12
  go_wp2_with fail
  have hx := Blk.new w 36 #[.int .i64 e, .int .u8 (d : Int), .string s]
  have ht := Blk.alloc Ht.out (.cells #[.int .i64 e, .int .u8 (d : Int), .string s] 36)
  clear Ht
  have hB := HB.out.alloc HB.out.size (.cells #[.int .i64 e, .int .u8 (d : Int), .string s] 36)
  clear HB
  obtain ⟨gx, hge⟩ : ∃ g, g = w.heap.size := ⟨_, rfl⟩
  rw [← hge] at hx ⊢
  clear hge
  generalize w.alloc _ = wn1 at *
  have Ht := Lib.hid ht
  clear ht
  have Hx := Lib.hid hx
  clear hx
  have HB := Lib.hid hB
  clear hB
  have c13 := Ht.out.cell 13
  simp [trC] at c13
  have hn := none_at wn1 b c13
  (with_reducible refine hn.mono ?_)
  clear hn c13
  rintro r w' ⟨rfl, rfl⟩
  have hx := Hx.out
  have k0 : ∀ y : Cls (KeepS wn1 gx 36 #[.int .i64 e, .int .u8 (d : Int), .string s]), y.w.cell? ⟨gx, 0, none⟩ = some (.int .i64 e) := fun y => y.h.2.cell 0
  have k1 : ∀ y : Cls (KeepS wn1 gx 36 #[.int .i64 e, .int .u8 (d : Int), .string s]), y.w.cell? ⟨gx, 1, none⟩ = some (.int .u8 (d : Int)) := fun y => y.h.2.cell 1
  have k2 : ∀ y : Cls (KeepS wn1 gx 36 #[.int .i64 e, .int .u8 (d : Int), .string s]), y.w.cell? ⟨gx, 2, none⟩ = some (.string s) := fun y => y.h.2.cell 2
  have hS0 : KeepS wn1 gx 36 #[.int .i64 e, .int .u8 (d : Int), .string s] wn1 := ⟨Below.refl _ _, hx⟩
  have hlt1 : b < wn1.heap.size := Nat.lt_of_lt_of_le hlt HB.out.size
  have ne : Nonempty (Cls (KeepS wn1 gx 36 #[.int .i64 e, .int .u8 (d : Int), .string s])) := ⟨⟨wn1, hS0⟩⟩
  have cf : ∀ (vals : Array Value) (w : World), (callFunc 31 vals).run Try.prog w = .ok (.enter 31 vals) w := fun _ _ => by kernel_rfl
  have Cf := Lib.hid cf
  clear cf
  have Hx := Lib.hid hx
  clear hx
  clear Hx
  go_upto_region 3 with fail
  refine wp_region_flow 11 (KeepS wn1 gx 36 #[.int .i64 e, .int .u8 (d : Int), .string s]) (fun w w' => Below w.heap.size w w') (by kernel_rfl) (by kernel_rfl) (by kernel_rfl) (fun w => Below.refl _ _) hS0.drew ?_
  simp only [List.take_succ_cons, List.take_zero, List.drop_succ_cons, List.drop_zero]
  repeat (refine flow_quiet (fun w => Below.refl _ _) rfl rfl rfl rfl ?_; intro K hK; go_big_quiet_op; go_big_quiet_on)
  refine flow_callF (RuleMap b e d s) RuleMap.of Cf.out #[.pointer (some ⟨b, 0, none⟩), .agg #[.int .i64 e, .int .u8 (d : Int), .string s]] ?_ rfl ?_ rfl rfl wn1 ?_
  · simp only [List.map_toArray, List.map_cons, List.map_nil]; rfl
  · exact fun x => (rules_at x.w b e (d : Int) s).mono fun r w' ⟨g, hr, h1, h2⟩ => ⟨_, hr, ⟨_, g, rfl, Nat.lt_of_lt_of_le hlt1 x.h.1.size, h1⟩, KeepS.below _ _ x.h h2, h2⟩
  intro K hK; go_big_quiet_op; go_big_quiet_on
  repeat (refine flow_quiet (fun w => Below.refl _ _) rfl rfl rfl rfl ?_; intro K hK; go_big_quiet_op; go_big_quiet_on)
  refine flow_fact (RuleTup b e d s) RuleTup.of ?_ rfl rfl wn1 ?_
  · intro w f hS hN
    obtain ⟨n, g, hl, hbn, hr⟩ := known_at hN 0 rfl rfl
    obtain ⟨c, hrun, hdo⟩ := hr.hit hbn hd
    injection hl with hl
    unfold gives
    simp only [execOp, Sem.run_bind]
    rw [fill_eval (y := 15) (by simp) (by simp), fill_eval_out (y := 17) (by simp), hl]
    simp only [Act.eval, Array.getD_eq_getD_getElem?, List.getElem?_toArray, List.getElem?_cons_succ, List.getElem?_cons_zero, Option.getD_some]
    rw [hrun]
    exact ⟨⟨c, rfl, hdo⟩, hS, Below.refl _ _⟩
  intro K hK; go_big_quiet_op; go_big_quiet_on
  refine flow_move (fun _ => rfl) 0 rfl rfl rfl (by simp) RuleTup.of (fun w => Below.refl _ _) rfl rfl wn1 ?_
  intro K hK; go_big_quiet_op; go_big_quiet_on
  refine flow_extract (RuleClo b e d s) 0 rfl rfl rfl (by simp) RuleClo.of (fun w => Below.refl _ _) ?_ rfl rfl wn1 ?_
  · rintro u W ⟨c, hc, h⟩
    injection hc with hc
    subst hc
    exact ⟨c, rfl, c, rfl, h⟩
  intro K hK; go_big_quiet_op; go_big_quiet_on
  refine flow_extractV (.bool true) 1 rfl rfl rfl (by simp) (fun w => Below.refl _ _) ?_ rfl rfl wn1 ?_
  · rintro u W ⟨c, hc, h⟩
    injection hc with hc
    subst hc
    rfl
  intro K hK; go_big_quiet_op; go_big_quiet_on
  refine flow_move (fun _ => rfl) 0 rfl rfl rfl (by simp) RuleClo.of (fun w => Below.refl _ _) rfl rfl wn1 ?_
  intro K hK; go_big_quiet_op; go_big_quiet_on
  repeat (refine flow_quiet (fun w => Below.refl _ _) rfl rfl rfl rfl ?_; intro K hK; go_big_quiet_op; go_big_quiet_on)
  refine flow_nil ?_
  intro W f hW hF
  obtain ⟨c, hc, hdo⟩ := hF _ List.mem_cons_self
  simp only [fillW, Act.put, List.setIfInBounds_toArray, List.set_cons_succ, List.set_cons_zero]
  injection hc with hc
  generalize f 5 = z5 at *
  generalize f 12 = z12 at *
  generalize f 15 = z15 at *
  generalize f 18 = z18 at *
  generalize f 19 = z19 at *
  clear hF
  have hT : TrAt W b t := Ht.out.below hW.1 Ht.out.lt
  have hBW := HB.out.trans (hW.1.mono HB.out.size)
  have q0 := hW.2.cell 0
  have q1 := hW.2.cell 1
  have q2 := hW.2.cell 2
  simp at q0 q1 q2
  clear k0 k1 k2 hS0 ne Cf Ht HB hlt1
  have HT := Lib.hid hT
  clear hT
  have HBW := Lib.hid hBW
  clear hBW
  have Hdo := Lib.hid hdo
  clear hdo
  clear hW Hx
  subst hc
  have he := He.out
  clear He
  subst he
  go_wp2
  all_goals
    go_ret
    exact ⟨rfl, HT.out, only_of_below HBW.out _⟩
end Go.Proofs.Ytcdbbdjabccjdaa
