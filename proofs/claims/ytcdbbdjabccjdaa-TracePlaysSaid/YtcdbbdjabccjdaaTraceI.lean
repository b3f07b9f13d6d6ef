/- Layer 31 (trace): Do, where bytes are written. -/
import Derived.Test.YtcdbbdjabccjdaaTraceG
set_option linter.unusedVariables false
set_option linter.unusedSimpArgs false
namespace Go.Proofs.Ytcdbbdjabccjdaa
open Go.RowKit Go.BigFrame Go.ChangeMaps


set_option maxHeartbeats 400000 in
theorem do_write_dead_0 (w : World) (b : Nat) (t t' : Tr) (e : Int) (d : Nat) (s : ByteArray) (h : TrAt w b t) (ho : Okt t s) (hd : 1 ≤ d ∧ d ≤ 9) (he : e = 0) (hq : d = 3) (hs1 : (!s.toList.isEmpty) = true) (hs2 : s.toList.isEmpty = false) (hl : t.s0.live = false) (hr : ruleM d 0 t s = none) :
    Calls Try.prog 12 #[.pointer (some ⟨b, 0, none⟩), .agg #[.int .i64 e, .int .u8 (d : Int), .string s]] w (DoPost w b 3 t) := by
  obtain ⟨o0, o1, o2, o3, o4⟩ := ho
  have ho : Okt t s := ⟨o0, o1, o2, o3, o4⟩
  have h4 : ((d : Int) == 4) = false := by simp; omega
  have h3 : ((d : Int) == 3) = true := by simp; omega
  clear hq
  have Hl := Lib.hid hl
  clear hl
  have Hr := Lib.hid hr
  clear hr
  have He := Lib.hid he
  clear he
  have Ho := Lib.hid ho
  clear ho
  have hb0 : Below w.heap.size w w := Below.refl _ _
  have HB := Lib.hid hb0
  clear hb0
  have Ht := Lib.hid h
  have hlt := h.lt
  clear h
  go_enter Try.func12, Try.ntmps12
  go_wp2_with fail
  have hx := Blk.new w 36 #[.int .i64 e, .int .u8 (d : Int), .string s]
  have ht := Blk.alloc Ht.out (.cells #[.int .i64 e, .int .u8 (d : Int), .string s] 36)
  clear Ht
  have hB := HB.out.alloc HB.out.size (.cells #[.int .i64 e, .int .u8 (d : Int), .string s] 36)
  clear HB
  obtain ⟨gx, hge⟩ : ∃ g, g = w.heap.size := ⟨_, rfl⟩
  rw [← hge] at hx ⊢
  clear hge
  generalize w.alloc _ = wn1 at *
  have Ht := Lib.hid ht
  clear ht
  have Hx := Lib.hid hx
  clear hx
  have HB := Lib.hid hB
  clear hB
  have c13 := Ht.out.cell 13
  simp [trC] at c13
  have hn := none_at wn1 b c13
  (with_reducible refine hn.mono ?_)
  clear hn c13
  rintro r w' ⟨rfl, rfl⟩
  have hx := Hx.out
  have k0 : ∀ y : Cls (KeepS wn1 gx 36 #[.int .i64 e, .int .u8 (d : Int), .string s]), y.w.cell? ⟨gx, 0, none⟩ = some (.int .i64 e) := fun y => y.h.2.cell 0
  have k1 : ∀ y : Cls (KeepS wn1 gx 36 #[.int .i64 e, .int .u8 (d : Int), .string s]), y.w.cell? ⟨gx, 1, none⟩ = some (.int .u8 (d : Int)) := fun y => y.h.2.cell 1
  have k2 : ∀ y : Cls (KeepS wn1 gx 36 #[.int .i64 e, .int .u8 (d : Int), .string s]), y.w.cell? ⟨gx, 2, none⟩ = some (.string s) := fun y => y.h.2.cell 2
  have hS0 : KeepS wn1 gx 36 #[.int .i64 e, .int .u8 (d : Int), .string s] wn1 := ⟨Below.refl _ _, hx⟩
  have hlt1 : b < wn1.heap.size := Nat.lt_of_lt_of_le hlt HB.out.size
  have ne : Nonempty (Cls (KeepS wn1 gx 36 #[.int .i64 e, .int .u8 (d : Int), .string s])) := ⟨⟨wn1, hS0⟩⟩
  have cf : ∀ (vals : Array Value) (w : World), (callFunc 31 vals).run Try.prog w = .ok (.enter 31 vals) w := fun _ _ => by kernel_rfl
  have Cf := Lib.hid cf
  clear cf
  have Hx := Lib.hid hx
  clear hx
  clear Hx
  go_upto_region 3 with fail
  refine wp_region_flow 11 (KeepS wn1 gx 36 #[.int .i64 e, .int .u8 (d : Int), .string s]) (fun w w' => Below w.heap.size w w') (by kernel_rfl) (by kernel_rfl) (by kernel_rfl) (fun w => Below.refl _ _) hS0.drew ?_
  simp only [List.take_succ_cons, List.take_zero, List.drop_succ_cons, List.drop_zero]
  repeat (refine flow_quiet (fun w => Below.refl _ _) rfl rfl rfl rfl ?_; intro K hK; go_big_quiet_op; go_big_quiet_on)
  refine flow_callF (RuleMap b e d s) RuleMap.of Cf.out #[.pointer (some ⟨b, 0, none⟩), .agg #[.int .i64 e, .int .u8 (d : Int), .string s]] ?_ rfl ?_ rfl rfl wn1 ?_
  · simp only [List.map_toArray, List.map_cons, List.map_nil]; rfl
  · exact fun x => (rules_at x.w b e (d : Int) s).mono fun r w' ⟨g, hr, h1, h2⟩ => ⟨_, hr, ⟨_, g, rfl, Nat.lt_of_lt_of_le hlt1 x.h.1.size, h1⟩, KeepS.below _ _ x.h h2, h2⟩
  intro K hK; go_big_quiet_op; go_big_quiet_on
  repeat (refine flow_quiet (fun w => Below.refl _ _) rfl rfl rfl rfl ?_; intro K hK; go_big_quiet_op; go_big_quiet_on)
  refine flow_fact (RuleTup b e d s) RuleTup.of ?_ rfl rfl wn1 ?_
  · intro w f hS hN
    obtain ⟨n, g, hl, hbn, hr⟩ := known_at hN 0 rfl rfl
    obtain ⟨c, hrun, hdo⟩ := hr.hit hbn hd
    injection hl with hl
    unfold gives
    simp only [execOp, Sem.run_bind]
    rw [fill_eval (y := 15) (by simp) (by simp), fill_eval_out (y := 17) (by simp), hl]
    simp only [Act.eval, Array.getD_eq_getD_getElem?, List.getElem?_toArray, List.getElem?_cons_succ, List.getElem?_cons_zero, Option.getD_some]
    rw [hrun]
    exact ⟨⟨c, rfl, hdo⟩, hS, Below.refl _ _⟩
  intro K hK; go_big_quiet_op; go_big_quiet_on
  refine flow_move (fun _ => rfl) 0 rfl rfl rfl (by simp) RuleTup.of (fun w => Below.refl _ _) rfl rfl wn1 ?_
  intro K hK; go_big_quiet_op; go_big_quiet_on
  refine flow_extract (RuleClo b e d s) 0 rfl rfl rfl (by simp) RuleClo.of (fun w => Below.refl _ _) ?_ rfl rfl wn1 ?_
  · rintro u W ⟨c, hc, h⟩
    injection hc with hc
    subst hc
    exact ⟨c, rfl, c, rfl, h⟩
  intro K hK; go_big_quiet_op; go_big_quiet_on
  refine flow_extractV (.bool true) 1 rfl rfl rfl (by simp) (fun w => Below.refl _ _) ?_ rfl rfl wn1 ?_
  · rintro u W ⟨c, hc, h⟩
    injection hc with hc
    subst hc
    rfl
  intro K hK; go_big_quiet_op; go_big_quiet_on
  refine flow_move (fun _ => rfl) 0 rfl rfl rfl (by simp) RuleClo.of (fun w => Below.refl _ _) rfl rfl wn1 ?_
  intro K hK; go_big_quiet_op; go_big_quiet_on
  repeat (refine flow_quiet (fun w => Below.refl _ _) rfl rfl rfl rfl ?_; intro K hK; go_big_quiet_op; go_big_quiet_on)
  refine flow_nil ?_
  intro W f hW hF
  obtain ⟨c, hc, hdo⟩ := hF _ List.mem_cons_self
  simp only [fillW, Act.put, List.setIfInBounds_toArray, List.set_cons_succ, List.set_cons_zero]
  injection hc with hc
  generalize f 5 = z5 at *
  generalize f 12 = z12 at *
  generalize f 15 = z15 at *
  generalize f 18 = z18 at *
  generalize f 19 = z19 at *
  clear hF
  have hT : TrAt W b t := Ht.out.below hW.1 Ht.out.lt
  have hBW := HB.out.trans (hW.1.mono HB.out.size)
  have q0 := hW.2.cell 0
  have q1 := hW.2.cell 1
  have q2 := hW.2.cell 2
  simp at q0 q1 q2
  clear k0 k1 k2 hS0 ne Cf Ht HB hlt1
  have HT := Lib.hid hT
  clear hT
  have HBW := Lib.hid hBW
  clear hBW
  have Hdo := Lib.hid hdo
  clear hdo
  clear hW Hx
  subst hc
  obtain ⟨fc, cap, hcl, hcf, hrun⟩ := Hdo.out 0 (by omega) He.out
  have he := He.out
  clear He Hdo
  subst he hcl
  have hr := Hr.out
  clear Hr
  have hR := fun n => hrun (W.drewN n) t (fun _ _ _ h => h) HT.out Ho.out
  rw [hr] at hR
  simp only [Option.isSome, Option.getD] at hR
  have HR := Lib.hid hR
  clear hR
  have Hr := Lib.hid hr
  clear hr
  clear hrun
  go_wp2
  go_quiet ((go_at_call 32; exact quiet_both (both_0 _ b)))
  go_wp2
  have c0 := HT.out.cell 0
  have c1 := HT.out.cell 1
  have c3 := HT.out.cell 3
  have c5 := HT.out.cell 5
  simp [trC] at c0 c1 c3 c5
  have hlv := fun n => live_at (W.drewN n) b 0 _ _ c0 c5
  rw [show (t.s0.opn && !t.s0.dd) = false from Hl.out] at hlv
  have Hlv := Lib.hid hlv
  clear hlv c0 c5
  go_quiet ((go_at_call 33; exact quiet_add_left (Hlv.out _)))
  go_wp2_with fail
  refine (HR.out _).mono ?_
  rintro r w' ⟨rfl, h1, h2⟩
  go_wp2
  go_ret
  exact ⟨rfl, h1, grown_after HBW.out h2⟩

set_option maxHeartbeats 400000 in
theorem do_write_closed_0 (w : World) (b : Nat) (t t' : Tr) (e : Int) (d : Nat) (s : ByteArray) (h : TrAt w b t) (ho : Okt t s) (hd : 1 ≤ d ∧ d ≤ 9) (he : e = 0) (hq : d = 3) (hs1 : (!s.toList.isEmpty) = true) (hs2 : s.toList.isEmpty = false) (hl : t.s0.live = true) (hc0 : t.s0.cl = true) (hr : ruleM d 0 t s = none) :
    Calls Try.prog 12 #[.pointer (some ⟨b, 0, none⟩), .agg #[.int .i64 e, .int .u8 (d : Int), .string s]] w (DoPost w b 3 t) := by
  obtain ⟨o0, o1, o2, o3, o4⟩ := ho
  have ho : Okt t s := ⟨o0, o1, o2, o3, o4⟩
  have h4 : ((d : Int) == 4) = false := by simp; omega
  have h3 : ((d : Int) == 3) = true := by simp; omega
  clear hq
  have Hl := Lib.hid hl
  clear hl
  have Hr := Lib.hid hr
  clear hr
  have Hc0 := Lib.hid hc0
  clear hc0
  have He := Lib.hid he
  clear he
  have Ho := Lib.hid ho
  clear ho
  have hb0 : Below w.heap.size w w := Below.refl _ _
  have HB := Lib.hid hb0
  clear hb0
  have Ht := Lib.hid h
  have hlt := h.lt
  clear h
  go_enter Try.func12, Try.ntmps12
  go_wp2_with fail
  have hx := Blk.new w 36 #[.int .i64 e, .int .u8 (d : Int), .string s]
  have ht := Blk.alloc Ht.out (.cells #[.int .i64 e, .int .u8 (d : Int), .string s] 36)
  clear Ht
  have hB := HB.out.alloc HB.out.size (.cells #[.int .i64 e, .int .u8 (d : Int), .string s] 36)
  clear HB
  obtain ⟨gx, hge⟩ : ∃ g, g = w.heap.size := ⟨_, rfl⟩
  rw [← hge] at hx ⊢
  clear hge
  generalize w.alloc _ = wn1 at *
  have Ht := Lib.hid ht
  clear ht
  have Hx := Lib.hid hx
  clear hx
  have HB := Lib.hid hB
  clear hB
  have c13 := Ht.out.cell 13
  simp [trC] at c13
  have hn := none_at wn1 b c13
  (with_reducible refine hn.mono ?_)
  clear hn c13
  rintro r w' ⟨rfl, rfl⟩
  have hx := Hx.out
  have k0 : ∀ y : Cls (KeepS wn1 gx 36 #[.int .i64 e, .int .u8 (d : Int), .string s]), y.w.cell? ⟨gx, 0, none⟩ = some (.int .i64 e) := fun y => y.h.2.cell 0
  have k1 : ∀ y : Cls (KeepS wn1 gx 36 #[.int .i64 e, .int .u8 (d : Int), .string s]), y.w.cell? ⟨gx, 1, none⟩ = some (.int .u8 (d : Int)) := fun y => y.h.2.cell 1
  have k2 : ∀ y : Cls (KeepS wn1 gx 36 #[.int .i64 e, .int .u8 (d : Int), .string s]), y.w.cell? ⟨gx, 2, none⟩ = some (.string s) := fun y => y.h.2.cell 2
  have hS0 : KeepS wn1 gx 36 #[.int .i64 e, .int .u8 (d : Int), .string s] wn1 := ⟨Below.refl _ _, hx⟩
  have hlt1 : b < wn1.heap.size := Nat.lt_of_lt_of_le hlt HB.out.size
  have ne : Nonempty (Cls (KeepS wn1 gx 36 #[.int .i64 e, .int .u8 (d : Int), .string s])) := ⟨⟨wn1, hS0⟩⟩
  have cf : ∀ (vals : Array Value) (w : World), (callFunc 31 vals).run Try.prog w = .ok (.enter 31 vals) w := fun _ _ => by kernel_rfl
  have Cf := Lib.hid cf
  clear cf
  have Hx := Lib.hid hx
  clear hx
  clear Hx
  go_upto_region 3 with fail
  refine wp_region_flow 11 (KeepS wn1 gx 36 #[.int .i64 e, .int .u8 (d : Int), .string s]) (fun w w' => Below w.heap.size w w') (by kernel_rfl) (by kernel_rfl) (by kernel_rfl) (fun w => Below.refl _ _) hS0.drew ?_
  simp only [List.take_succ_cons, List.take_zero, List.drop_succ_cons, List.drop_zero]
  repeat (refine flow_quiet (fun w => Below.refl _ _) rfl rfl rfl rfl ?_; intro K hK; go_big_quiet_op; go_big_quiet_on)
  refine flow_callF (RuleMap b e d s) RuleMap.of Cf.out #[.pointer (some ⟨b, 0, none⟩), .agg #[.int .i64 e, .int .u8 (d : Int), .string s]] ?_ rfl ?_ rfl rfl wn1 ?_
  · simp only [List.map_toArray, List.map_cons, List.map_nil]; rfl
  · exact fun x => (rules_at x.w b e (d : Int) s).mono fun r w' ⟨g, hr, h1, h2⟩ => ⟨_, hr, ⟨_, g, rfl, Nat.lt_of_lt_of_le hlt1 x.h.1.size, h1⟩, KeepS.below _ _ x.h h2, h2⟩
  intro K hK; go_big_quiet_op; go_big_quiet_on
  repeat (refine flow_quiet (fun w => Below.refl _ _) rfl rfl rfl rfl ?_; intro K hK; go_big_quiet_op; go_big_quiet_on)
  refine flow_fact (RuleTup b e d s) RuleTup.of ?_ rfl rfl wn1 ?_
  · intro w f hS hN
    obtain ⟨n, g, hl, hbn, hr⟩ := known_at hN 0 rfl rfl
    obtain ⟨c, hrun, hdo⟩ := hr.hit hbn hd
    injection hl with hl
    unfold gives
    simp only [execOp, Sem.run_bind]
    rw [fill_eval (y := 15) (by simp) (by simp), fill_eval_out (y := 17) (by simp), hl]
    simp only [Act.eval, Array.getD_eq_getD_getElem?, List.getElem?_toArray, List.getElem?_cons_succ, List.getElem?_cons_zero, Option.getD_some]
    rw [hrun]
    exact ⟨⟨c, rfl, hdo⟩, hS, Below.refl _ _⟩
  intro K hK; go_big_quiet_op; go_big_quiet_on
  refine flow_move (fun _ => rfl) 0 rfl rfl rfl (by simp) RuleTup.of (fun w => Below.refl _ _) rfl rfl wn1 ?_
  intro K hK; go_big_quiet_op; go_big_quiet_on
  refine flow_extract (RuleClo b e d s) 0 rfl rfl rfl (by simp) RuleClo.of (fun w => Below.refl _ _) ?_ rfl rfl wn1 ?_
  · rintro u W ⟨c, hc, h⟩
    injection hc with hc
    subst hc
    exact ⟨c, rfl, c, rfl, h⟩
  intro K hK; go_big_quiet_op; go_big_quiet_on
  refine flow_extractV (.bool true) 1 rfl rfl rfl (by simp) (fun w => Below.refl _ _) ?_ rfl rfl wn1 ?_
  · rintro u W ⟨c, hc, h⟩
    injection hc with hc
    subst hc
    rfl
  intro K hK; go_big_quiet_op; go_big_quiet_on
  refine flow_move (fun _ => rfl) 0 rfl rfl rfl (by simp) RuleClo.of (fun w => Below.refl _ _) rfl rfl wn1 ?_
  intro K hK; go_big_quiet_op; go_big_quiet_on
  repeat (refine flow_quiet (fun w => Below.refl _ _) rfl rfl rfl rfl ?_; intro K hK; go_big_quiet_op; go_big_quiet_on)
  refine flow_nil ?_
  intro W f hW hF
  obtain ⟨c, hc, hdo⟩ := hF _ List.mem_cons_self
  simp only [fillW, Act.put, List.setIfInBounds_toArray, List.set_cons_succ, List.set_cons_zero]
  injection hc with hc
  generalize f 5 = z5 at *
  generalize f 12 = z12 at *
  generalize f 15 = z15 at *
  generalize f 18 = z18 at *
  generalize f 19 = z19 at *
  clear hF
  have hT : TrAt W b t := Ht.out.below hW.1 Ht.out.lt
  have hBW := HB.out.trans (hW.1.mono HB.out.size)
  have q0 := hW.2.cell 0
  have q1 := hW.2.cell 1
  have q2 := hW.2.cell 2
  simp at q0 q1 q2
  clear k0 k1 k2 hS0 ne Cf Ht HB hlt1
  have HT := Lib.hid hT
  clear hT
  have HBW := Lib.hid hBW
  clear hBW
  have Hdo := Lib.hid hdo
  clear hdo
  clear hW Hx
  subst hc
  obtain ⟨fc, cap, hcl, hcf, hrun⟩ := Hdo.out 0 (by omega) He.out
  have he := He.out
  clear He Hdo
  subst he hcl
  have hr := Hr.out
  clear Hr
  have hR := fun n => hrun (W.drewN n) t (fun _ _ _ h => h) HT.out Ho.out
  rw [hr] at hR
  simp only [Option.isSome, Option.getD] at hR
  have HR := Lib.hid hR
  clear hR
  have Hr := Lib.hid hr
  clear hr
  clear hrun
  go_wp2
  go_quiet ((go_at_call 32; exact quiet_both (both_0 _ b)))
  go_wp2
  have c0 := HT.out.cell 0
  have c1 := HT.out.cell 1
  have c3 := HT.out.cell 3
  have c5 := HT.out.cell 5
  simp [trC] at c0 c1 c3 c5
  have hlv := fun n => live_at (W.drewN n) b 0 _ _ c0 c5
  rw [show (t.s0.opn && !t.s0.dd) = true from Hl.out] at hlv
  have Hlv := Lib.hid hlv
  clear hlv c0 c5
  rw [Hc0.out] at c3
  go_quiet ((go_at_call 33; exact quiet_add_left (Hlv.out _)))
  go_wp2_with fail
  refine (HR.out _).mono ?_
  rintro r w' ⟨rfl, h1, h2⟩
  go_wp2
  go_ret
  exact ⟨rfl, h1, grown_after HBW.out h2⟩

set_option maxHeartbeats 400000 in
theorem do_write_full_0 (w : World) (b : Nat) (t t' : Tr) (e : Int) (d : Nat) (s : ByteArray) (h : TrAt w b t) (ho : Okt t s) (hd : 1 ≤ d ∧ d ≤ 9) (he : e = 0) (hq : d = 3) (hs1 : (!s.toList.isEmpty) = true) (hs2 : s.toList.isEmpty = false) (hl : t.s0.live = true) (hc0 : t.s0.cl = false) (hz : 1048576 < t.s0.wr.size + s.size) :
    Calls Try.prog 12 #[.pointer (some ⟨b, 0, none⟩), .agg #[.int .i64 e, .int .u8 (d : Int), .string s]] w (DoPost w b 6 t) := by
  obtain ⟨o0, o1, o2, o3, o4⟩ := ho
  have ho : Okt t s := ⟨o0, o1, o2, o3, o4⟩
  have h4 : ((d : Int) == 4) = false := by simp; omega
  have h3 : ((d : Int) == 3) = true := by simp; omega
  clear hq
  have Hl := Lib.hid hl
  clear hl
  have Hc0 := Lib.hid hc0
  clear hc0
  have Hz := Lib.hid hz
  clear hz
  have He := Lib.hid he
  clear he
  have Ho := Lib.hid ho
  clear ho
  have hb0 : Below w.heap.size w w := Below.refl _ _
  have HB := Lib.hid hb0
  clear hb0
  have Ht := Lib.hid h
  have hlt := h.lt
  clear h
  go_enter Try.func12, Try.ntmps12
  go_wp2_with fail
  have hx := Blk.new w 36 #[.int .i64 e, .int .u8 (d : Int), .string s]
  have ht := Blk.alloc Ht.out (.cells #[.int .i64 e, .int .u8 (d : Int), .string s] 36)
  clear Ht
  have hB := HB.out.alloc HB.out.size (.cells #[.int .i64 e, .int .u8 (d : Int), .string s] 36)
  clear HB
  obtain ⟨gx, hge⟩ : ∃ g, g = w.heap.size := ⟨_, rfl⟩
  rw [← hge] at hx ⊢
  clear hge
  generalize w.alloc _ = wn1 at *
  have Ht := Lib.hid ht
  clear ht
  have Hx := Lib.hid hx
  clear hx
  have HB := Lib.hid hB
  clear hB
  have c13 := Ht.out.cell 13
  simp [trC] at c13
  have hn := none_at wn1 b c13
  (with_reducible refine hn.mono ?_)
  clear hn c13
  rintro r w' ⟨rfl, rfl⟩
  have hx := Hx.out
  have k0 : ∀ y : Cls (KeepS wn1 gx 36 #[.int .i64 e, .int .u8 (d : Int), .string s]), y.w.cell? ⟨gx, 0, none⟩ = some (.int .i64 e) := fun y => y.h.2.cell 0
  have k1 : ∀ y : Cls (KeepS wn1 gx 36 #[.int .i64 e, .int .u8 (d : Int), .string s]), y.w.cell? ⟨gx, 1, none⟩ = some (.int .u8 (d : Int)) := fun y => y.h.2.cell 1
  have k2 : ∀ y : Cls (KeepS wn1 gx 36 #[.int .i64 e, .int .u8 (d : Int), .string s]), y.w.cell? ⟨gx, 2, none⟩ = some (.string s) := fun y => y.h.2.cell 2
  have hS0 : KeepS wn1 gx 36 #[.int .i64 e, .int .u8 (d : Int), .string s] wn1 := ⟨Below.refl _ _, hx⟩
  have hlt1 : b < wn1.heap.size := Nat.lt_of_lt_of_le hlt HB.out.size
  have ne : Nonempty (Cls (KeepS wn1 gx 36 #[.int .i64 e, .int .u8 (d : Int), .string s])) := ⟨⟨wn1, hS0⟩⟩
  have cf : ∀ (vals : Array Value) (w : World), (callFunc 31 vals).run Try.prog w = .ok (.enter 31 vals) w := fun _ _ => by kernel_rfl
  have Cf := Lib.hid cf
  clear cf
  have Hx := Lib.hid hx
  clear hx
  clear Hx
  go_upto_region 3 with fail
  refine wp_region_flow 11 (KeepS wn1 gx 36 #[.int .i64 e, .int .u8 (d : Int), .string s]) (fun w w' => Below w.heap.size w w') (by kernel_rfl) (by kernel_rfl) (by kernel_rfl) (fun w => Below.refl _ _) hS0.drew ?_
  simp only [List.take_succ_cons, List.take_zero, List.drop_succ_cons, List.drop_zero]
  repeat (refine flow_quiet (fun w => Below.refl _ _) rfl rfl rfl rfl ?_; intro K hK; go_big_quiet_op; go_big_quiet_on)
  refine flow_callF (RuleMap b e d s) RuleMap.of Cf.out #[.pointer (some ⟨b, 0, none⟩), .agg #[.int .i64 e, .int .u8 (d : Int), .string s]] ?_ rfl ?_ rfl rfl wn1 ?_
  · simp only [List.map_toArray, List.map_cons, List.map_nil]; rfl
  · exact fun x => (rules_at x.w b e (d : Int) s).mono fun r w' ⟨g, hr, h1, h2⟩ => ⟨_, hr, ⟨_, g, rfl, Nat.lt_of_lt_of_le hlt1 x.h.1.size, h1⟩, KeepS.below _ _ x.h h2, h2⟩
  intro K hK; go_big_quiet_op; go_big_quiet_on
  repeat (refine flow_quiet (fun w => Below.refl _ _) rfl rfl rfl rfl ?_; intro K hK; go_big_quiet_op; go_big_quiet_on)
  refine flow_fact (RuleTup b e d s) RuleTup.of ?_ rfl rfl wn1 ?_
  · intro w f hS hN
    obtain ⟨n, g, hl, hbn, hr⟩ := known_at hN 0 rfl rfl
    obtain ⟨c, hrun, hdo⟩ := hr.hit hbn hd
    injection hl with hl
    unfold gives
    simp only [execOp, Sem.run_bind]
    rw [fill_eval (y := 15) (by simp) (by simp), fill_eval_out (y := 17) (by simp), hl]
    simp only [Act.eval, Array.getD_eq_getD_getElem?, List.getElem?_toArray, List.getElem?_cons_succ, List.getElem?_cons_zero, Option.getD_some]
    rw [hrun]
    exact ⟨⟨c, rfl, hdo⟩, hS, Below.refl _ _⟩
  intro K hK; go_big_quiet_op; go_big_quiet_on
  refine flow_move (fun _ => rfl) 0 rfl rfl rfl (by simp) RuleTup.of (fun w => Below.refl _ _) rfl rfl wn1 ?_
  intro K hK; go_big_quiet_op; go_big_quiet_on
  refine flow_extract (RuleClo b e d s) 0 rfl rfl rfl (by simp) RuleClo.of (fun w => Below.refl _ _) ?_ rfl rfl wn1 ?_
  · rintro u W ⟨c, hc, h⟩
    injection hc with hc
    subst hc
    exact ⟨c, rfl, c, rfl, h⟩
  intro K hK; go_big_quiet_op; go_big_quiet_on
  refine flow_extractV (.bool true) 1 rfl rfl rfl (by simp) (fun w => Below.refl _ _) ?_ rfl rfl wn1 ?_
  · rintro u W ⟨c, hc, h⟩
    injection hc with hc
    subst hc
    rfl
  intro K hK; go_big_quiet_op; go_big_quiet_on
  refine flow_move (fun _ => rfl) 0 rfl rfl rfl (by simp) RuleClo.of (fun w => Below.refl _ _) rfl rfl wn1 ?_
  intro K hK; go_big_quiet_op; go_big_quiet_on
  repeat (refine flow_quiet (fun w => Below.refl _ _) rfl rfl rfl rfl ?_; intro K hK; go_big_quiet_op; go_big_quiet_on)
  refine flow_nil ?_
  intro W f hW hF
  obtain ⟨c, hc, hdo⟩ := hF _ List.mem_cons_self
  simp only [fillW, Act.put, List.setIfInBounds_toArray, List.set_cons_succ, List.set_cons_zero]
  injection hc with hc
  generalize f 5 = z5 at *
  generalize f 12 = z12 at *
  generalize f 15 = z15 at *
  generalize f 18 = z18 at *
  generalize f 19 = z19 at *
  clear hF
  have hT : TrAt W b t := Ht.out.below hW.1 Ht.out.lt
  have hBW := HB.out.trans (hW.1.mono HB.out.size)
  have q0 := hW.2.cell 0
  have q1 := hW.2.cell 1
  have q2 := hW.2.cell 2
  simp at q0 q1 q2
  clear k0 k1 k2 hS0 ne Cf Ht HB hlt1
  have HT := Lib.hid hT
  clear hT
  have HBW := Lib.hid hBW
  clear hBW
  have Hdo := Lib.hid hdo
  clear hdo
  clear hW Hx
  subst hc
  obtain ⟨fc, cap, hcl, hcf, hrun⟩ := Hdo.out 0 (by omega) He.out
  have he := He.out
  clear He Hdo
  subst he hcl
  clear hrun
  go_wp2
  go_quiet ((go_at_call 32; exact quiet_both (both_0 _ b)))
  go_wp2
  have c0 := HT.out.cell 0
  have c1 := HT.out.cell 1
  have c3 := HT.out.cell 3
  have c5 := HT.out.cell 5
  simp [trC] at c0 c1 c3 c5
  have hlv := fun n => live_at (W.drewN n) b 0 _ _ c0 c5
  rw [show (t.s0.opn && !t.s0.dd) = true from Hl.out] at hlv
  have Hlv := Lib.hid hlv
  clear hlv c0 c5
  rw [Hc0.out] at c3
  have hz := Hz.out
  have hk := Ho.out
  obtain ⟨o0, o1, o2, o3, o4⟩ := hk
  have hsum : IntKind.i64.wrap ((t.s0.wr.size : Int) + (s.size : Int)) = (t.s0.wr.size : Int) + (s.size : Int) := IntWalk.i64_in _ (by omega)
  have hcmp : decide ((1048576 : Int) < (t.s0.wr.size : Int) + (s.size : Int)) = true := by simp; omega
  clear hz o0 o1 o2 o3 o4
  go_quiet ((go_at_call 33; exact quiet_add_left (Hlv.out _)))
  go_wp2
  go_ret
  exact ⟨rfl, Blk.drewN (Blk.drewN HT.out _) _, only_drewN (only_drewN (only_of_below HBW.out _) _) _⟩

set_option maxHeartbeats 400000 in
theorem do_write_fits_0 (w : World) (b : Nat) (t t' : Tr) (e : Int) (d : Nat) (s : ByteArray) (h : TrAt w b t) (ho : Okt t s) (hd : 1 ≤ d ∧ d ≤ 9) (he : e = 0) (hq : d = 3) (hs1 : (!s.toList.isEmpty) = true) (hs2 : s.toList.isEmpty = false) (hl : t.s0.live = true) (hc0 : t.s0.cl = false) (hz : t.s0.wr.size + s.size ≤ 1048576) (hr : ruleM d 0 t s = some t') :
    Calls Try.prog 12 #[.pointer (some ⟨b, 0, none⟩), .agg #[.int .i64 e, .int .u8 (d : Int), .string s]] w (DoPost w b 0 t') := by
  obtain ⟨o0, o1, o2, o3, o4⟩ := ho
  have ho : Okt t s := ⟨o0, o1, o2, o3, o4⟩
  have h4 : ((d : Int) == 4) = false := by simp; omega
  have h3 : ((d : Int) == 3) = true := by simp; omega
  clear hq
  have Hl := Lib.hid hl
  clear hl
  have Hr := Lib.hid hr
  clear hr
  have Hc0 := Lib.hid hc0
  clear hc0
  have Hz := Lib.hid hz
  clear hz
  have He := Lib.hid he
  clear he
  have Ho := Lib.hid ho
  clear ho
  have hb0 : Below w.heap.size w w := Below.refl _ _
  have HB := Lib.hid hb0
  clear hb0
  have Ht := Lib.hid h
  have hlt := h.lt
  clear h
  go_enter Try.func12, Try.ntmps12
  go_wp2_with fail
  have hx := Blk.new w 36 #[.int .i64 e, .int .u8 (d : Int), .string s]
  have ht := Blk.alloc Ht.out (.cells #[.int .i64 e, .int .u8 (d : Int), .string s] 36)
  clear Ht
  have hB := HB.out.alloc HB.out.size (.cells #[.int .i64 e, .int .u8 (d : Int), .string s] 36)
  clear HB
  obtain ⟨gx, hge⟩ : ∃ g, g = w.heap.size := ⟨_, rfl⟩
  rw [← hge] at hx ⊢
  clear hge
  generalize w.alloc _ = wn1 at *
  have Ht := Lib.hid ht
  clear ht
  have Hx := Lib.hid hx
  clear hx
  have HB := Lib.hid hB
  clear hB
  have c13 := Ht.out.cell 13
  simp [trC] at c13
  have hn := none_at wn1 b c13
  (with_reducible refine hn.mono ?_)
  clear hn c13
  rintro r w' ⟨rfl, rfl⟩
  have hx := Hx.out
  have k0 : ∀ y : Cls (KeepS wn1 gx 36 #[.int .i64 e, .int .u8 (d : Int), .string s]), y.w.cell? ⟨gx, 0, none⟩ = some (.int .i64 e) := fun y => y.h.2.cell 0
  have k1 : ∀ y : Cls (KeepS wn1 gx 36 #[.int .i64 e, .int .u8 (d : Int), .string s]), y.w.cell? ⟨gx, 1, none⟩ = some (.int .u8 (d : Int)) := fun y => y.h.2.cell 1
  have k2 : ∀ y : Cls (KeepS wn1 gx 36 #[.int .i64 e, .int .u8 (d : Int), .string s]), y.w.cell? ⟨gx, 2, none⟩ = some (.string s) := fun y => y.h.2.cell 2
  have hS0 : KeepS wn1 gx 36 #[.int .i64 e, .int .u8 (d : Int), .string s] wn1 := ⟨Below.refl _ _, hx⟩
  have hlt1 : b < wn1.heap.size := Nat.lt_of_lt_of_le hlt HB.out.size
  have ne : Nonempty (Cls (KeepS wn1 gx 36 #[.int .i64 e, .int .u8 (d : Int), .string s])) := ⟨⟨wn1, hS0⟩⟩
  have cf : ∀ (vals : Array Value) (w : World), (callFunc 31 vals).run Try.prog w = .ok (.enter 31 vals) w := fun _ _ => by kernel_rfl
  have Cf := Lib.hid cf
  clear cf
  have Hx := Lib.hid hx
  clear hx
  clear Hx
  go_upto_region 3 with fail
  refine wp_region_flow 11 (KeepS wn1 gx 36 #[.int .i64 e, .int .u8 (d : Int), .string s]) (fun w w' => Below w.heap.size w w') (by kernel_rfl) (by kernel_rfl) (by kernel_rfl) (fun w => Below.refl _ _) hS0.drew ?_
  simp only [List.take_succ_cons, List.take_zero, List.drop_succ_cons, List.drop_zero]
  repeat (refine flow_quiet (fun w => Below.refl _ _) rfl rfl rfl rfl ?_; intro K hK; go_big_quiet_op; go_big_quiet_on)
  refine flow_callF (RuleMap b e d s) RuleMap.of Cf.out #[.pointer (some ⟨b, 0, none⟩), .agg #[.int .i64 e, .int .u8 (d : Int), .string s]] ?_ rfl ?_ rfl rfl wn1 ?_
  · simp only [List.map_toArray, List.map_cons, List.map_nil]; rfl
  · exact fun x => (rules_at x.w b e (d : Int) s).mono fun r w' ⟨g, hr, h1, h2⟩ => ⟨_, hr, ⟨_, g, rfl, Nat.lt_of_lt_of_le hlt1 x.h.1.size, h1⟩, KeepS.below _ _ x.h h2, h2⟩
  intro K hK; go_big_quiet_op; go_big_quiet_on
  repeat (refine flow_quiet (fun w => Below.refl _ _) rfl rfl rfl rfl ?_; intro K hK; go_big_quiet_op; go_big_quiet_on)
  refine flow_fact (RuleTup b e d s) RuleTup.of ?_ rfl rfl wn1 ?_
  · intro w f hS hN
    obtain ⟨n, g, hl, hbn, hr⟩ := known_at hN 0 rfl rfl
    obtain ⟨c, hrun, hdo⟩ := hr.hit hbn hd
    injection hl with hl
    unfold gives
    simp only [execOp, Sem.run_bind]
    rw [fill_eval (y := 15) (by simp) (by simp), fill_eval_out (y := 17) (by simp), hl]
    simp only [Act.eval, Array.getD_eq_getD_getElem?, List.getElem?_toArray, List.getElem?_cons_succ, List.getElem?_cons_zero, Option.getD_some]
    rw [hrun]
    exact ⟨⟨c, rfl, hdo⟩, hS, Below.refl _ _⟩
  intro K hK; go_big_quiet_op; go_big_quiet_on
  refine flow_move (fun _ => rfl) 0 rfl rfl rfl (by simp) RuleTup.of (fun w => Below.refl _ _) rfl rfl wn1 ?_
  intro K hK; go_big_quiet_op; go_big_quiet_on
  refine flow_extract (RuleClo b e d s) 0 rfl rfl rfl (by simp) RuleClo.of (fun w => Below.refl _ _) ?_ rfl rfl wn1 ?_
  · rintro u W ⟨c, hc, h⟩
    injection hc with hc
    subst hc
    exact ⟨c, rfl, c, rfl, h⟩
  intro K hK; go_big_quiet_op; go_big_quiet_on
  refine flow_extractV (.bool true) 1 rfl rfl rfl (by simp) (fun w => Below.refl _ _) ?_ rfl rfl wn1 ?_
  · rintro u W ⟨c, hc, h⟩
    injection hc with hc
    subst hc
    rfl
  intro K hK; go_big_quiet_op; go_big_quiet_on
  refine flow_move (fun _ => rfl) 0 rfl rfl rfl (by simp) RuleClo.of (fun w => Below.refl _ _) rfl rfl wn1 ?_
  intro K hK; go_big_quiet_op; go_big_quiet_on
  repeat (refine flow_quiet (fun w => Below.refl _ _) rfl rfl rfl rfl ?_; intro K hK; go_big_quiet_op; go_big_quiet_on)
  refine flow_nil ?_
  intro W f hW hF
  obtain ⟨c, hc, hdo⟩ := hF _ List.mem_cons_self
  simp only [fillW, Act.put, List.setIfInBounds_toArray, List.set_cons_succ, List.set_cons_zero]
  injection hc with hc
  generalize f 5 = z5 at *
  generalize f 12 = z12 at *
  generalize f 15 = z15 at *
  generalize f 18 = z18 at *
  generalize f 19 = z19 at *
  clear hF
  have hT : TrAt W b t := Ht.out.below hW.1 Ht.out.lt
  have hBW := HB.out.trans (hW.1.mono HB.out.size)
  have q0 := hW.2.cell 0
  have q1 := hW.2.cell 1
  have q2 := hW.2.cell 2
  simp at q0 q1 q2
  clear k0 k1 k2 hS0 ne Cf Ht HB hlt1
  have HT := Lib.hid hT
  clear hT
  have HBW := Lib.hid hBW
  clear hBW
  have Hdo := Lib.hid hdo
  clear hdo
  clear hW Hx
  subst hc
  obtain ⟨fc, cap, hcl, hcf, hrun⟩ := Hdo.out 0 (by omega) He.out
  have he := He.out
  clear He Hdo
  subst he hcl
  have hr := Hr.out
  clear Hr
  have hR := fun n => hrun (W.drewN n) t (fun _ _ _ h => h) HT.out Ho.out
  rw [hr] at hR
  simp only [Option.isSome, Option.getD] at hR
  have HR := Lib.hid hR
  clear hR
  have Hr := Lib.hid hr
  clear hr
  clear hrun
  go_wp2
  go_quiet ((go_at_call 32; exact quiet_both (both_0 _ b)))
  go_wp2
  have c0 := HT.out.cell 0
  have c1 := HT.out.cell 1
  have c3 := HT.out.cell 3
  have c5 := HT.out.cell 5
  simp [trC] at c0 c1 c3 c5
  have hlv := fun n => live_at (W.drewN n) b 0 _ _ c0 c5
  rw [show (t.s0.opn && !t.s0.dd) = true from Hl.out] at hlv
  have Hlv := Lib.hid hlv
  clear hlv c0 c5
  rw [Hc0.out] at c3
  have hz := Hz.out
  have hk := Ho.out
  obtain ⟨o0, o1, o2, o3, o4⟩ := hk
  have hsum : IntKind.i64.wrap ((t.s0.wr.size : Int) + (s.size : Int)) = (t.s0.wr.size : Int) + (s.size : Int) := IntWalk.i64_in _ (by omega)
  have hcmp : decide ((1048576 : Int) < (t.s0.wr.size : Int) + (s.size : Int)) = false := by simp; omega
  clear hz o0 o1 o2 o3 o4
  go_quiet ((go_at_call 33; exact quiet_add_left (Hlv.out _)))
  go_wp2_with fail
  refine (HR.out _).mono ?_
  rintro r w' ⟨rfl, h1, h2⟩
  go_wp2
  go_ret
  exact ⟨rfl, h1, grown_after HBW.out h2⟩

set_option maxHeartbeats 400000 in
theorem do_write_dead_1 (w : World) (b : Nat) (t t' : Tr) (e : Int) (d : Nat) (s : ByteArray) (h : TrAt w b t) (ho : Okt t s) (hd : 1 ≤ d ∧ d ≤ 9) (he : e = 1) (hq : d = 3) (hs1 : (!s.toList.isEmpty) = true) (hs2 : s.toList.isEmpty = false) (hl : t.s1.live = false) (hr : ruleM d 1 t s = none) :
    Calls Try.prog 12 #[.pointer (some ⟨b, 0, none⟩), .agg #[.int .i64 e, .int .u8 (d : Int), .string s]] w (DoPost w b 3 t) := by
  obtain ⟨o0, o1, o2, o3, o4⟩ := ho
  have ho : Okt t s := ⟨o0, o1, o2, o3, o4⟩
  have h4 : ((d : Int) == 4) = false := by simp; omega
  have h3 : ((d : Int) == 3) = true := by simp; omega
  clear hq
  have Hl := Lib.hid hl
  clear hl
  have Hr := Lib.hid hr
  clear hr
  have He := Lib.hid he
  clear he
  have Ho := Lib.hid ho
  clear ho
  have hb0 : Below w.heap.size w w := Below.refl _ _
  have HB := Lib.hid hb0
  clear hb0
  have Ht := Lib.hid h
  have hlt := h.lt
  clear h
  go_enter Try.func12, Try.ntmps12
  go_wp2_with fail
  have hx := Blk.new w 36 #[.int .i64 e, .int .u8 (d : Int), .string s]
  have ht := Blk.alloc Ht.out (.cells #[.int .i64 e, .int .u8 (d : Int), .string s] 36)
  clear Ht
  have hB := HB.out.alloc HB.out.size (.cells #[.int .i64 e, .int .u8 (d : Int), .string s] 36)
  clear HB
  obtain ⟨gx, hge⟩ : ∃ g, g = w.heap.size := ⟨_, rfl⟩
  rw [← hge] at hx ⊢
  clear hge
  generalize w.alloc _ = wn1 at *
  have Ht := Lib.hid ht
  clear ht
  have Hx := Lib.hid hx
  clear hx
  have HB := Lib.hid hB
  clear hB
  have c13 := Ht.out.cell 13
  simp [trC] at c13
  have hn := none_at wn1 b c13
  (with_reducible refine hn.mono ?_)
  clear hn c13
  rintro r w' ⟨rfl, rfl⟩
  have hx := Hx.out
  have k0 : ∀ y : Cls (KeepS wn1 gx 36 #[.int .i64 e, .int .u8 (d : Int), .string s]), y.w.cell? ⟨gx, 0, none⟩ = some (.int .i64 e) := fun y => y.h.2.cell 0
  have k1 : ∀ y : Cls (KeepS wn1 gx 36 #[.int .i64 e, .int .u8 (d : Int), .string s]), y.w.cell? ⟨gx, 1, none⟩ = some (.int .u8 (d : Int)) := fun y => y.h.2.cell 1
  have k2 : ∀ y : Cls (KeepS wn1 gx 36 #[.int .i64 e, .int .u8 (d : Int), .string s]), y.w.cell? ⟨gx, 2, none⟩ = some (.string s) := fun y => y.h.2.cell 2
  have hS0 : KeepS wn1 gx 36 #[.int .i64 e, .int .u8 (d : Int), .string s] wn1 := ⟨Below.refl _ _, hx⟩
  have hlt1 : b < wn1.heap.size := Nat.lt_of_lt_of_le hlt HB.out.size
  have ne : Nonempty (Cls (KeepS wn1 gx 36 #[.int .i64 e, .int .u8 (d : Int), .string s])) := ⟨⟨wn1, hS0⟩⟩
  have cf : ∀ (vals : Array Value) (w : World), (callFunc 31 vals).run Try.prog w = .ok (.enter 31 vals) w := fun _ _ => by kernel_rfl
  have Cf := Lib.hid cf
  clear cf
  have Hx := Lib.hid hx
  clear hx
  clear Hx
  go_upto_region 3 with fail
  refine wp_region_flow 11 (KeepS wn1 gx 36 #[.int .i64 e, .int .u8 (d : Int), .string s]) (fun w w' => Below w.heap.size w w') (by kernel_rfl) (by kernel_rfl) (by kernel_rfl) (fun w => Below.refl _ _) hS0.drew ?_
  simp only [List.take_succ_cons, List.take_zero, List.drop_succ_cons, List.drop_zero]
  repeat (refine flow_quiet (fun w => Below.refl _ _) rfl rfl rfl rfl ?_; intro K hK; go_big_quiet_op; go_big_quiet_on)
  refine flow_callF (RuleMap b e d s) RuleMap.of Cf.out #[.pointer (some ⟨b, 0, none⟩), .agg #[.int .i64 e, .int .u8 (d : Int), .string s]] ?_ rfl ?_ rfl rfl wn1 ?_
  · simp only [List.map_toArray, List.map_cons, List.map_nil]; rfl
  · exact fun x => (rules_at x.w b e (d : Int) s).mono fun r w' ⟨g, hr, h1, h2⟩ => ⟨_, hr, ⟨_, g, rfl, Nat.lt_of_lt_of_le hlt1 x.h.1.size, h1⟩, KeepS.below _ _ x.h h2, h2⟩
  intro K hK; go_big_quiet_op; go_big_quiet_on
  repeat (refine flow_quiet (fun w => Below.refl _ _) rfl rfl rfl rfl ?_; intro K hK; go_big_quiet_op; go_big_quiet_on)
  refine flow_fact (RuleTup b e d s) RuleTup.of ?_ rfl rfl wn1 ?_
  · intro w f hS hN
    obtain ⟨n, g, hl, hbn, hr⟩ := known_at hN 0 rfl rfl
    obtain ⟨c, hrun, hdo⟩ := hr.hit hbn hd
    injection hl with hl
    unfold gives
    simp only [execOp, Sem.run_bind]
    rw [fill_eval (y := 15) (by simp) (by simp), fill_eval_out (y := 17) (by simp), hl]
    simp only [Act.eval, Array.getD_eq_getD_getElem?, List.getElem?_toArray, List.getElem?_cons_succ, List.getElem?_cons_zero, Option.getD_some]
    rw [hrun]
    exact ⟨⟨c, rfl, hdo⟩, hS, Below.refl _ _⟩
  intro K hK; go_big_quiet_op; go_big_quiet_on
  refine flow_move (fun _ => rfl) 0 rfl rfl rfl (by simp) RuleTup.of (fun w => Below.refl _ _) rfl rfl wn1 ?_
  intro K hK; go_big_quiet_op; go_big_quiet_on
  refine flow_extract (RuleClo b e d s) 0 rfl rfl rfl (by simp) RuleClo.of (fun w => Below.refl _ _) ?_ rfl rfl wn1 ?_
  · rintro u W ⟨c, hc, h⟩
    injection hc with hc
    subst hc
    exact ⟨c, rfl, c, rfl, h⟩
  intro K hK; go_big_quiet_op; go_big_quiet_on
  refine flow_extractV (.bool true) 1 rfl rfl rfl (by simp) (fun w => Below.refl _ _) ?_ rfl rfl wn1 ?_
  · rintro u W ⟨c, hc, h⟩
    injection hc with hc
    subst hc
    rfl
  intro K hK; go_big_quiet_op; go_big_quiet_on
  refine flow_move (fun _ => rfl) 0 rfl rfl rfl (by simp) RuleClo.of (fun w => Below.refl _ _) rfl rfl wn1 ?_
  intro K hK; go_big_quiet_op; go_big_quiet_on
  repeat (refine flow_quiet (fun w => Below.refl _ _) rfl rfl rfl rfl ?_; intro K hK; go_big_quiet_op; go_big_quiet_on)
  refine flow_nil ?_
  intro W f hW hF
  obtain ⟨c, hc, hdo⟩ := hF _ List.mem_cons_self
  simp only [fillW, Act.put, List.setIfInBounds_toArray, List.set_cons_succ, List.set_cons_zero]
  injection hc with hc
  generalize f 5 = z5 at *
  generalize f 12 = z12 at *
  generalize f 15 = z15 at *
  generalize f 18 = z18 at *
  generalize f 19 = z19 at *
  clear hF
  have hT : TrAt W b t := Ht.out.below hW.1 Ht.out.lt
  have hBW := HB.out.trans (hW.1.mono HB.out.size)
  have q0 := hW.2.cell 0
  have q1 := hW.2.cell 1
  have q2 := hW.2.cell 2
  simp at q0 q1 q2
  clear k0 k1 k2 hS0 ne Cf Ht HB hlt1
  have HT := Lib.hid hT
  clear hT
  have HBW := Lib.hid hBW
  clear hBW
  have Hdo := Lib.hid hdo
  clear hdo
  clear hW Hx
  subst hc
  obtain ⟨fc, cap, hcl, hcf, hrun⟩ := Hdo.out 1 (by omega) He.out
  have he := He.out
  clear He Hdo
  subst he hcl
  have hr := Hr.out
  clear Hr
  have hR := fun n => hrun (W.drewN n) t (fun _ _ _ h => h) HT.out Ho.out
  rw [hr] at hR
  simp only [Option.isSome, Option.getD] at hR
  have HR := Lib.hid hR
  clear hR
  have Hr := Lib.hid hr
  clear hr
  clear hrun
  go_wp2
  go_quiet ((go_at_call 32; exact quiet_both (both_1 _ b)))
  go_wp2
  have c0 := HT.out.cell 6
  have c1 := HT.out.cell 7
  have c3 := HT.out.cell 9
  have c5 := HT.out.cell 11
  simp [trC] at c0 c1 c3 c5
  have hlv := fun n => live_at (W.drewN n) b 6 _ _ c0 c5
  rw [show (t.s1.opn && !t.s1.dd) = false from Hl.out] at hlv
  have Hlv := Lib.hid hlv
  clear hlv c0 c5
  go_quiet ((go_at_call 33; exact quiet_add_left (Hlv.out _)))
  go_wp2_with fail
  refine (HR.out _).mono ?_
  rintro r w' ⟨rfl, h1, h2⟩
  go_wp2
  go_ret
  exact ⟨rfl, h1, grown_after HBW.out h2⟩

set_option maxHeartbeats 400000 in
theorem do_write_closed_1 (w : World) (b : Nat) (t t' : Tr) (e : Int) (d : Nat) (s : ByteArray) (h : TrAt w b t) (ho : Okt t s) (hd : 1 ≤ d ∧ d ≤ 9) (he : e = 1) (hq : d = 3) (hs1 : (!s.toList.isEmpty) = true) (hs2 : s.toList.isEmpty = false) (hl : t.s1.live = true) (hc0 : t.s1.cl = true) (hr : ruleM d 1 t s = none) :
    Calls Try.prog 12 #[.pointer (some ⟨b, 0, none⟩), .agg #[.int .i64 e, .int .u8 (d : Int), .string s]] w (DoPost w b 3 t) := by
  obtain ⟨o0, o1, o2, o3, o4⟩ := ho
  have ho : Okt t s := ⟨o0, o1, o2, o3, o4⟩
  have h4 : ((d : Int) == 4) = false := by simp; omega
  have h3 : ((d : Int) == 3) = true := by simp; omega
  clear hq
  have Hl := Lib.hid hl
  clear hl
  have Hr := Lib.hid hr
  clear hr
  have Hc0 := Lib.hid hc0
  clear hc0
  have He := Lib.hid he
  clear he
  have Ho := Lib.hid ho
  clear ho
  have hb0 : Below w.heap.size w w := Below.refl _ _
  have HB := Lib.hid hb0
  clear hb0
  have Ht := Lib.hid h
  have hlt := h.lt
  clear h
  go_enter Try.func12, Try.ntmps12
  go_wp2_with fail
  have hx := Blk.new w 36 #[.int .i64 e, .int .u8 (d : Int), .string s]
  have ht := Blk.alloc Ht.out (.cells #[.int .i64 e, .int .u8 (d : Int), .string s] 36)
  clear Ht
  have hB := HB.out.alloc HB.out.size (.cells #[.int .i64 e, .int .u8 (d : Int), .string s] 36)
  clear HB
  obtain ⟨gx, hge⟩ : ∃ g, g = w.heap.size := ⟨_, rfl⟩
  rw [← hge] at hx ⊢
  clear hge
  generalize w.alloc _ = wn1 at *
  have Ht := Lib.hid ht
  clear ht
  have Hx := Lib.hid hx
  clear hx
  have HB := Lib.hid hB
  clear hB
  have c13 := Ht.out.cell 13
  simp [trC] at c13
  have hn := none_at wn1 b c13
  (with_reducible refine hn.mono ?_)
  clear hn c13
  rintro r w' ⟨rfl, rfl⟩
  have hx := Hx.out
  have k0 : ∀ y : Cls (KeepS wn1 gx 36 #[.int .i64 e, .int .u8 (d : Int), .string s]), y.w.cell? ⟨gx, 0, none⟩ = some (.int .i64 e) := fun y => y.h.2.cell 0
  have k1 : ∀ y : Cls (KeepS wn1 gx 36 #[.int .i64 e, .int .u8 (d : Int), .string s]), y.w.cell? ⟨gx, 1, none⟩ = some (.int .u8 (d : Int)) := fun y => y.h.2.cell 1
  have k2 : ∀ y : Cls (KeepS wn1 gx 36 #[.int .i64 e, .int .u8 (d : Int), .string s]), y.w.cell? ⟨gx, 2, none⟩ = some (.string s) := fun y => y.h.2.cell 2
  have hS0 : KeepS wn1 gx 36 #[.int .i64 e, .int .u8 (d : Int), .string s] wn1 := ⟨Below.refl _ _, hx⟩
  have hlt1 : b < wn1.heap.size := Nat.lt_of_lt_of_le hlt HB.out.size
  have ne : Nonempty (Cls (KeepS wn1 gx 36 #[.int .i64 e, .int .u8 (d : Int), .string s])) := ⟨⟨wn1, hS0⟩⟩
  have cf : ∀ (vals : Array Value) (w : World), (callFunc 31 vals).run Try.prog w = .ok (.enter 31 vals) w := fun _ _ => by kernel_rfl
  have Cf := Lib.hid cf
  clear cf
  have Hx := Lib.hid hx
  clear hx
  clear Hx
  go_upto_region 3 with fail
  refine wp_region_flow 11 (KeepS wn1 gx 36 #[.int .i64 e, .int .u8 (d : Int), .string s]) (fun w w' => Below w.heap.size w w') (by kernel_rfl) (by kernel_rfl) (by kernel_rfl) (fun w => Below.refl _ _) hS0.drew ?_
  simp only [List.take_succ_cons, List.take_zero, List.drop_succ_cons, List.drop_zero]
  repeat (refine flow_quiet (fun w => Below.refl _ _) rfl rfl rfl rfl ?_; intro K hK; go_big_quiet_op; go_big_quiet_on)
  refine flow_callF (RuleMap b e d s) RuleMap.of Cf.out #[.pointer (some ⟨b, 0, none⟩), .agg #[.int .i64 e, .int .u8 (d : Int), .string s]] ?_ rfl ?_ rfl rfl wn1 ?_
  · simp only [List.map_toArray, List.map_cons, List.map_nil]; rfl
  · exact fun x => (rules_at x.w b e (d : Int) s).mono fun r w' ⟨g, hr, h1, h2⟩ => ⟨_, hr, ⟨_, g, rfl, Nat.lt_of_lt_of_le hlt1 x.h.1.size, h1⟩, KeepS.below _ _ x.h h2, h2⟩
  intro K hK; go_big_quiet_op; go_big_quiet_on
  repeat (refine flow_quiet (fun w => Below.refl _ _) rfl rfl rfl rfl ?_; intro K hK; go_big_quiet_op; go_big_quiet_on)
  refine flow_fact (RuleTup b e d s) RuleTup.of ?_ rfl rfl wn1 ?_
  · intro w f hS hN
    obtain ⟨n, g, hl, hbn, hr⟩ := known_at hN 0 rfl rfl
    obtain ⟨c, hrun, hdo⟩ := hr.hit hbn hd
    injection hl with hl
    unfold gives
    simp only [execOp, Sem.run_bind]
    rw [fill_eval (y := 15) (by simp) (by simp), fill_eval_out (y := 17) (by simp), hl]
    simp only [Act.eval, Array.getD_eq_getD_getElem?, List.getElem?_toArray, List.getElem?_cons_succ, List.getElem?_cons_zero, Option.getD_some]
    rw [hrun]
    exact ⟨⟨c, rfl, hdo⟩, hS, Below.refl _ _⟩
  intro K hK; go_big_quiet_op; go_big_quiet_on
  refine flow_move (fun _ => rfl) 0 rfl rfl rfl (by simp) RuleTup.of (fun w => Below.refl _ _) rfl rfl wn1 ?_
  intro K hK; go_big_quiet_op; go_big_quiet_on
  refine flow_extract (RuleClo b e d s) 0 rfl rfl rfl (by simp) RuleClo.of (fun w => Below.refl _ _) ?_ rfl rfl wn1 ?_
  · rintro u W ⟨c, hc, h⟩
    injection hc with hc
    subst hc
    exact ⟨c, rfl, c, rfl, h⟩
  intro K hK; go_big_quiet_op; go_big_quiet_on
  refine flow_extractV (.bool true) 1 rfl rfl rfl (by simp) (fun w => Below.refl _ _) ?_ rfl rfl wn1 ?_
  · rintro u W ⟨c, hc, h⟩
    injection hc with hc
    subst hc
    rfl
  intro K hK; go_big_quiet_op; go_big_quiet_on
  refine flow_move (fun _ => rfl) 0 rfl rfl rfl (by simp) RuleClo.of (fun w => Below.refl _ _) rfl rfl wn1 ?_
  intro K hK; go_big_quiet_op; go_big_quiet_on
  repeat (refine flow_quiet (fun w => Below.refl _ _) rfl rfl rfl rfl ?_; intro K hK; go_big_quiet_op; go_big_quiet_on)
  refine flow_nil ?_
  intro W f hW hF
  obtain ⟨c, hc, hdo⟩ := hF _ List.mem_cons_self
  simp only [fillW, Act.put, List.setIfInBounds_toArray, List.set_cons_succ, List.set_cons_zero]
  injection hc with hc
  generalize f 5 = z5 at *
  generalize f 12 = z12 at *
  generalize f 15 = z15 at *
  generalize f 18 = z18 at *
  generalize f 19 = z19 at *
  clear hF
  have hT : TrAt W b t := Ht.out.below hW.1 Ht.out.lt
  have hBW := HB.out.trans (hW.1.mono HB.out.size)
  have q0 := hW.2.cell 0
  have q1 := hW.2.cell 1
  have q2 := hW.2.cell 2
  simp at q0 q1 q2
  clear k0 k1 k2 hS0 ne Cf Ht HB hlt1
  have HT := Lib.hid hT
  clear hT
  have HBW := Lib.hid hBW
  clear hBW
  have Hdo := Lib.hid hdo
  clear hdo
  clear hW Hx
  subst hc
  obtain ⟨fc, cap, hcl, hcf, hrun⟩ := Hdo.out 1 (by omega) He.out
  have he := He.out
  clear He Hdo
  subst he hcl
  have hr := Hr.out
  clear Hr
  have hR := fun n => hrun (W.drewN n) t (fun _ _ _ h => h) HT.out Ho.out
  rw [hr] at hR
  simp only [Option.isSome, Option.getD] at hR
  have HR := Lib.hid hR
  clear hR
  have Hr := Lib.hid hr
  clear hr
  clear hrun
  go_wp2
  go_quiet ((go_at_call 32; exact quiet_both (both_1 _ b)))
  go_wp2
  have c0 := HT.out.cell 6
  have c1 := HT.out.cell 7
  have c3 := HT.out.cell 9
  have c5 := HT.out.cell 11
  simp [trC] at c0 c1 c3 c5
  have hlv := fun n => live_at (W.drewN n) b 6 _ _ c0 c5
  rw [show (t.s1.opn && !t.s1.dd) = true from Hl.out] at hlv
  have Hlv := Lib.hid hlv
  clear hlv c0 c5
  rw [Hc0.out] at c3
  go_quiet ((go_at_call 33; exact quiet_add_left (Hlv.out _)))
  go_wp2_with fail
  refine (HR.out _).mono ?_
  rintro r w' ⟨rfl, h1, h2⟩
  go_wp2
  go_ret
  exact ⟨rfl, h1, grown_after HBW.out h2⟩

set_option maxHeartbeats 400000 in
theorem do_write_full_1 (w : World) (b : Nat) (t t' : Tr) (e : Int) (d : Nat) (s : ByteArray) (h : TrAt w b t) (ho : Okt t s) (hd : 1 ≤ d ∧ d ≤ 9) (he : e = 1) (hq : d = 3) (hs1 : (!s.toList.isEmpty) = true) (hs2 : s.toList.isEmpty = false) (hl : t.s1.live = true) (hc0 : t.s1.cl = false) (hz : 1048576 < t.s1.wr.size + s.size) :
    Calls Try.prog 12 #[.pointer (some ⟨b, 0, none⟩), .agg #[.int .i64 e, .int .u8 (d : Int), .string s]] w (DoPost w b 6 t) := by
  obtain ⟨o0, o1, o2, o3, o4⟩ := ho
  have ho : Okt t s := ⟨o0, o1, o2, o3, o4⟩
  have h4 : ((d : Int) == 4) = false := by simp; omega
  have h3 : ((d : Int) == 3) = true := by simp; omega
  clear hq
  have Hl := Lib.hid hl
  clear hl
  have Hc0 := Lib.hid hc0
  clear hc0
  have Hz := Lib.hid hz
  clear hz
  have He := Lib.hid he
  clear he
  have Ho := Lib.hid ho
  clear ho
  have hb0 : Below w.heap.size w w := Below.refl _ _
  have HB := Lib.hid hb0
  clear hb0
  have Ht := Lib.hid h
  have hlt := h.lt
  clear h
  go_enter Try.func12, Try.ntmps12
  go_wp2_with fail
  have hx := Blk.new w 36 #[.int .i64 e, .int .u8 (d : Int), .string s]
  have ht := Blk.alloc Ht.out (.cells #[.int .i64 e, .int .u8 (d : Int), .string s] 36)
  clear Ht
  have hB := HB.out.alloc HB.out.size (.cells #[.int .i64 e, .int .u8 (d : Int), .string s] 36)
  clear HB
  obtain ⟨gx, hge⟩ : ∃ g, g = w.heap.size := ⟨_, rfl⟩
  rw [← hge] at hx ⊢
  clear hge
  generalize w.alloc _ = wn1 at *
  have Ht := Lib.hid ht
  clear ht
  have Hx := Lib.hid hx
  clear hx
  have HB := Lib.hid hB
  clear hB
  have c13 := Ht.out.cell 13
  simp [trC] at c13
  have hn := none_at wn1 b c13
  (with_reducible refine hn.mono ?_)
  clear hn c13
  rintro r w' ⟨rfl, rfl⟩
  have hx := Hx.out
  have k0 : ∀ y : Cls (KeepS wn1 gx 36 #[.int .i64 e, .int .u8 (d : Int), .string s]), y.w.cell? ⟨gx, 0, none⟩ = some (.int .i64 e) := fun y => y.h.2.cell 0
  have k1 : ∀ y : Cls (KeepS wn1 gx 36 #[.int .i64 e, .int .u8 (d : Int), .string s]), y.w.cell? ⟨gx, 1, none⟩ = some (.int .u8 (d : Int)) := fun y => y.h.2.cell 1
  have k2 : ∀ y : Cls (KeepS wn1 gx 36 #[.int .i64 e, .int .u8 (d : Int), .string s]), y.w.cell? ⟨gx, 2, none⟩ = some (.string s) := fun y => y.h.2.cell 2
  have hS0 : KeepS wn1 gx 36 #[.int .i64 e, .int .u8 (d : Int), .string s] wn1 := ⟨Below.refl _ _, hx⟩
  have hlt1 : b < wn1.heap.size := Nat.lt_of_lt_of_le hlt HB.out.size
  have ne : Nonempty (Cls (KeepS wn1 gx 36 #[.int .i64 e, .int .u8 (d : Int), .string s])) := ⟨⟨wn1, hS0⟩⟩
  have cf : ∀ (vals : Array Value) (w : World), (callFunc 31 vals).run Try.prog w = .ok (.enter 31 vals) w := fun _ _ => by kernel_rfl
  have Cf := Lib.hid cf
  clear cf
  have Hx := Lib.hid hx
  clear hx
  clear Hx
  go_upto_region 3 with fail
  refine wp_region_flow 11 (KeepS wn1 gx 36 #[.int .i64 e, .int .u8 (d : Int), .string s]) (fun w w' => Below w.heap.size w w') (by kernel_rfl) (by kernel_rfl) (by kernel_rfl) (fun w => Below.refl _ _) hS0.drew ?_
  simp only [List.take_succ_cons, List.take_zero, List.drop_succ_cons, List.drop_zero]
  repeat (refine flow_quiet (fun w => Below.refl _ _) rfl rfl rfl rfl ?_; intro K hK; go_big_quiet_op; go_big_quiet_on)
  refine flow_callF (RuleMap b e d s) RuleMap.of Cf.out #[.pointer (some ⟨b, 0, none⟩), .agg #[.int .i64 e, .int .u8 (d : Int), .string s]] ?_ rfl ?_ rfl rfl wn1 ?_
  · simp only [List.map_toArray, List.map_cons, List.map_nil]; rfl
  · exact fun x => (rules_at x.w b e (d : Int) s).mono fun r w' ⟨g, hr, h1, h2⟩ => ⟨_, hr, ⟨_, g, rfl, Nat.lt_of_lt_of_le hlt1 x.h.1.size, h1⟩, KeepS.below _ _ x.h h2, h2⟩
  intro K hK; go_big_quiet_op; go_big_quiet_on
  repeat (refine flow_quiet (fun w => Below.refl _ _) rfl rfl rfl rfl ?_; intro K hK; go_big_quiet_op; go_big_quiet_on)
  refine flow_fact (RuleTup b e d s) RuleTup.of ?_ rfl rfl wn1 ?_
  · intro w f hS hN
    obtain ⟨n, g, hl, hbn, hr⟩ := known_at hN 0 rfl rfl
    obtain ⟨c, hrun, hdo⟩ := hr.hit hbn hd
    injection hl with hl
    unfold gives
    simp only [execOp, Sem.run_bind]
    rw [fill_eval (y := 15) (by simp) (by simp), fill_eval_out (y := 17) (by simp), hl]
    simp only [Act.eval, Array.getD_eq_getD_getElem?, List.getElem?_toArray, List.getElem?_cons_succ, List.getElem?_cons_zero, Option.getD_some]
    rw [hrun]
    exact ⟨⟨c, rfl, hdo⟩, hS, Below.refl _ _⟩
  intro K hK; go_big_quiet_op; go_big_quiet_on
  refine flow_move (fun _ => rfl) 0 rfl rfl rfl (by simp) RuleTup.of (fun w => Below.refl _ _) rfl rfl wn1 ?_
  intro K hK; go_big_quiet_op; go_big_quiet_on
  refine flow_extract (RuleClo b e d s) 0 rfl rfl rfl (by simp) RuleClo.of (fun w => Below.refl _ _) ?_ rfl rfl wn1 ?_
  · rintro u W ⟨c, hc, h⟩
    injection hc with hc
    subst hc
    exact ⟨c, rfl, c, rfl, h⟩
  intro K hK; go_big_quiet_op; go_big_quiet_on
  refine flow_extractV (.bool true) 1 rfl rfl rfl (by simp) (fun w => Below.refl _ _) ?_ rfl rfl wn1 ?_
  · rintro u W ⟨c, hc, h⟩
    injection hc with hc
    subst hc
    rfl
  intro K hK; go_big_quiet_op; go_big_quiet_on
  refine flow_move (fun _ => rfl) 0 rfl rfl rfl (by simp) RuleClo.of (fun w => Below.refl _ _) rfl rfl wn1 ?_
  intro K hK; go_big_quiet_op; go_big_quiet_on
  repeat (refine flow_quiet (fun w => Below.refl _ _) rfl rfl rfl rfl ?_; intro K hK; go_big_quiet_op; go_big_quiet_on)
  refine flow_nil ?_
  intro W f hW hF
  obtain ⟨c, hc, hdo⟩ := hF _ List.mem_cons_self
  simp only [fillW, Act.put, List.setIfInBounds_toArray, List.set_cons_succ, List.set_cons_zero]
  injection hc with hc
  generalize f 5 = z5 at *
  generalize f 12 = z12 at *
  generalize f 15 = z15 at *
  generalize f 18 = z18 at *
  generalize f 19 = z19 at *
  clear hF
  have hT : TrAt W b t := Ht.out.below hW.1 Ht.out.lt
  have hBW := HB.out.trans (hW.1.mono HB.out.size)
  have q0 := hW.2.cell 0
  have q1 := hW.2.cell 1
  have q2 := hW.2.cell 2
  simp at q0 q1 q2
  clear k0 k1 k2 hS0 ne Cf Ht HB hlt1
  have HT := Lib.hid hT
  clear hT
  have HBW := Lib.hid hBW
  clear hBW
  have Hdo := Lib.hid hdo
  clear hdo
  clear hW Hx
  subst hc
  obtain ⟨fc, cap, hcl, hcf, hrun⟩ := Hdo.out 1 (by omega) He.out
  have he := He.out
  clear He Hdo
  subst he hcl
  clear hrun
  go_wp2
  go_quiet ((go_at_call 32; exact quiet_both (both_1 _ b)))
  go_wp2
  have c0 := HT.out.cell 6
  have c1 := HT.out.cell 7
  have c3 := HT.out.cell 9
  have c5 := HT.out.cell 11
  simp [trC] at c0 c1 c3 c5
  have hlv := fun n => live_at (W.drewN n) b 6 _ _ c0 c5
  rw [show (t.s1.opn && !t.s1.dd) = true from Hl.out] at hlv
  have Hlv := Lib.hid hlv
  clear hlv c0 c5
  rw [Hc0.out] at c3
  have hz := Hz.out
  have hk := Ho.out
  obtain ⟨o0, o1, o2, o3, o4⟩ := hk
  have hsum : IntKind.i64.wrap ((t.s1.wr.size : Int) + (s.size : Int)) = (t.s1.wr.size : Int) + (s.size : Int) := IntWalk.i64_in _ (by omega)
  have hcmp : decide ((1048576 : Int) < (t.s1.wr.size : Int) + (s.size : Int)) = true := by simp; omega
  clear hz o0 o1 o2 o3 o4
  go_quiet ((go_at_call 33; exact quiet_add_left (Hlv.out _)))
  go_wp2
  go_ret
  exact ⟨rfl, Blk.drewN (Blk.drewN HT.out _) _, only_drewN (only_drewN (only_of_below HBW.out _) _) _⟩

set_option maxHeartbeats 400000 in
theorem do_write_fits_1 (w : World) (b : Nat) (t t' : Tr) (e : Int) (d : Nat) (s : ByteArray) (h : TrAt w b t) (ho : Okt t s) (hd : 1 ≤ d ∧ d ≤ 9) (he : e = 1) (hq : d = 3) (hs1 : (!s.toList.isEmpty) = true) (hs2 : s.toList.isEmpty = false) (hl : t.s1.live = true) (hc0 : t.s1.cl = false) (hz : t.s1.wr.size + s.size ≤ 1048576) (hr : ruleM d 1 t s = some t') :
    Calls Try.prog 12 #[.pointer (some ⟨b, 0, none⟩), .agg #[.int .i64 e, .int .u8 (d : Int), .string s]] w (DoPost w b 0 t') := by
  obtain ⟨o0, o1, o2, o3, o4⟩ := ho
  have ho : Okt t s := ⟨o0, o1, o2, o3, o4⟩
  have h4 : ((d : Int) == 4) = false := by simp; omega
  have h3 : ((d : Int) == 3) = true := by simp; omega
  clear hq
  have Hl := Lib.hid hl
  clear hl
  have Hr := Lib.hid hr
  clear hr
  have Hc0 := Lib.hid hc0
  clear hc0
  have Hz := Lib.hid hz
  clear hz
  have He := Lib.hid he
  clear he
  have Ho := Lib.hid ho
  clear ho
  have hb0 : Below w.heap.size w w := Below.refl _ _
  have HB := Lib.hid hb0
  clear hb0
  have Ht := Lib.hid h
  have hlt := h.lt
  clear h
  go_enter Try.func12, Try.ntmps12
  go_wp2_with fail
  have hx := Blk.new w 36 #[.int .i64 e, .int .u8 (d : Int), .string s]
  have ht := Blk.alloc Ht.out (.cells #[.int .i64 e, .int .u8 (d : Int), .string s] 36)
  clear Ht
  have hB := HB.out.alloc HB.out.size (.cells #[.int .i64 e, .int .u8 (d : Int), .string s] 36)
  clear HB
  obtain ⟨gx, hge⟩ : ∃ g, g = w.heap.size := ⟨_, rfl⟩
  rw [← hge] at hx ⊢
  clear hge
  generalize w.alloc _ = wn1 at *
  have Ht := Lib.hid ht
  clear ht
  have Hx := Lib.hid hx
  clear hx
  have HB := Lib.hid hB
  clear hB
  have c13 := Ht.out.cell 13
  simp [trC] at c13
  have hn := none_at wn1 b c13
  (with_reducible refine hn.mono ?_)
  clear hn c13
  rintro r w' ⟨rfl, rfl⟩
  have hx := Hx.out
  have k0 : ∀ y : Cls (KeepS wn1 gx 36 #[.int .i64 e, .int .u8 (d : Int), .string s]), y.w.cell? ⟨gx, 0, none⟩ = some (.int .i64 e) := fun y => y.h.2.cell 0
  have k1 : ∀ y : Cls (KeepS wn1 gx 36 #[.int .i64 e, .int .u8 (d : Int), .string s]), y.w.cell? ⟨gx, 1, none⟩ = some (.int .u8 (d : Int)) := fun y => y.h.2.cell 1
  have k2 : ∀ y : Cls (KeepS wn1 gx 36 #[.int .i64 e, .int .u8 (d : Int), .string s]), y.w.cell? ⟨gx, 2, none⟩ = some (.string s) := fun y => y.h.2.cell 2
  have hS0 : KeepS wn1 gx 36 #[.int .i64 e, .int .u8 (d : Int), .string s] wn1 := ⟨Below.refl _ _, hx⟩
  have hlt1 : b < wn1.heap.size := Nat.lt_of_lt_of_le hlt HB.out.size
  have ne : Nonempty (Cls (KeepS wn1 gx 36 #[.int .i64 e, .int .u8 (d : Int), .string s])) := ⟨⟨wn1, hS0⟩⟩
  have cf : ∀ (vals : Array Value) (w : World), (callFunc 31 vals).run Try.prog w = .ok (.enter 31 vals) w := fun _ _ => by kernel_rfl
  have Cf := Lib.hid cf
  clear cf
  have Hx := Lib.hid hx
  clear hx
  clear Hx
  go_upto_region 3 with fail
  refine wp_region_flow 11 (KeepS wn1 gx 36 #[.int .i64 e, .int .u8 (d : Int), .string s]) (fun w w' => Below w.heap.size w w') (by kernel_rfl) (by kernel_rfl) (by kernel_rfl) (fun w => Below.refl _ _) hS0.drew ?_
  simp only [List.take_succ_cons, List.take_zero, List.drop_succ_cons, List.drop_zero]
  repeat (refine flow_quiet (fun w => Below.refl _ _) rfl rfl rfl rfl ?_; intro K hK; go_big_quiet_op; go_big_quiet_on)
  refine flow_callF (RuleMap b e d s) RuleMap.of Cf.out #[.pointer (some ⟨b, 0, none⟩), .agg #[.int .i64 e, .int .u8 (d : Int), .string s]] ?_ rfl ?_ rfl rfl wn1 ?_
  · simp only [List.map_toArray, List.map_cons, List.map_nil]; rfl
  · exact fun x => (rules_at x.w b e (d : Int) s).mono fun r w' ⟨g, hr, h1, h2⟩ => ⟨_, hr, ⟨_, g, rfl, Nat.lt_of_lt_of_le hlt1 x.h.1.size, h1⟩, KeepS.below _ _ x.h h2, h2⟩
  intro K hK; go_big_quiet_op; go_big_quiet_on
  repeat (refine flow_quiet (fun w => Below.refl _ _) rfl rfl rfl rfl ?_; intro K hK; go_big_quiet_op; go_big_quiet_on)
  refine flow_fact (RuleTup b e d s) RuleTup.of ?_ rfl rfl wn1 ?_
  · intro w f hS hN
    obtain ⟨n, g, hl, hbn, hr⟩ := known_at hN 0 rfl rfl
    obtain ⟨c, hrun, hdo⟩ := hr.hit hbn hd
    injection hl with hl
    unfold gives
    simp only [execOp, Sem.run_bind]
    rw [fill_eval (y := 15) (by simp) (by simp), fill_eval_out (y := 17) (by simp), hl]
    simp only [Act.eval, Array.getD_eq_getD_getElem?, List.getElem?_toArray, List.getElem?_cons_succ, List.getElem?_cons_zero, Option.getD_some]
    rw [hrun]
    exact ⟨⟨c, rfl, hdo⟩, hS, Below.refl _ _⟩
  intro K hK; go_big_quiet_op; go_big_quiet_on
  refine flow_move (fun _ => rfl) 0 rfl rfl rfl (by simp) RuleTup.of (fun w => Below.refl _ _) rfl rfl wn1 ?_
  intro K hK; go_big_quiet_op; go_big_quiet_on
  refine flow_extract (RuleClo b e d s) 0 rfl rfl rfl (by simp) RuleClo.of (fun w => Below.refl _ _) ?_ rfl rfl wn1 ?_
  · rintro u W ⟨c, hc, h⟩
    injection hc with hc
    subst hc
    exact ⟨c, rfl, c, rfl, h⟩
  intro K hK; go_big_quiet_op; go_big_quiet_on
  refine flow_extractV (.bool true) 1 rfl rfl rfl (by simp) (fun w => Below.refl _ _) ?_ rfl rfl wn1 ?_
  · rintro u W ⟨c, hc, h⟩
    injection hc with hc
    subst hc
    rfl
  intro K hK; go_big_quiet_op; go_big_quiet_on
  refine flow_move (fun _ => rfl) 0 rfl rfl rfl (by simp) RuleClo.of (fun w => Below.refl _ _) rfl rfl wn1 ?_
  intro K hK; go_big_quiet_op; go_big_quiet_on
  repeat (refine flow_quiet (fun w => Below.refl _ _) rfl rfl rfl rfl ?_; intro K hK; go_big_quiet_op; go_big_quiet_on)
  refine flow_nil ?_
  intro W f hW hF
  obtain ⟨c, hc, hdo⟩ := hF _ List.mem_cons_self
  simp only [fillW, Act.put, List.setIfInBounds_toArray, List.set_cons_succ, List.set_cons_zero]
  injection hc with hc
  generalize f 5 = z5 at *
  generalize f 12 = z12 at *
  generalize f 15 = z15 at *
  generalize f 18 = z18 at *
  generalize f 19 = z19 at *
  clear hF
  have hT : TrAt W b t := Ht.out.below hW.1 Ht.out.lt
  have hBW := HB.out.trans (hW.1.mono HB.out.size)
  have q0 := hW.2.cell 0
  have q1 := hW.2.cell 1
  have q2 := hW.2.cell 2
  simp at q0 q1 q2
  clear k0 k1 k2 hS0 ne Cf Ht HB hlt1
  have HT := Lib.hid hT
  clear hT
  have HBW := Lib.hid hBW
  clear hBW
  have Hdo := Lib.hid hdo
  clear hdo
  clear hW Hx
  subst hc
  obtain ⟨fc, cap, hcl, hcf, hrun⟩ := Hdo.out 1 (by omega) He.out
  have he := He.out
  clear He Hdo
  subst he hcl
  have hr := Hr.out
  clear Hr
  have hR := fun n => hrun (W.drewN n) t (fun _ _ _ h => h) HT.out Ho.out
  rw [hr] at hR
  simp only [Option.isSome, Option.getD] at hR
  have HR := Lib.hid hR
  clear hR
  have Hr := Lib.hid hr
  clear hr
  clear hrun
  go_wp2
  go_quiet ((go_at_call 32; exact quiet_both (both_1 _ b)))
  go_wp2
  have c0 := HT.out.cell 6
  have c1 := HT.out.cell 7
  have c3 := HT.out.cell 9
  have c5 := HT.out.cell 11
  simp [trC] at c0 c1 c3 c5
  have hlv := fun n => live_at (W.drewN n) b 6 _ _ c0 c5
  rw [show (t.s1.opn && !t.s1.dd) = true from Hl.out] at hlv
  have Hlv := Lib.hid hlv
  clear hlv c0 c5
  rw [Hc0.out] at c3
  have hz := Hz.out
  have hk := Ho.out
  obtain ⟨o0, o1, o2, o3, o4⟩ := hk
  have hsum : IntKind.i64.wrap ((t.s1.wr.size : Int) + (s.size : Int)) = (t.s1.wr.size : Int) + (s.size : Int) := IntWalk.i64_in _ (by omega)
  have hcmp : decide ((1048576 : Int) < (t.s1.wr.size : Int) + (s.size : Int)) = false := by simp; omega
  clear hz o0 o1 o2 o3 o4
  go_quiet ((go_at_call 33; exact quiet_add_left (Hlv.out _)))
  go_wp2_with fail
  refine (HR.out _).mono ?_
  rintro r w' ⟨rfl, h1, h2⟩
  go_wp2
  go_ret
  exact ⟨rfl, h1, grown_after HBW.out h2⟩

end Go.Proofs.Ytcdbbdjabccjdaa
