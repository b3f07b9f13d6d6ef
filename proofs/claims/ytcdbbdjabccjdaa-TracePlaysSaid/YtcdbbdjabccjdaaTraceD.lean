/- Layer 31 (trace): rules, and the closure that wants a live end. -/
import Derived.Test.YtcdbbdjabccjdaaTrace
import Derived.Carry
import Derived.Maps.Own
set_option linter.unusedVariables false
set_option linter.unusedSimpArgs false
namespace Go.Proofs.Ytcdbbdjabccjdaa
open Go.RowKit Go.BigFrame Go.ChangeMaps

/-- a call of a function value that stands in a slot -/
theorem wpList_callv {P : Program} {ops : Array Oper} {rest : List Oper} {o : Oper} {a : Act} {Q : Exit → Act → World → Prop} {w : World} (hw : Region.wanted o (yielded ops a.tmps) = true) (y : Tmp) (xs : Array Operand) (ts : Array TypeId)
    (hop : o.op = .call { callee := .value (.tmp y), args := xs, argTypes := ts }) (f : FuncId) (cap : Array Value) (hy : a.eval (.tmp y) = .func (.func f) #[] cap) (hcf : ∀ (vals : Array Value) (w : World), (callFunc f vals).run P w = .ok (.enter f vals) w)
    (vals : Array Value) (hv : xs.map a.eval ++ cap = vals) (hc : Calls P f vals w fun e w' => ∃ v, e = .returned v ∧ wpList P ops Q rest (a.put o.dst v) w') : wpList P ops Q (o :: rest) a w := by
  have he : (execOp a.eval o).run P w = .ok (.enter f vals) w := by
    unfold execOp
    rw [hop]
    simp [resolve, hy, Deferred.ofValue, invoke, hcf, hv]
  simp only [wpList]
  rw [if_pos hw]
  refine .inl ?_
  unfold Oper.wp
  rw [he]
  simp only [Oper.upon]
  refine hc.mono fun e w' ⟨v, hv, h⟩ => ?_
  subst hv
  exact h
/-- an entry that a literal of a map lays, under a key that is not there yet -/
theorem wpList_insert_new {P : Program} {ops : Array Oper} {rest : List Oper} {o : Oper} {a : Act} {Q : Exit → Act → World → Prop} {w : World} (hg : o.guard = none) (m x v : Operand) (t : TypeId) (hop : o.op = .insert t m x v)
    (kt et : TypeId) (q : IntKind) (ht : P.underlying t = some (.map kt et)) (hk : P.underlying kt = some (.int q)) (g : Nat) (es : Array MapEntry) (clock : Nat) (hm : a.eval m = .map (some g)) (hb : w.heap[g]? = some (.map es clock))
    (key : Int) (hx : a.eval x = .int q key) (hnew : Instr.findNow (.int q) (.int q key) es.toList 0 = some none) (val : Value) (hv : a.eval v = val)
    (hK : ∀ w', w'.heap[g]? = some (.map (es.push ⟨.int q key, val, clock⟩) (clock + 1)) → w.grownBy w' (some g) → wpList P ops Q rest (a.put o.dst undef) w') :
    wpList P ops Q (o :: rest) a w := by
  have hrun : (Instr.mapUpdate t (.map (some g)) (.int q key) val).run P w = .ok () (setBlock w g (.map (es.push ⟨.int q key, val, clock⟩) (clock + 1))) := by
    have hc : (Instr.checkKey false 10000 kt (.int q key)).run P w = .ok () w := MapKept.run_checkKey (k := .int q key) hk (by simp [MapKept.IsKey]) false 9999
    have h1 : (Instr.mapUpdate t (.map (some g)) (.int q key) val).run P w = .ok () { w with heap := w.heap.setIfInBounds g (.map (es.push ⟨.int q key, val, clock⟩) (clock + 1)) } := by
      simp [Instr.mapUpdate, run_underlying ht, MapKept.run_getObj_map hb, hc, MapKept.run_findKey hk hnew, MapKept.run_setObj_map _ hb, Result.andThen]
    rw [h1]
    rfl
  refine wpList_plain hg fun K' hK' => ?_
  unfold Oper.wp
  simp [execOp, hop, hm, hx, hv, hrun, Result.andThen]
  exact hK' _ _ (hK _ (heap_setBlock_same hb _) ⟨rfl, rfl, rfl, by simp [setBlock], fun i _ hi => heap_setBlock_other hb _ (fun e => hi (by rw [e]))⟩)
theorem alive1_at (w : World) (f : FuncId) (cap : Array Value) :
    Calls Try.prog 37 #[.func (.func f) #[] cap] w fun e w' => ∃ x, e = .returned (.func (.func 38) #[] #[.pointer (some ⟨x, 0, none⟩)]) ∧ w.heap.size ≤ x ∧ Blk w' x 71 #[.func (.func f) #[] cap] ∧ Below w.heap.size w w' := by
  have hmf : ∀ (fn : Fn) (first cap : Array Value) (w : World), (Instr.makeFunc fn first cap).run Try.prog w = .ok (.func fn first cap) w := fun _ _ _ _ => rfl
  go_enter Try.func37, Try.ntmps37
  go_wp2
  go_ret
  refine ⟨w.heap.size, rfl, Nat.le_refl _, Blk.new _ _ _, (Below.refl _ _).alloc (Nat.le_refl _) _⟩
/-- the map that rules has laid, and what its closures have captured, all of it from n on -/
def RulesAt (W : World) (n g b : Nat) (e d : Int) (s : ByteArray) : Prop := ∃ gt ga go g3 g4 g5 g6 g7 g8 : Nat, (n ≤ gt ∧ n ≤ ga ∧ n ≤ go ∧ n ≤ g3 ∧ n ≤ g4 ∧ n ≤ g5 ∧ n ≤ g6 ∧ n ≤ g7 ∧ n ≤ g8) ∧
  W.heap[g]? = some (.map #[⟨.int .u8 1, .func (.func 40) #[] #[.pointer (some ⟨go, 0, none⟩), .pointer (some ⟨ga, 0, none⟩)], 0⟩,
    ⟨.int .u8 2, .func (.func 41) #[] #[.pointer (some ⟨go, 0, none⟩), .pointer (some ⟨ga, 0, none⟩)], 1⟩,
    ⟨.int .u8 3, .func (.func 38) #[] #[.pointer (some ⟨g3, 0, none⟩)], 2⟩,
    ⟨.int .u8 4, .func (.func 38) #[] #[.pointer (some ⟨g4, 0, none⟩)], 3⟩,
    ⟨.int .u8 5, .func (.func 38) #[] #[.pointer (some ⟨g5, 0, none⟩)], 4⟩,
    ⟨.int .u8 6, .func (.func 38) #[] #[.pointer (some ⟨g6, 0, none⟩)], 5⟩,
    ⟨.int .u8 7, .func (.func 38) #[] #[.pointer (some ⟨g7, 0, none⟩)], 6⟩,
    ⟨.int .u8 8, .func (.func 38) #[] #[.pointer (some ⟨g8, 0, none⟩)], 7⟩,
    ⟨.int .u8 9, .func (.func 49) #[] #[.pointer (some ⟨gt, 0, none⟩)], 8⟩] 9) ∧
  Blk W gt 25 #[.pointer (some ⟨b, 0, none⟩)] ∧
  Blk W ga 36 #[.int .i64 e, .int .u8 d, .string s] ∧
  Blk W go 88 #[.func (.func 39) #[] #[]] ∧
  Blk W g3 71 #[.func (.func 42) #[] #[.pointer (some ⟨ga, 0, none⟩)]] ∧
  Blk W g4 71 #[.func (.func 43) #[] #[.pointer (some ⟨ga, 0, none⟩)]] ∧
  Blk W g5 71 #[.func (.func 45) #[] #[.pointer (some ⟨go, 0, none⟩)]] ∧
  Blk W g6 71 #[.func (.func 46) #[] #[.pointer (some ⟨go, 0, none⟩)]] ∧
  Blk W g7 71 #[.func (.func 47) #[] #[.pointer (some ⟨gt, 0, none⟩), .pointer (some ⟨go, 0, none⟩)]] ∧
  Blk W g8 71 #[.func (.func 48) #[] #[.pointer (some ⟨go, 0, none⟩), .pointer (some ⟨gt, 0, none⟩)]]
theorem mapAt_lt {w : World} {g : Nat} {es : Array MapEntry} {c : Nat} (h : w.heap[g]? = some (.map es c)) : g < w.heap.size := (Array.getElem?_eq_some_iff.1 h).1
theorem blk_map {w w' : World} {x g : Nat} {T : TypeId} {cs : Array Value} {es : Array MapEntry} {c : Nat} (h : Blk w x T cs) (hM : w.heap[g]? = some (.map es c)) (hg : w.grownBy w' (some g)) : Blk w' x T cs :=
  h.grown hg (by rintro e; injection e with e; subst e; unfold Blk at h; rw [h] at hM; simp at hM)
set_option maxHeartbeats 1000000 in
theorem rules_at (w : World) (b : Nat) (e d : Int) (s : ByteArray) :
    Calls Try.prog 31 #[.pointer (some ⟨b, 0, none⟩), .agg #[.int .i64 e, .int .u8 d, .string s]] w fun r w' => ∃ g, r = .returned (.map (some g)) ∧ RulesAt w' w.heap.size g b e d s ∧ Below w.heap.size w w' := by
  have hmf : ∀ (fn : Fn) (first cap : Array Value) (w : World), (Instr.makeFunc fn first cap).run Try.prog w = .ok (.func fn first cap) w := fun _ _ _ _ => rfl
  have hcf : ∀ (vals : Array Value) (w : World), (callFunc 37 vals).run Try.prog w = .ok (.enter 37 vals) w := fun _ _ => by kernel_rfl
  have hb0 : Below w.heap.size w w := Below.refl _ _
  have HB := Lib.hid hb0
  clear hb0
  go_enter Try.func31, Try.ntmps31
  go_upto_region 3 with fail
  have ht := Blk.alloc (Blk.alloc (Blk.new w 25 #[.pointer (some ⟨b, 0, none⟩)]) (.cells #[.int .i64 e, .int .u8 d, .string s] 36)) (.cells #[.func (.func 39) #[] #[]] 88)
  have ha := Blk.alloc (Blk.new (w.alloc (.cells #[.pointer (some ⟨b, 0, none⟩)] 25)) 36 #[.int .i64 e, .int .u8 d, .string s]) (.cells #[.func (.func 39) #[] #[]] 88)
  rw [show (w.alloc (.cells #[.pointer (some ⟨b, 0, none⟩)] 25)).heap.size = w.heap.size + 1 by simp] at ha
  have ho := Blk.new ((w.alloc (.cells #[.pointer (some ⟨b, 0, none⟩)] 25)).alloc (.cells #[.int .i64 e, .int .u8 d, .string s] 36)) 88 #[.func (.func 39) #[] #[]]
  rw [show ((w.alloc (.cells #[.pointer (some ⟨b, 0, none⟩)] 25)).alloc (.cells #[.int .i64 e, .int .u8 d, .string s] 36)).heap.size = w.heap.size + 2 by simp] at ho
  have hB := Below.alloc (Below.alloc (Below.alloc (HB.out) (Nat.le_trans HB.out.size (by simp <;> omega)) (.cells #[.pointer (some ⟨b, 0, none⟩)] 25)) (Nat.le_trans HB.out.size (by simp <;> omega)) (.cells #[.int .i64 e, .int .u8 d, .string s] 36)) (Nat.le_trans HB.out.size (by simp <;> omega)) (.cells #[.func (.func 39) #[] #[]] 88)
  clear HB
  obtain ⟨go, hgeo⟩ : ∃ g, g = w.heap.size + 2 := ⟨_, rfl⟩
  rw [← hgeo] at ho ⊢
  obtain ⟨ga, hgea⟩ : ∃ g, g = w.heap.size + 1 := ⟨_, rfl⟩
  rw [← hgea] at ha ⊢
  obtain ⟨gt, hget⟩ : ∃ g, g = w.heap.size := ⟨_, rfl⟩
  rw [← hget] at ht ⊢
  have hne_t_a : gt ≠ ga := by omega
  have hne_t_o : gt ≠ go := by omega
  have hne_a_o : ga ≠ go := by omega
  have hle_t : w.heap.size ≤ gt := by omega
  have hle_a : w.heap.size ≤ ga := by omega
  have hle_o : w.heap.size ≤ go := by omega
  clear hget hgea hgeo
  generalize ((w.alloc _).alloc _).alloc _ = wn1 at *
  have Ht := Lib.hid ht
  clear ht
  have Ha := Lib.hid ha
  clear ha
  have Ho := Lib.hid ho
  clear ho
  have HB := Lib.hid hB
  clear hB
  clear hne_t_a hne_t_o hne_a_o
  have hM0 := heap_alloc_new wn1 (.map #[] 0)
  have ht_0 := Ht.out.alloc (.map #[] 0)
  have ha_0 := Ha.out.alloc (.map #[] 0)
  have ho_0 := Ho.out.alloc (.map #[] 0)
  have hB0 := HB.out.alloc HB.out.size (.map #[] 0)
  have hMb := HB.out.size
  have hmm := run_makeMap (P := Try.prog) 73
  clear Ht Ha Ho HB
  go_wp2_with (first
    | (refine wpList_insert_new rfl (.tmp 7) (.const (.int .u8 1)) (.tmp 8) 73 rfl 5 71 .u8 Try.underlying73 Try.underlying5 _ _ _ rfl hM0 1 rfl rfl _ rfl ?_; intro w1 hM1 hq1; have ht_1 := blk_map ht_0 hM0 hq1; have ha_1 := blk_map ha_0 hM0 hq1; have ho_1 := blk_map ho_0 hM0 hq1; have hB1 := below_only hB0 hq1 hMb hB0.size)
    | (refine wpList_insert_new rfl (.tmp 7) (.const (.int .u8 2)) (.tmp 9) 73 rfl 5 71 .u8 Try.underlying73 Try.underlying5 _ _ _ rfl hM1 2 rfl rfl _ rfl ?_; intro w2 hM2 hq2; have ht_2 := blk_map ht_1 hM1 hq2; have ha_2 := blk_map ha_1 hM1 hq2; have ho_2 := blk_map ho_1 hM1 hq2; have hB2 := below_only hB1 hq2 hMb hB1.size)
    | (go_at_call 37; (with_reducible refine (alive1_at _ 42 #[.pointer (some ⟨ga, 0, none⟩)]).mono ?_); rintro r w3 ⟨g3, rfl, hle3, hg3_3, hbq3⟩; have ht_3 := ht_2.below hbq3 ht_2.lt; have ha_3 := ha_2.below hbq3 ha_2.lt; have ho_3 := ho_2.below hbq3 ho_2.lt; have hM3 := (hbq3.block _ (mapAt_lt hM2)).trans hM2; have hB3 := hB2.trans (hbq3.mono hB2.size); have hl3 := Nat.le_trans hB2.size hle3)
    | (refine wpList_insert_new rfl (.tmp 7) (.const (.int .u8 3)) (.tmp 12) 73 rfl 5 71 .u8 Try.underlying73 Try.underlying5 _ _ _ rfl hM3 3 rfl rfl _ rfl ?_; intro w4 hM4 hq4; have ht_4 := blk_map ht_3 hM3 hq4; have ha_4 := blk_map ha_3 hM3 hq4; have ho_4 := blk_map ho_3 hM3 hq4; have hg3_4 := blk_map hg3_3 hM3 hq4; have hB4 := below_only hB3 hq4 hMb hB3.size)
    | (go_at_call 37; (with_reducible refine (alive1_at _ 43 #[.pointer (some ⟨ga, 0, none⟩)]).mono ?_); rintro r w5 ⟨g4, rfl, hle4, hg4_5, hbq5⟩; have ht_5 := ht_4.below hbq5 ht_4.lt; have ha_5 := ha_4.below hbq5 ha_4.lt; have ho_5 := ho_4.below hbq5 ho_4.lt; have hg3_5 := hg3_4.below hbq5 hg3_4.lt; have hM5 := (hbq5.block _ (mapAt_lt hM4)).trans hM4; have hB5 := hB4.trans (hbq5.mono hB4.size); have hl4 := Nat.le_trans hB4.size hle4)
    | (refine wpList_insert_new rfl (.tmp 7) (.const (.int .u8 4)) (.tmp 15) 73 rfl 5 71 .u8 Try.underlying73 Try.underlying5 _ _ _ rfl hM5 4 rfl rfl _ rfl ?_; intro w6 hM6 hq6; have ht_6 := blk_map ht_5 hM5 hq6; have ha_6 := blk_map ha_5 hM5 hq6; have ho_6 := blk_map ho_5 hM5 hq6; have hg3_6 := blk_map hg3_5 hM5 hq6; have hg4_6 := blk_map hg4_5 hM5 hq6; have hB6 := below_only hB5 hq6 hMb hB5.size)
    | (go_at_call 37; (with_reducible refine (alive1_at _ 45 #[.pointer (some ⟨go, 0, none⟩)]).mono ?_); rintro r w7 ⟨g5, rfl, hle5, hg5_7, hbq7⟩; have ht_7 := ht_6.below hbq7 ht_6.lt; have ha_7 := ha_6.below hbq7 ha_6.lt; have ho_7 := ho_6.below hbq7 ho_6.lt; have hg3_7 := hg3_6.below hbq7 hg3_6.lt; have hg4_7 := hg4_6.below hbq7 hg4_6.lt; have hM7 := (hbq7.block _ (mapAt_lt hM6)).trans hM6; have hB7 := hB6.trans (hbq7.mono hB6.size); have hl5 := Nat.le_trans hB6.size hle5)
    | (refine wpList_insert_new rfl (.tmp 7) (.const (.int .u8 5)) (.tmp 18) 73 rfl 5 71 .u8 Try.underlying73 Try.underlying5 _ _ _ rfl hM7 5 rfl rfl _ rfl ?_; intro w8 hM8 hq8; have ht_8 := blk_map ht_7 hM7 hq8; have ha_8 := blk_map ha_7 hM7 hq8; have ho_8 := blk_map ho_7 hM7 hq8; have hg3_8 := blk_map hg3_7 hM7 hq8; have hg4_8 := blk_map hg4_7 hM7 hq8; have hg5_8 := blk_map hg5_7 hM7 hq8; have hB8 := below_only hB7 hq8 hMb hB7.size)
    | (go_at_call 37; (with_reducible refine (alive1_at _ 46 #[.pointer (some ⟨go, 0, none⟩)]).mono ?_); rintro r w9 ⟨g6, rfl, hle6, hg6_9, hbq9⟩; have ht_9 := ht_8.below hbq9 ht_8.lt; have ha_9 := ha_8.below hbq9 ha_8.lt; have ho_9 := ho_8.below hbq9 ho_8.lt; have hg3_9 := hg3_8.below hbq9 hg3_8.lt; have hg4_9 := hg4_8.below hbq9 hg4_8.lt; have hg5_9 := hg5_8.below hbq9 hg5_8.lt; have hM9 := (hbq9.block _ (mapAt_lt hM8)).trans hM8; have hB9 := hB8.trans (hbq9.mono hB8.size); have hl6 := Nat.le_trans hB8.size hle6)
    | (refine wpList_insert_new rfl (.tmp 7) (.const (.int .u8 6)) (.tmp 21) 73 rfl 5 71 .u8 Try.underlying73 Try.underlying5 _ _ _ rfl hM9 6 rfl rfl _ rfl ?_; intro w10 hM10 hq10; have ht_10 := blk_map ht_9 hM9 hq10; have ha_10 := blk_map ha_9 hM9 hq10; have ho_10 := blk_map ho_9 hM9 hq10; have hg3_10 := blk_map hg3_9 hM9 hq10; have hg4_10 := blk_map hg4_9 hM9 hq10; have hg5_10 := blk_map hg5_9 hM9 hq10; have hg6_10 := blk_map hg6_9 hM9 hq10; have hB10 := below_only hB9 hq10 hMb hB9.size)
    | (go_at_call 37; (with_reducible refine (alive1_at _ 47 #[.pointer (some ⟨gt, 0, none⟩), .pointer (some ⟨go, 0, none⟩)]).mono ?_); rintro r w11 ⟨g7, rfl, hle7, hg7_11, hbq11⟩; have ht_11 := ht_10.below hbq11 ht_10.lt; have ha_11 := ha_10.below hbq11 ha_10.lt; have ho_11 := ho_10.below hbq11 ho_10.lt; have hg3_11 := hg3_10.below hbq11 hg3_10.lt; have hg4_11 := hg4_10.below hbq11 hg4_10.lt; have hg5_11 := hg5_10.below hbq11 hg5_10.lt; have hg6_11 := hg6_10.below hbq11 hg6_10.lt; have hM11 := (hbq11.block _ (mapAt_lt hM10)).trans hM10; have hB11 := hB10.trans (hbq11.mono hB10.size); have hl7 := Nat.le_trans hB10.size hle7)
    | (refine wpList_insert_new rfl (.tmp 7) (.const (.int .u8 7)) (.tmp 24) 73 rfl 5 71 .u8 Try.underlying73 Try.underlying5 _ _ _ rfl hM11 7 rfl rfl _ rfl ?_; intro w12 hM12 hq12; have ht_12 := blk_map ht_11 hM11 hq12; have ha_12 := blk_map ha_11 hM11 hq12; have ho_12 := blk_map ho_11 hM11 hq12; have hg3_12 := blk_map hg3_11 hM11 hq12; have hg4_12 := blk_map hg4_11 hM11 hq12; have hg5_12 := blk_map hg5_11 hM11 hq12; have hg6_12 := blk_map hg6_11 hM11 hq12; have hg7_12 := blk_map hg7_11 hM11 hq12; have hB12 := below_only hB11 hq12 hMb hB11.size)
    | (go_at_call 37; (with_reducible refine (alive1_at _ 48 #[.pointer (some ⟨go, 0, none⟩), .pointer (some ⟨gt, 0, none⟩)]).mono ?_); rintro r w13 ⟨g8, rfl, hle8, hg8_13, hbq13⟩; have ht_13 := ht_12.below hbq13 ht_12.lt; have ha_13 := ha_12.below hbq13 ha_12.lt; have ho_13 := ho_12.below hbq13 ho_12.lt; have hg3_13 := hg3_12.below hbq13 hg3_12.lt; have hg4_13 := hg4_12.below hbq13 hg4_12.lt; have hg5_13 := hg5_12.below hbq13 hg5_12.lt; have hg6_13 := hg6_12.below hbq13 hg6_12.lt; have hg7_13 := hg7_12.below hbq13 hg7_12.lt; have hM13 := (hbq13.block _ (mapAt_lt hM12)).trans hM12; have hB13 := hB12.trans (hbq13.mono hB12.size); have hl8 := Nat.le_trans hB12.size hle8)
    | (refine wpList_insert_new rfl (.tmp 7) (.const (.int .u8 8)) (.tmp 27) 73 rfl 5 71 .u8 Try.underlying73 Try.underlying5 _ _ _ rfl hM13 8 rfl rfl _ rfl ?_; intro w14 hM14 hq14; have ht_14 := blk_map ht_13 hM13 hq14; have ha_14 := blk_map ha_13 hM13 hq14; have ho_14 := blk_map ho_13 hM13 hq14; have hg3_14 := blk_map hg3_13 hM13 hq14; have hg4_14 := blk_map hg4_13 hM13 hq14; have hg5_14 := blk_map hg5_13 hM13 hq14; have hg6_14 := blk_map hg6_13 hM13 hq14; have hg7_14 := blk_map hg7_13 hM13 hq14; have hg8_14 := blk_map hg8_13 hM13 hq14; have hB14 := below_only hB13 hq14 hMb hB13.size)
    | (refine wpList_insert_new rfl (.tmp 7) (.const (.int .u8 9)) (.tmp 28) 73 rfl 5 71 .u8 Try.underlying73 Try.underlying5 _ _ _ rfl hM14 9 rfl rfl _ rfl ?_; intro w15 hM15 hq15; have ht_15 := blk_map ht_14 hM14 hq15; have ha_15 := blk_map ha_14 hM14 hq15; have ho_15 := blk_map ho_14 hM14 hq15; have hg3_15 := blk_map hg3_14 hM14 hq15; have hg4_15 := blk_map hg4_14 hM14 hq15; have hg5_15 := blk_map hg5_14 hM14 hq15; have hg6_15 := blk_map hg6_14 hM14 hq15; have hg7_15 := blk_map hg7_14 hM14 hq15; have hg8_15 := blk_map hg8_14 hM14 hq15; have hB15 := below_only hB14 hq15 hMb hB14.size))
  go_ret
  exact ⟨_, rfl, ⟨gt, ga, go, g3, g4, g5, g6, g7, g8, ⟨hle_t, hle_a, hle_o, hl3, hl4, hl5, hl6, hl7, hl8⟩, hM15, ht_15, ha_15, ho_15, hg3_15, hg4_15, hg5_15, hg6_15, hg7_15, hg8_15⟩, hB15⟩
end Go.Proofs.Ytcdbbdjabccjdaa
