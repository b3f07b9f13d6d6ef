/- The statement TableGone: an entry that went is found from neither side, and its pairs may stand at others then; and what a table that is not there answers; for any two pairs, any value. -/
import Derived.Test.YtlikngepcbmhdaaTabW
import Derived.Test.YtlikngepcbmhdaaNest
set_option linter.unusedVariables false
set_option linter.unusedSimpArgs false
namespace Go.Proofs.Ytlikngepcbmhdaa.tableGone
open Go.ChangeShapes Go.WideShapes Go.ChangeAt Go.RowKit Go.Maps
open Go.ChangeMaps (open_string shut_string)

theorem blkNewB (w : World) (o : Obj) (t : TypeId) (cs : Array Value) : Blk ((w.alloc o).alloc (.cells cs t)) (w.heap.size + 1) t cs := by
  have := Blk.new (w.alloc o) t cs
  rwa [show (w.alloc o).heap.size = w.heap.size + 1 by simp] at this
section
variable (w : World)
theorem put_nil (p : Pr) (v : Int) : Calls Try.prog 8 #[.pointer none, .agg #[.int .u32 p.a, .int .u16 p.b, .int .u32 p.c, .int .u16 p.d], .int .i64 v] w fun e w' => e = .returned (.tuple #[.int .u64 0, .int .i64 1]) ∧ Below w.heap.size w w' := by
  obtain ⟨pa, pb, pc, pd⟩ := p
  go_enter Try.func8, Try.ntmps8
  go_wp2
  go_ret2
  exact ⟨rfl, (Below.refl _ _).alloc (Nat.le_refl _) _⟩
theorem find_nil (p : Pr) : Calls Try.prog 19 #[.pointer none, .agg #[.int .u32 p.a, .int .u16 p.b, .int .u32 p.c, .int .u16 p.d]] w fun e w' => e = .returned (.tuple #[.int .u64 0, .int .u8 0]) ∧ Below w.heap.size w w' := by
  obtain ⟨pa, pb, pc, pd⟩ := p
  go_enter Try.func19, Try.ntmps19
  go_wp2
  go_quiet (fail)
  go_wp2
  go_ret2
  exact ⟨rfl, below_drewN ((Below.refl _ _).alloc (Nat.le_refl _) _) _⟩
theorem of_nil (id : Int) : Calls Try.prog 25 #[.pointer none, .int .u64 id] w fun e w' => e = .returned (.pointer none) ∧ w = w' := by
  go_enter Try.func25, Try.ntmps25
  go_wp2
  go_ret
  exact ⟨rfl, rfl⟩
theorem get_nil (id : Int) : Calls Try.prog 22 #[.pointer none, .int .u64 id] w fun e w' => e = .returned (.tuple #[.int .i64 0, .bool false]) ∧ w = w' := by
  go_enter Try.func22, Try.ntmps22
  go_wp2_with fail
  (with_reducible refine (of_nil _ _).mono ?_)
  rintro e w' ⟨rfl, rfl⟩
  go_wp2
  go_ret2
  exact ⟨rfl, rfl⟩
theorem bind_nil (id : Int) (p : Pr) : Calls Try.prog 14 #[.pointer none, .int .u64 id, .agg #[.int .u32 p.a, .int .u16 p.b, .int .u32 p.c, .int .u16 p.d]] w fun e w' => e = .returned (.int .i64 1) ∧ Below w.heap.size w w' := by
  obtain ⟨pa, pb, pc, pd⟩ := p
  go_enter Try.func14, Try.ntmps14
  go_wp2_with fail
  (with_reducible refine (of_nil _ _).mono ?_)
  rintro e w' ⟨rfl, rfl⟩
  go_wp2
  go_ret
  exact ⟨rfl, (Below.refl _ _).alloc (Nat.le_refl _) _⟩
theorem set_nil (id v : Int) : Calls Try.prog 16 #[.pointer none, .int .u64 id, .int .i64 v] w fun e w' => e = .returned (.int .i64 1) ∧ w = w' := by
  go_enter Try.func16, Try.ntmps16
  go_wp2_with fail
  (with_reducible refine (of_nil _ _).mono ?_)
  rintro e w' ⟨rfl, rfl⟩
  go_wp2
  go_ret
  exact ⟨rfl, rfl⟩
theorem len_nil : Calls Try.prog 11 #[.pointer none] w fun e w' => e = .returned (.int .i64 0) ∧ w = w' := by
  go_enter Try.func11, Try.ntmps11
  go_wp2
  go_ret
  exact ⟨rfl, rfl⟩
theorem all_nil : Calls Try.prog 21 #[.pointer none] w fun e w' => e = .returned (.slice none 0 0) ∧ w = w' := by
  go_enter Try.func21, Try.ntmps21
  go_wp2
  go_ret
  exact ⟨rfl, rfl⟩
theorem pairs_nil (id : Int) : Calls Try.prog 23 #[.pointer none, .int .u64 id] w fun e w' => e = .returned (.tuple #[.agg #[.int .u32 0, .int .u16 0, .int .u32 0, .int .u16 0], .agg #[.int .u32 0, .int .u16 0, .int .u32 0, .int .u16 0], .bool false]) ∧ Below w.heap.size w w' := by
  go_enter Try.func23, Try.ntmps23
  go_wp2_with fail
  (with_reducible refine (of_nil _ _).mono ?_)
  rintro e w' ⟨rfl, rfl⟩
  go_upto_region 4 with fail
  have h1 := Blk.alloc (Blk.new w 34 #[.int .u32 0, .int .u16 0, .int .u32 0, .int .u16 0]) (.cells #[.int .u32 0, .int .u16 0, .int .u32 0, .int .u16 0] 34)
  have h2 := blkNewB w (.cells #[.int .u32 0, .int .u16 0, .int .u32 0, .int .u16 0] 34) 34 #[.int .u32 0, .int .u16 0, .int .u32 0, .int .u16 0]
  have hb : Below w.heap.size w ((w.alloc (.cells #[.int .u32 0, .int .u16 0, .int .u32 0, .int .u16 0] 34)).alloc (.cells #[.int .u32 0, .int .u16 0, .int .u32 0, .int .u16 0] 34)) := ((Below.refl _ _).alloc (Nat.le_refl _) _).alloc (by simp) _
  obtain ⟨g1, e1⟩ : ∃ g, g = w.heap.size := ⟨_, rfl⟩
  obtain ⟨g2, e2⟩ : ∃ g, g = w.heap.size + 1 := ⟨_, rfl⟩
  rw [← e2] at h2 ⊢
  rw [← e1] at h1 ⊢
  have hne : g1 ≠ g2 := by omega
  have hne' : g2 ≠ g1 := by omega
  have hg1 : w.heap.size ≤ g1 := by omega
  have hg2 : w.heap.size ≤ g2 := by omega
  clear e1 e2
  generalize (w.alloc _).alloc _ = W at *
  have c0 := h1.cell 0
  have c1 := h1.cell 1
  have c2 := h1.cell 2
  have c3 := h1.cell 3
  have d0 := h2.cell 0
  have d1 := h2.cell 1
  have d2 := h2.cell 2
  have d3 := h2.cell 3
  have f0 := h1.frozen
  have k0 := h2.frozen
  simp at c0 c1 c2 c3 d0 d1 d2 d3
  have HB := Lib.hid hb
  have Hg1 := Lib.hid hg1
  have Hg2 := Lib.hid hg2
  have H1 := Lib.hid h1
  have H2 := Lib.hid h2
  clear h1 h2 hb hg1 hg2
  go_region
  generalize hW9 : World.drew _ = W9
  have q1 : Blk W9 g1 34 #[.int .u32 0, .int .u16 0, .int .u32 0, .int .u16 0] := by
    rw [← hW9]
    exact ((((((((H1.out.set_ 0 (.int .u32 0)).set_ 1 (.int .u16 0)).set_ 2 (.int .u32 0)).set_ 3 (.int .u16 0)).far (p := ⟨g2, 0, none⟩) hne _).far (p := ⟨g2, 1, none⟩) hne _).far (p := ⟨g2, 2, none⟩) hne _).far (p := ⟨g2, 3, none⟩) hne _).drew
  have q2 : Blk W9 g2 34 #[.int .u32 0, .int .u16 0, .int .u32 0, .int .u16 0] := by
    rw [← hW9]
    exact ((((((((H2.out.far (p := ⟨g1, 0, none⟩) hne' _).far (p := ⟨g1, 1, none⟩) hne' _).far (p := ⟨g1, 2, none⟩) hne' _).far (p := ⟨g1, 3, none⟩) hne' _).set_ 0 (.int .u32 0)).set_ 1 (.int .u16 0)).set_ 2 (.int .u32 0)).set_ 3 (.int .u16 0)).drew
  have q3 : Below w.heap.size w W9 := by
    rw [← hW9]
    exact ((((((((HB.out.setCell Hg1.out _).setCell Hg1.out _).setCell Hg1.out _).setCell Hg1.out _).setCell Hg2.out _).setCell Hg2.out _).setCell Hg2.out _).setCell Hg2.out _).drew
  clear hW9 c0 c1 c2 c3 d0 d1 d2 d3 f0 k0
  have c0 := q1.cell 0
  have c1 := q1.cell 1
  have c2 := q1.cell 2
  have c3 := q1.cell 3
  have d0 := q2.cell 0
  have d1 := q2.cell 1
  have d2 := q2.cell 2
  have d3 := q2.cell 3
  simp at c0 c1 c2 c3 d0 d1 d2 d3
  have Q3 := Lib.hid q3
  clear q1 q2 q3
  go_wp2
  exact bodyPost_ret (v := .tuple #[.agg #[.int .u32 0, .int .u16 0, .int .u32 0, .int .u16 0], .agg #[.int .u32 0, .int .u16 0, .int .u32 0, .int .u16 0], .bool false]) (by simp [results, Try.results23, go_sem, c0, c1, c2, c3, d0, d1, d2, d3]) rfl ⟨rfl, Q3.out⟩
theorem drop_nil (r : Nat) (h : Blk w r 26 #[.int .u64 1]) : Calls Try.prog 10 #[.pointer none, .slice (some ⟨r, 0, none⟩) 1 1] w fun e w' => e = .returned (.int .i64 0) ∧ w = w' := by
  have hc := h.cell 0
  simp at hc
  have hlt := h.lt
  clear h
  go_enter Try.func10, Try.ntmps10
  go_wp2
  go_loop [4, 10] (fun c i => c = .int .i64 0 ∧ (i = .int .i64 0 ∨ i = .int .i64 1)) (fun _ i => 1 - (intOf i).toNat)
  case atStart => exact ⟨rfl, .inl rfl⟩
  case round =>
    obtain ⟨rfl, rfl | rfl⟩ := hrel
    · go_wp2_with fail
      (with_reducible refine (of_nil _ _).mono ?_)
      rintro e w' ⟨rfl, rfl⟩
      go_wp2
      go_round
      case rel => exact ⟨rfl, .inr rfl⟩
      case measure => simp [intOf]
    · go_wp2
      go_ret
      exact ⟨rfl, rfl⟩
end
theorem newFacts {ba bb g : Nat} {v : Value} {a b : Pr} : (putT (newT 3 ba bb) g v a).by_ b = (if b = a then 1 else 0) ∧ (putT (newT 3 ba bb) g v a).E 1 = some ⟨g, v, a, pr0, false⟩ ∧ (putT (newT 3 ba bb) g v a).n = 1 ∧ (putT (newT 3 ba bb) g v a).m = 1 ∧ (putT (newT 3 ba bb) g v a).last = 1 := by
  simp [putT, newT]
theorem dropFacts {ba bb g : Nat} {v : Value} {a b : Pr} (h : a ≠ b) : dropN (bindT (putT (newT 3 ba bb) g v a) 1 ⟨g, v, a, pr0, false⟩ b) [1, 1] = 1 ∧ ∀ s, s = dropAll (bindT (putT (newT 3 ba bb) g v a) 1 ⟨g, v, a, pr0, false⟩ b) [1, 1] →
    s.by_ a = 0 ∧ s.by_ b = 0 ∧ s.n = 0 ∧ s.m = 0 ∧ s.most = 3 ∧ s.last = 1 := by
  refine ⟨by simp [dropN, hasN, dropT, bindT, putT, newT, bEnt], ?_⟩
  rintro s rfl
  simp [dropAll, dropT, bindT, putT, newT, bEnt, h, h.symm]
theorem dropFacts2 {ba bb g : Nat} {v : Value} {a : Pr} : dropN (putT (newT 3 ba bb) g v a) [1, 1] = 1 ∧ ∀ s, s = dropAll (putT (newT 3 ba bb) g v a) [1, 1] →
    s.by_ a = 0 ∧ s.n = 0 ∧ s.m = 0 ∧ s.most = 3 ∧ s.last = 1 := by
  refine ⟨by simp [dropN, hasN, dropT, putT, newT], ?_⟩
  rintro s rfl
  simp [dropAll, dropT, putT, newT]
theorem putFacts {s : Tab} {g : Nat} {v : Value} {a b : Pr} (hl : s.last = 1) : (putT s g v b).by_ a = (if a = b then 2 else s.by_ a) ∧ (putT s g v b).E 2 = some ⟨g, v, b, pr0, false⟩ ∧ (putT s g v b).m = s.m + 1 ∧ (putT s g v b).last = 2 := by
  simp [putT, hl]
set_option maxRecDepth 100000 in
theorem open_pair {H : Type} {enc : TypeId × Value → H} {w : World} {base : Nat} {spare : Nat → Bool} {held : Bool} {r : Reach} {b0 : Nat} {v : Value} {d : DataW H} {p : List MemPlace} (hv : Value.okWide Try.prog w r b0 34 v) (h : DataW.Trod enc Try.prog w base spare held 34 v d p) :
    ∃ a b c e : Int, v = .agg #[.int .u32 a, .int .u16 b, .int .u32 c, .int .u16 e] ∧ (⟨a, b, c, e⟩ : Pr).wf := by
  obtain ⟨cs, rfl, hsz⟩ := okWide_struct Try.underlying34 hv
  obtain ⟨l⟩ := cs
  match l, hsz.trans cellsPair with
  | [c0, c1, c2, c3], _ =>
    have h0 := ReadsAs.of h
    have h1 := h0.part Try.underlying34 0 rfl cellsAddr (ds := [c0, c1]) rfl
    have h2 := h0.part Try.underlying34 1 rfl cellsAddr (ds := [c2, c3]) rfl
    obtain ⟨a, rfl, wa⟩ := (h1.part Try.underlying32 0 rfl cells32 (ds := [c0]) rfl).int Try.underlying29
    obtain ⟨b, rfl, wb⟩ := (h1.part Try.underlying32 1 rfl cells16 (ds := [c1]) rfl).int Try.underlying30
    obtain ⟨c, rfl, wc⟩ := (h2.part Try.underlying32 0 rfl cells32 (ds := [c2]) rfl).int Try.underlying29
    obtain ⟨e, rfl, we⟩ := (h2.part Try.underlying32 1 rfl cells16 (ds := [c3]) rfl).int Try.underlying30
    exact ⟨a, b, c, e, rfl, wa, wb, wc, we⟩
set_option maxRecDepth 100000 in
set_option maxHeartbeats 4000000 in
theorem walk (a b c d a' b' c' d' v : Int) (w : World) (w0 : (⟨a, b, c, d⟩ : Pr).wf) (w1 : (⟨a', b', c', d'⟩ : Pr).wf) (w2 : (Lit.int .i64 v).wf = true) :
    Calls Try.prog 6 #[.agg #[.int .u32 a, .int .u16 b, .int .u32 c, .int .u16 d], .agg #[.int .u32 a', .int .u16 b', .int .u32 c', .int .u16 d'], .int .i64 v] w fun e w' => e = .returned (.bool true) ∧ Below w.heap.size w w' := by
  have W0 := Lib.hid w0
  have W1 := Lib.hid w1
  clear w0 w1 w2
  go_enter Try.func6, Try.ntmps6
  go_upto_region 1 with fail
  have hk := Blk.alloc (Blk.new w 34 #[.int .u32 a, .int .u16 b, .int .u32 c, .int .u16 d]) (.cells #[.int .u32 a', .int .u16 b', .int .u32 c', .int .u16 d'] 34)
  have hk2 := blkNewB w (.cells #[.int .u32 a, .int .u16 b, .int .u32 c, .int .u16 d] 34) 34 #[.int .u32 a', .int .u16 b', .int .u32 c', .int .u16 d']
  have hb : Below w.heap.size w ((w.alloc (.cells #[.int .u32 a, .int .u16 b, .int .u32 c, .int .u16 d] 34)).alloc (.cells #[.int .u32 a', .int .u16 b', .int .u32 c', .int .u16 d'] 34)) := ((Below.refl _ _).alloc (Nat.le_refl _) _).alloc (by simp) _
  obtain ⟨g1, e1⟩ : ∃ g, g = w.heap.size := ⟨_, rfl⟩
  obtain ⟨g2, e2⟩ : ∃ g, g = w.heap.size + 1 := ⟨_, rfl⟩
  rw [← e2] at hk2 ⊢
  rw [← e1] at hk ⊢
  clear e1 e2
  generalize (w.alloc _).alloc _ = wB at *
  have KA := Lib.hid hk
  have KB := Lib.hid hk2
  have HB := Lib.hid hb
  have LA := Lib.hid hk.lt
  have LB := Lib.hid hk2.lt
  clear hk hk2 hb
  go_wp2_with fail
  with_reducible refine (hnew_i wB 3 3 rfl (by omega)).mono ?_
  rintro e w1 ⟨t, ba, bb, rfl, h1⟩
  have H := Lib.hid h1
  clear h1
  have ca := (KA.out.below H.out.below LA.out).cell
  have cb := (KB.out.below H.out.below LB.out).cell
  have ca0 := ca 0
  have ca1 := ca 1
  have ca2 := ca 2
  have ca3 := ca 3
  have cb0 := cb 0
  have cb1 := cb 1
  have cb2 := cb 2
  have cb3 := cb 3
  simp at ca0 ca1 ca2 ca3 cb0 cb1 cb2 cb3
  clear ca cb
  go_wp2_with fail
  with_reducible refine (put_nil _ ⟨a, b, c, d⟩ v).mono ?_
  rintro e w' ⟨rfl, h'⟩
  have h'' := H.out.step h'
  have H := Lib.hid h''
  clear h' h'' ca0 ca1 ca2 ca3 cb0 cb1 cb2 cb3
  have ca := (KA.out.below H.out.below LA.out).cell
  have cb := (KB.out.below H.out.below LB.out).cell
  have ca0 := ca 0
  have ca1 := ca 1
  have ca2 := ca 2
  have ca3 := ca 3
  have cb0 := cb 0
  have cb1 := cb 1
  have cb2 := cb 2
  have cb3 := cb 3
  simp at ca0 ca1 ca2 ca3 cb0 cb1 cb2 cb3
  clear ca cb
  go_wp2_with fail
  with_reducible refine (find_nil _ ⟨a, b, c, d⟩).mono ?_
  rintro e w' ⟨rfl, h'⟩
  have h'' := H.out.step h'
  have H := Lib.hid h''
  clear h' h'' ca0 ca1 ca2 ca3 cb0 cb1 cb2 cb3
  have ca := (KA.out.below H.out.below LA.out).cell
  have cb := (KB.out.below H.out.below LB.out).cell
  have ca0 := ca 0
  have ca1 := ca 1
  have ca2 := ca 2
  have ca3 := ca 3
  have cb0 := cb 0
  have cb1 := cb 1
  have cb2 := cb 2
  have cb3 := cb 3
  simp at ca0 ca1 ca2 ca3 cb0 cb1 cb2 cb3
  clear ca cb
  go_wp2_with fail
  with_reducible refine (get_nil _ _).mono ?_
  rintro e w' ⟨rfl, rfl⟩
  go_wp2_with fail
  with_reducible refine (pairs_nil _ _).mono ?_
  rintro e w' ⟨rfl, h'⟩
  have h'' := H.out.step h'
  have H := Lib.hid h''
  clear h' h'' ca0 ca1 ca2 ca3 cb0 cb1 cb2 cb3
  have ca := (KA.out.below H.out.below LA.out).cell
  have cb := (KB.out.below H.out.below LB.out).cell
  have ca0 := ca 0
  have ca1 := ca 1
  have ca2 := ca 2
  have ca3 := ca 3
  have cb0 := cb 0
  have cb1 := cb 1
  have cb2 := cb 2
  have cb3 := cb 3
  simp at ca0 ca1 ca2 ca3 cb0 cb1 cb2 cb3
  clear ca cb
  go_upto_region 9 with fail
  have h' := (H.out.alloc (.cells #[.int .u32 0, .int .u16 0, .int .u32 0, .int .u16 0] 34)).alloc (.cells #[.int .u32 0, .int .u16 0, .int .u32 0, .int .u16 0] 34)
  have H := Lib.hid h'
  clear h'
  generalize (w'.alloc _).alloc _ = w3 at *
  clear ca0 ca1 ca2 ca3 cb0 cb1 cb2 cb3
  have ca := (KA.out.below H.out.below LA.out).cell
  have cb := (KB.out.below H.out.below LB.out).cell
  have ca0 := ca 0
  have ca1 := ca 1
  have ca2 := ca 2
  have ca3 := ca 3
  have cb0 := cb 0
  have cb1 := cb 1
  have cb2 := cb 2
  have cb3 := cb 3
  simp at ca0 ca1 ca2 ca3 cb0 cb1 cb2 cb3
  clear ca cb
  go_wp2_with fail
  with_reducible refine (bind_nil _ _ ⟨a', b', c', d'⟩).mono ?_
  rintro e w' ⟨rfl, h'⟩
  have h'' := H.out.step h'
  have H := Lib.hid h''
  clear h' h'' ca0 ca1 ca2 ca3 cb0 cb1 cb2 cb3
  have ca := (KA.out.below H.out.below LA.out).cell
  have cb := (KB.out.below H.out.below LB.out).cell
  have ca0 := ca 0
  have ca1 := ca 1
  have ca2 := ca 2
  have ca3 := ca 3
  have cb0 := cb 0
  have cb1 := cb 1
  have cb2 := cb 2
  have cb3 := cb 3
  simp at ca0 ca1 ca2 ca3 cb0 cb1 cb2 cb3
  clear ca cb
  go_wp2_with fail
  with_reducible refine (set_nil _ _ _).mono ?_
  rintro e w' ⟨rfl, rfl⟩
  go_wp2_with fail
  with_reducible refine (drop_nil _ _ (Blk.new _ _ _)).mono ?_
  rintro e w4 ⟨rfl, rfl⟩
  have h' := H.out.alloc (.cells #[.int .u64 1] 26)
  have H := Lib.hid h'
  clear h'
  generalize w'.alloc _ = w5 at *
  clear ca0 ca1 ca2 ca3 cb0 cb1 cb2 cb3
  have ca := (KA.out.below H.out.below LA.out).cell
  have cb := (KB.out.below H.out.below LB.out).cell
  have ca0 := ca 0
  have ca1 := ca 1
  have ca2 := ca 2
  have ca3 := ca 3
  have cb0 := cb 0
  have cb1 := cb 1
  have cb2 := cb 2
  have cb3 := cb 3
  simp at ca0 ca1 ca2 ca3 cb0 cb1 cb2 cb3
  clear ca cb
  go_wp2_with fail
  with_reducible refine (all_nil _).mono ?_
  rintro e w' ⟨rfl, rfl⟩
  go_wp2_with fail
  with_reducible refine (len_nil _).mono ?_
  rintro e w' ⟨rfl, rfl⟩
  go_upto_region 11 with fail
  have hneq := neq_pair ⟨a, b, c, d⟩ ⟨a', b', c', d'⟩
  by_cases hab : (⟨a, b, c, d⟩ : Pr) = ⟨a', b', c', d'⟩
  · simp only [hab, decide_true, Bool.not_true] at hneq
    injection hab with e1 e2 e3 e4
    subst e1 e2 e3 e4
    go_wp2_with fail
    have c1 : Calls Try.prog 8 #[.pointer (some ⟨t, 0, none⟩), .agg #[.int .u32 a, .int .u16 b, .int .u32 c, .int .u16 d], .int .i64 v] _ _ := hput_i ⟨a, b, c, d⟩ v 1 H.out W0.out rfl (by simp [newT]) (by simp [newT]) rfl
    with_reducible refine c1.mono ?_
    clear c1
    rintro e w' ⟨g, rfl, h'⟩
    have F1 := Lib.hid (newFacts (ba := ba) (bb := bb) (g := g) (v := .int .i64 v) (a := ⟨a, b, c, d⟩) (b := ⟨a, b, c, d⟩))
    have F2 := Lib.hid (dropFacts2 (ba := ba) (bb := bb) (g := g) (v := .int .i64 v) (a := ⟨a, b, c, d⟩))
    have H := Lib.hid h'
    clear h' ca0 ca1 ca2 ca3 cb0 cb1 cb2 cb3
    have ca := (KA.out.below H.out.below LA.out).cell
    have cb := (KB.out.below H.out.below LB.out).cell
    have ca0 := ca 0
    have ca1 := ca 1
    have ca2 := ca 2
    have ca3 := ca 3
    have cb0 := cb 0
    have cb1 := cb 1
    have cb2 := cb 2
    have cb3 := cb 3
    simp at ca0 ca1 ca2 ca3 cb0 cb1 cb2 cb3
    clear ca cb
    go_wp2_with fail
    have c1 : Calls Try.prog 14 #[.pointer (some ⟨t, 0, none⟩), .int .u64 1, .agg #[.int .u32 a, .int .u16 b, .int .u32 c, .int .u16 d]] _ _ := hbthere_i 1 1 ⟨a, b, c, d⟩ _ H.out W0.out rfl F1.out.2.1 rfl (by rw [F1.out.1]; simp)
    with_reducible refine c1.mono ?_
    clear c1
    rintro e w' ⟨rfl, h'⟩
    have H := Lib.hid h'
    clear h' ca0 ca1 ca2 ca3 cb0 cb1 cb2 cb3
    have ca := (KA.out.below H.out.below LA.out).cell
    have cb := (KB.out.below H.out.below LB.out).cell
    have ca0 := ca 0
    have ca1 := ca 1
    have ca2 := ca 2
    have ca3 := ca 3
    have cb0 := cb 0
    have cb1 := cb 1
    have cb2 := cb 2
    have cb3 := cb 3
    simp at ca0 ca1 ca2 ca3 cb0 cb1 cb2 cb3
    clear ca cb
    go_wp2_with fail
    have c1 : Calls Try.prog 10 #[.pointer (some ⟨t, 0, none⟩), .slice (some ⟨w'.heap.size, 0, none⟩) 2 2] (w'.alloc (.cells #[.int .u64 1, .int .u64 1] 26)) _ := hdrop_i w'.heap.size [1, 1] 1 1 #[.int .u64 1, .int .u64 1] (H.out.alloc _) (by simp) rfl (Blk.new _ _ _) (by simp) 2 rfl (by rw [F2.out.1]; rfl)
    with_reducible refine c1.mono ?_
    clear c1
    rintro e w' ⟨rfl, h'⟩
    obtain ⟨s3, hs3⟩ : ∃ s3, s3 = dropAll (putT (newT 3 ba bb) g (.int .i64 v) ⟨a, b, c, d⟩) [1, 1] := ⟨_, rfl⟩
    have F3 := Lib.hid (F2.out.2 s3 hs3)
    rw [← hs3] at h'
    have H := Lib.hid h'
    clear h' hs3 ca0 ca1 ca2 ca3 cb0 cb1 cb2 cb3
    have ca := (KA.out.below H.out.below LA.out).cell
    have cb := (KB.out.below H.out.below LB.out).cell
    have ca0 := ca 0
    have ca1 := ca 1
    have ca2 := ca 2
    have ca3 := ca 3
    have cb0 := cb 0
    have cb1 := cb 1
    have cb2 := cb 2
    have cb3 := cb 3
    simp at ca0 ca1 ca2 ca3 cb0 cb1 cb2 cb3
    clear ca cb
    go_wp2_with fail
    have c1 : Calls Try.prog 19 #[.pointer (some ⟨t, 0, none⟩), .agg #[.int .u32 a, .int .u16 b, .int .u32 c, .int .u16 d]] _ _ := hfind_no_i ⟨a, b, c, d⟩ H.out W0.out F3.out.1
    with_reducible refine c1.mono ?_
    clear c1
    rintro e w' ⟨rfl, h'⟩
    have H := Lib.hid h'
    clear h' ca0 ca1 ca2 ca3 cb0 cb1 cb2 cb3
    have ca := (KA.out.below H.out.below LA.out).cell
    have cb := (KB.out.below H.out.below LB.out).cell
    have ca0 := ca 0
    have ca1 := ca 1
    have ca2 := ca 2
    have ca3 := ca 3
    have cb0 := cb 0
    have cb1 := cb 1
    have cb2 := cb 2
    have cb3 := cb 3
    simp at ca0 ca1 ca2 ca3 cb0 cb1 cb2 cb3
    clear ca cb
    go_wp2_with fail
    have c1 : Calls Try.prog 19 #[.pointer (some ⟨t, 0, none⟩), .agg #[.int .u32 a, .int .u16 b, .int .u32 c, .int .u16 d]] _ _ := hfind_no_i ⟨a, b, c, d⟩ H.out W0.out F3.out.1
    with_reducible refine c1.mono ?_
    clear c1
    rintro e w' ⟨rfl, h'⟩
    have H := Lib.hid h'
    clear h' ca0 ca1 ca2 ca3 cb0 cb1 cb2 cb3
    have ca := (KA.out.below H.out.below LA.out).cell
    have cb := (KB.out.below H.out.below LB.out).cell
    have ca0 := ca 0
    have ca1 := ca 1
    have ca2 := ca 2
    have ca3 := ca 3
    have cb0 := cb 0
    have cb1 := cb 1
    have cb2 := cb 2
    have cb3 := cb 3
    simp at ca0 ca1 ca2 ca3 cb0 cb1 cb2 cb3
    clear ca cb
    go_wp2_with fail
    have c1 : Calls Try.prog 8 #[.pointer (some ⟨t, 0, none⟩), .agg #[.int .u32 a, .int .u16 b, .int .u32 c, .int .u16 d], .int .i64 v] _ _ := hput_i ⟨a, b, c, d⟩ v 2 H.out W0.out F3.out.1 (by have := F3.out; omega) (by have := F3.out; omega) (by have := F3.out; omega)
    with_reducible refine c1.mono ?_
    clear c1
    rintro e w' ⟨gn, rfl, h'⟩
    have F4 := Lib.hid (putFacts (s := s3) (g := gn) (v := .int .i64 v) (a := ⟨a, b, c, d⟩) (b := ⟨a, b, c, d⟩) F3.out.2.2.2.2)
    have H := Lib.hid h'
    clear h' ca0 ca1 ca2 ca3 cb0 cb1 cb2 cb3
    have ca := (KA.out.below H.out.below LA.out).cell
    have cb := (KB.out.below H.out.below LB.out).cell
    have ca0 := ca 0
    have ca1 := ca 1
    have ca2 := ca 2
    have ca3 := ca 3
    have cb0 := cb 0
    have cb1 := cb 1
    have cb2 := cb 2
    have cb3 := cb 3
    simp at ca0 ca1 ca2 ca3 cb0 cb1 cb2 cb3
    clear ca cb
    go_wp2_with fail
    have c1 : Calls Try.prog 14 #[.pointer (some ⟨t, 0, none⟩), .int .u64 2, .agg #[.int .u32 a, .int .u16 b, .int .u32 c, .int .u16 d]] _ _ := hbthere_i 2 2 ⟨a, b, c, d⟩ _ H.out W0.out rfl F4.out.2.1 rfl (by rw [F4.out.1]; simp)
    with_reducible refine c1.mono ?_
    clear c1
    rintro e w' ⟨rfl, h'⟩
    have H := Lib.hid h'
    clear h' ca0 ca1 ca2 ca3 cb0 cb1 cb2 cb3
    have ca := (KA.out.below H.out.below LA.out).cell
    have cb := (KB.out.below H.out.below LB.out).cell
    have ca0 := ca 0
    have ca1 := ca 1
    have ca2 := ca 2
    have ca3 := ca 3
    have cb0 := cb 0
    have cb1 := cb 1
    have cb2 := cb 2
    have cb3 := cb 3
    simp at ca0 ca1 ca2 ca3 cb0 cb1 cb2 cb3
    clear ca cb
    go_wp2_with fail
    with_reducible refine (works12 _).mono ?_
    rintro e w9 ⟨rfl, hb9⟩
    have hbb := HB.out.trans ((H.out.below.trans (hb9.mono H.out.below.size)).mono HB.out.size)
    have HF := Lib.hid hbb
    clear hbb hb9
    go_wp2
    go_ret
    exact ⟨rfl, HF.out⟩
  · simp only [hab, decide_false, Bool.not_false] at hneq
    have Hab := Lib.hid hab
    clear hab
    go_wp2_with fail
    have c1 : Calls Try.prog 8 #[.pointer (some ⟨t, 0, none⟩), .agg #[.int .u32 a, .int .u16 b, .int .u32 c, .int .u16 d], .int .i64 v] _ _ := hput_i ⟨a, b, c, d⟩ v 1 H.out W0.out rfl (by simp [newT]) (by simp [newT]) rfl
    with_reducible refine c1.mono ?_
    clear c1
    rintro e w' ⟨g, rfl, h'⟩
    have F1 := Lib.hid (newFacts (ba := ba) (bb := bb) (g := g) (v := .int .i64 v) (a := ⟨a, b, c, d⟩) (b := ⟨a', b', c', d'⟩))
    have F2 := Lib.hid (dropFacts (ba := ba) (bb := bb) (g := g) (v := .int .i64 v) (a := ⟨a, b, c, d⟩) (b := ⟨a', b', c', d'⟩) Hab.out)
    have H := Lib.hid h'
    clear h' ca0 ca1 ca2 ca3 cb0 cb1 cb2 cb3
    have ca := (KA.out.below H.out.below LA.out).cell
    have cb := (KB.out.below H.out.below LB.out).cell
    have ca0 := ca 0
    have ca1 := ca 1
    have ca2 := ca 2
    have ca3 := ca 3
    have cb0 := cb 0
    have cb1 := cb 1
    have cb2 := cb 2
    have cb3 := cb 3
    simp at ca0 ca1 ca2 ca3 cb0 cb1 cb2 cb3
    clear ca cb
    go_wp2_with fail
    have c1 : Calls Try.prog 14 #[.pointer (some ⟨t, 0, none⟩), .int .u64 1, .agg #[.int .u32 a', .int .u16 b', .int .u32 c', .int .u16 d']] _ _ := hbind_i 1 1 ⟨a', b', c', d'⟩ _ v H.out W1.out rfl F1.out.2.1 rfl rfl (by rw [F1.out.1, if_neg (fun e => Hab.out e.symm)]) (by have := F1.out; omega)
    with_reducible refine c1.mono ?_
    clear c1
    rintro e w' ⟨rfl, h'⟩
    have H := Lib.hid h'
    clear h' ca0 ca1 ca2 ca3 cb0 cb1 cb2 cb3
    have ca := (KA.out.below H.out.below LA.out).cell
    have cb := (KB.out.below H.out.below LB.out).cell
    have ca0 := ca 0
    have ca1 := ca 1
    have ca2 := ca 2
    have ca3 := ca 3
    have cb0 := cb 0
    have cb1 := cb 1
    have cb2 := cb 2
    have cb3 := cb 3
    simp at ca0 ca1 ca2 ca3 cb0 cb1 cb2 cb3
    clear ca cb
    go_wp2_with fail
    have c1 : Calls Try.prog 10 #[.pointer (some ⟨t, 0, none⟩), .slice (some ⟨w'.heap.size, 0, none⟩) 2 2] (w'.alloc (.cells #[.int .u64 1, .int .u64 1] 26)) _ := hdrop_i w'.heap.size [1, 1] 1 1 #[.int .u64 1, .int .u64 1] (H.out.alloc _) (by simp) rfl (Blk.new _ _ _) (by simp) 2 rfl (by rw [F2.out.1]; rfl)
    with_reducible refine c1.mono ?_
    clear c1
    rintro e w' ⟨rfl, h'⟩
    obtain ⟨s3, hs3⟩ : ∃ s3, s3 = dropAll (bindT (putT (newT 3 ba bb) g (.int .i64 v) ⟨a, b, c, d⟩) 1 ⟨g, .int .i64 v, ⟨a, b, c, d⟩, pr0, false⟩ ⟨a', b', c', d'⟩) [1, 1] := ⟨_, rfl⟩
    have F3 := Lib.hid (F2.out.2 s3 hs3)
    rw [← hs3] at h'
    have H := Lib.hid h'
    clear h' hs3 ca0 ca1 ca2 ca3 cb0 cb1 cb2 cb3
    have ca := (KA.out.below H.out.below LA.out).cell
    have cb := (KB.out.below H.out.below LB.out).cell
    have ca0 := ca 0
    have ca1 := ca 1
    have ca2 := ca 2
    have ca3 := ca 3
    have cb0 := cb 0
    have cb1 := cb 1
    have cb2 := cb 2
    have cb3 := cb 3
    simp at ca0 ca1 ca2 ca3 cb0 cb1 cb2 cb3
    clear ca cb
    go_wp2_with fail
    have c1 : Calls Try.prog 19 #[.pointer (some ⟨t, 0, none⟩), .agg #[.int .u32 a, .int .u16 b, .int .u32 c, .int .u16 d]] _ _ := hfind_no_i ⟨a, b, c, d⟩ H.out W0.out F3.out.1
    with_reducible refine c1.mono ?_
    clear c1
    rintro e w' ⟨rfl, h'⟩
    have H := Lib.hid h'
    clear h' ca0 ca1 ca2 ca3 cb0 cb1 cb2 cb3
    have ca := (KA.out.below H.out.below LA.out).cell
    have cb := (KB.out.below H.out.below LB.out).cell
    have ca0 := ca 0
    have ca1 := ca 1
    have ca2 := ca 2
    have ca3 := ca 3
    have cb0 := cb 0
    have cb1 := cb 1
    have cb2 := cb 2
    have cb3 := cb 3
    simp at ca0 ca1 ca2 ca3 cb0 cb1 cb2 cb3
    clear ca cb
    go_wp2_with fail
    have c1 : Calls Try.prog 19 #[.pointer (some ⟨t, 0, none⟩), .agg #[.int .u32 a', .int .u16 b', .int .u32 c', .int .u16 d']] _ _ := hfind_no_i ⟨a', b', c', d'⟩ H.out W1.out F3.out.2.1
    with_reducible refine c1.mono ?_
    clear c1
    rintro e w' ⟨rfl, h'⟩
    have H := Lib.hid h'
    clear h' ca0 ca1 ca2 ca3 cb0 cb1 cb2 cb3
    have ca := (KA.out.below H.out.below LA.out).cell
    have cb := (KB.out.below H.out.below LB.out).cell
    have ca0 := ca 0
    have ca1 := ca 1
    have ca2 := ca 2
    have ca3 := ca 3
    have cb0 := cb 0
    have cb1 := cb 1
    have cb2 := cb 2
    have cb3 := cb 3
    simp at ca0 ca1 ca2 ca3 cb0 cb1 cb2 cb3
    clear ca cb
    go_wp2_with fail
    have c1 : Calls Try.prog 8 #[.pointer (some ⟨t, 0, none⟩), .agg #[.int .u32 a', .int .u16 b', .int .u32 c', .int .u16 d'], .int .i64 v] _ _ := hput_i ⟨a', b', c', d'⟩ v 2 H.out W1.out F3.out.2.1 (by have := F3.out; omega) (by have := F3.out; omega) (by have := F3.out; omega)
    with_reducible refine c1.mono ?_
    clear c1
    rintro e w' ⟨gn, rfl, h'⟩
    have F4 := Lib.hid (putFacts (s := s3) (g := gn) (v := .int .i64 v) (a := ⟨a, b, c, d⟩) (b := ⟨a', b', c', d'⟩) F3.out.2.2.2.2.2)
    have H := Lib.hid h'
    clear h' ca0 ca1 ca2 ca3 cb0 cb1 cb2 cb3
    have ca := (KA.out.below H.out.below LA.out).cell
    have cb := (KB.out.below H.out.below LB.out).cell
    have ca0 := ca 0
    have ca1 := ca 1
    have ca2 := ca 2
    have ca3 := ca 3
    have cb0 := cb 0
    have cb1 := cb 1
    have cb2 := cb 2
    have cb3 := cb 3
    simp at ca0 ca1 ca2 ca3 cb0 cb1 cb2 cb3
    clear ca cb
    go_wp2_with fail
    have c1 : Calls Try.prog 14 #[.pointer (some ⟨t, 0, none⟩), .int .u64 2, .agg #[.int .u32 a, .int .u16 b, .int .u32 c, .int .u16 d]] _ _ := hbind_i 2 2 ⟨a, b, c, d⟩ _ v H.out W0.out rfl F4.out.2.1 rfl rfl (by rw [F4.out.1, if_neg Hab.out]; exact F3.out.1) (by have := F4.out; have := F3.out; omega)
    with_reducible refine c1.mono ?_
    clear c1
    rintro e w' ⟨rfl, h'⟩
    have H := Lib.hid h'
    clear h' ca0 ca1 ca2 ca3 cb0 cb1 cb2 cb3
    have ca := (KA.out.below H.out.below LA.out).cell
    have cb := (KB.out.below H.out.below LB.out).cell
    have ca0 := ca 0
    have ca1 := ca 1
    have ca2 := ca 2
    have ca3 := ca 3
    have cb0 := cb 0
    have cb1 := cb 1
    have cb2 := cb 2
    have cb3 := cb 3
    simp at ca0 ca1 ca2 ca3 cb0 cb1 cb2 cb3
    clear ca cb
    go_wp2_with fail
    with_reducible refine (works12 _).mono ?_
    rintro e w9 ⟨rfl, hb9⟩
    have hbb := HB.out.trans ((H.out.below.trans (hb9.mono H.out.below.size)).mono HB.out.size)
    have HF := Lib.hid hbb
    clear hbb hb9
    go_wp2
    go_ret
    exact ⟨rfl, HF.out⟩
theorem own : ownKnob Try.prog.godebug = none := by kernel_rfl
theorem laidOut : laidOutB Try.prog = true := by kernel_rfl
set_option maxRecDepth 100000 in
theorem lifted (os : Os) (started : os.Started) (H : Type) (enc : TypeId × Value → H) :
    ReturnsInHanded {} Try.checked os 6 .any (Rows.tableGoneSpec.pre6 enc Try.prog Try.f6 Rows.tableGoneRow.domain false) (Rows.tableGoneSpec.post enc Try.prog Try.f6 false true false false) := by
  refine returnsInHanded_of_change (C := Try.checked) own started (by kernel_rfl) Try.func6
    (ChangeSpec.witness6 (enc := enc) (C := Try.checked) false ⟨#[], #[.agg #[.int .u32 0, .int .u16 0, .int .u32 0, .int .u16 0], .agg #[.int .u32 0, .int .u16 0, .int .u32 0, .int .u16 0], .int .i64 0], []⟩ 8 (by kernel_rfl) (by kernel_rfl) (by kernel_rfl) (by kernel_rfl)) ?_
  intro W base args ds gs before hval0 hW hcnd _
  have hval : ∀ (j : Nat) t v, Try.f6.params[j]? = some t → args[j]? = some v → Value.okWide Try.prog W .any base t v := hval0
  have hW' := hW
  obtain ⟨p, q, hA0, hV, rfl, hfz, hnd⟩ := hW
  have hA : DataW.TrodAll enc Try.prog W 0 (fun _ => true) true Try.f6.params.toList args.toList ds p := hA0
  rw [Try.params6] at hA hval
  obtain ⟨v0, vs0, d0, ds0, p0, q0, hargs, rfl, rfl, h0, r0⟩ := trodAll_cons hA
  obtain ⟨v1, vs1, d1, ds1, p1, q1, rfl, rfl, rfl, h1, r1⟩ := trodAll_cons r0
  obtain ⟨v2, vs2, d2, ds2, p2, q2, rfl, rfl, rfl, h2, r2⟩ := trodAll_cons r1
  obtain ⟨rfl, rfl, rfl⟩ := trodAll_nil r2
  obtain rfl : args = #[v0, v1, v2] := by cases args; simp_all
  obtain ⟨rfl, rfl⟩ := trodVars_none hV
  have k0 := h0
  have lt0 : ∀ x ∈ p0, x.block < W.heap.size := by obtain ⟨m, hm⟩ := k0; exact DataW.trod_lt m _ _ _ hm
  obtain ⟨a0_0, a0_1, a0_2, a0_3, rfl, w0⟩ := open_pair (hval 0 34 v0 rfl rfl) h0
  have k1 := h1
  have lt1 : ∀ x ∈ p1, x.block < W.heap.size := by obtain ⟨m, hm⟩ := k1; exact DataW.trod_lt m _ _ _ hm
  obtain ⟨a1_0, a1_1, a1_2, a1_3, rfl, w1⟩ := open_pair (hval 1 34 v1 rfl rfl) h1
  obtain ⟨a2, rfl, rfl, rfl, w2⟩ := open_int Try.underlying3 (hval 2 3 v2 rfl rfl) h2
  clear hA0 hval0
  refine (walk a0_0 a0_1 a0_2 a0_3 a1_0 a1_1 a1_2 a1_3 a2 W w0 w1 w2).mono fun e W' ⟨he, bel⟩ => ?_
  subst he
  exact ⟨_, rfl, _, _, _, [], _, [], hW', trodAll_mk1 (shut_bool Try.underlying4 _), (trodAll_cons_mk (Below.trod laidOut (by kernel_rfl) (of_decide_eq_true (by kernel_rfl)) k0 bel lt0) (trodAll_cons_mk (Below.trod laidOut (by kernel_rfl) (of_decide_eq_true (by kernel_rfl)) k1 bel lt1) (trodAll_cons_mk (shut_int Try.underlying3 w2) trodAll_mk0))), rfl, bel.frame _, fun h => by cases h⟩

theorem over : Rows.tableGoneRow.holds Try.pinned (OpenSpec.ofChange Rows.tableGoneSpec) :=
  OpenClaim.holds_of_wide 6 Try.f6 rfl rfl rfl rfl rfl rfl rfl ⟨rfl, rfl, rfl, rfl, rfl⟩ rfl rfl rfl rfl rfl (by kernel_rfl) Try.func6 (by kernel_rfl)
    (of_decide_eq_true (by kernel_rfl)) (by unfold Func.isWrapper; first | (rw [if_pos (by decide +kernel)]; kernel_rfl) | (rw [if_neg (by decide +kernel)]; exact ⟨rfl, rfl⟩))
    (fun os started H enc _ => lifted os started H enc)

/-- THE STATEMENT -/
theorem proved : Rows.TableGoneSaid := over
#print axioms proved
end Go.Proofs.Ytlikngepcbmhdaa.tableGone
