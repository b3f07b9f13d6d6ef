/- Layer 12's reference: Put. -/
import Derived.Test.YtlikngepcbmhdaaRef12
import Derived.Test.YtlikngepcbmhdaaFlowX
import Derived.StillTailTactics
set_option linter.unusedVariables false
set_option linter.unusedSimpArgs false
namespace Go.Proofs.Ytlikngepcbmhdaa
open Go.ChangeShapes Go.WideShapes Go.ChangeAt Go.RowKit Go.Maps

theorem infoEn : (Try.prog.info? 55).map (fun i => (i.zero, i.size, i.bytes)) = some (some (.agg #[.int .u64 0, .int .i64 0, .int .u32 0, .int .u16 0, .int .u32 0, .int .u16 0, .int .u32 0, .int .u16 0, .int .u32 0, .int .u16 0, .bool false]), 11, 56) := by kernel_rfl
theorem infoEn_parts : ∃ i, Try.prog.info? 55 = some i ∧ i.zero = some (.agg #[.int .u64 0, .int .i64 0, .int .u32 0, .int .u16 0, .int .u32 0, .int .u16 0, .int .u32 0, .int .u16 0, .int .u32 0, .int .u16 0, .bool false]) ∧ i.size = 11 ∧ i.bytes = 56 := by
  obtain ⟨i, h, e⟩ := Option.map_eq_some_iff.1 infoEn
  exact ⟨i, h, congrArg Prod.fst e, congrArg (·.2.1) e, congrArg (·.2.2) e⟩
/-- the blocks of the reference -/
def ROwn (b : Nat) (A : Option Addr) (i : Nat) : Prop := i = b ∨ rowR A = some i
/-- behind a call that changes the reference's table -/
def RPost (base b most last : Nat) (l : List PE) (A : Option Addr) (w : World) (v : Value) (e : Ending) (w' : World) : Prop :=
  e = .returned v ∧ ∃ A' c', RefAt base w' b most last l A' c' ∧ Out (ROwn b A) w w' ∧ ∀ g, rowR A' = some g → rowR A = some g ∨ w.heap.size ≤ g
section
variable {base b most last c : Nat} {w : World} {l : List PE} {A : Option Addr} {p : Pr}
set_option maxRecDepth 100000 in
set_option maxHeartbeats 1000000 in
theorem rput_there (v : Int) {N id side : Nat} (h : RefAt base w b most last l A c) (hm : l.length ≤ 1000000) (hF : FindR l p N id side) (hN : N < l.length) :
    Calls Try.prog 13 #[.pointer (some ⟨b, 0, none⟩), .agg #[.int .u32 p.a, .int .u16 p.b, .int .u32 p.c, .int .u16 p.d], .int .i64 v] w fun e w' => e = .returned (.tuple #[.int .u64 0, .int .i64 7]) ∧ Below w.heap.size w w' := by
  have hs : ¬ (side : Int) = 0 := by
    rcases (hF.here hN).1 with ⟨_, h⟩ | ⟨_, _, _, h⟩ <;> omega
  have hsb : ((side : Int) == 0) = false := by simp only [beq_eq_false_iff_ne, ne_eq]; exact hs
  have hB : Below w.heap.size w (w.alloc (.cells #[.int .u32 p.a, .int .u16 p.b, .int .u32 p.c, .int .u16 p.d] 34)) := (Below.refl _ _).alloc (Nat.le_refl _) _
  have c1 := rfind_any (h.below hB) hm hF
  have HB := Lib.hid hB
  clear h hF hB
  go_enter Try.func13, Try.ntmps13
  go_wp2_with (go_at_call 20; with_reducible refine c1.mono ?_; rintro e w1 ⟨rfl, hb⟩)
  go_ret2
  exact ⟨rfl, HB.out.trans (hb.mono HB.out.size)⟩
set_option maxRecDepth 100000 in
set_option maxHeartbeats 1000000 in
theorem rput_full (v : Int) {N : Nat} (h : RefAt base w b most last l A c) (hm : l.length ≤ 1000000) (hF : FindR l p N 0 0) (hn : most ≤ l.length) :
    Calls Try.prog 13 #[.pointer (some ⟨b, 0, none⟩), .agg #[.int .u32 p.a, .int .u16 p.b, .int .u32 p.c, .int .u16 p.d], .int .i64 v] w fun e w' => e = .returned (.tuple #[.int .u64 0, .int .i64 6]) ∧ Below w.heap.size w w' := by
  have hB : Below w.heap.size w (w.alloc (.cells #[.int .u32 p.a, .int .u16 p.b, .int .u32 p.c, .int .u16 p.d] 34)) := (Below.refl _ _).alloc (Nat.le_refl _) _
  have c1 := rfind_any (h.below hB) hm hF
  have HB := Lib.hid hB
  have HR := Lib.hid (h.below hB)
  have hnz : (most : Int) ≤ (l.length : Int) := by omega
  have hnb : decide ((l.length : Int) ≥ (most : Int)) = true := decide_eq_true hnz
  clear h hF hB
  go_enter Try.func13, Try.ntmps13
  go_upto_region 4 with (go_at_call 20; with_reducible refine c1.mono ?_; rintro e w1 ⟨rfl, hb⟩)
  have h1 := HR.out.below hb
  have hc0 := h1.blk.cell 0
  have hc2 := h1.blk.cell 2
  simp only [List.getElem?_toArray, List.getElem?_cons_zero, List.getElem?_cons_succ] at hc0 hc2
  clear h1
  go_quiet (fail)
  go_wp2
  go_ret2
  exact ⟨rfl, below_drewN (HB.out.trans (hb.mono HB.out.size)) _⟩
set_option maxRecDepth 100000 in
set_option maxHeartbeats 4000000 in
theorem rput_ok (v : Int) {N : Nat} (h : RefAt base w b most last l A c) (hb0 : base ≤ w.heap.size) (hm : l.length ≤ 1000000) (hF : FindR l p N 0 0) (hn : l.length < most) (hl : last < 1000000) (vw : (Lit.int .i64 v).wf = true) :
    Calls Try.prog 13 #[.pointer (some ⟨b, 0, none⟩), .agg #[.int .u32 p.a, .int .u16 p.b, .int .u32 p.c, .int .u16 p.d], .int .i64 v] w (RPost base b most (last + 1) (l ++ [⟨last + 1, v, p, pr0, false⟩]) A w (.tuple #[.int .u64 ((last : Int) + 1), .int .i64 0])) := by
  obtain ⟨gp, egp⟩ : ∃ gp, gp = w.heap.size := ⟨_, rfl⟩
  have hB : Below w.heap.size w (w.alloc (.cells #[.int .u32 p.a, .int .u16 p.b, .int .u32 p.c, .int .u16 p.d] 34)) := (Below.refl _ _).alloc (Nat.le_refl _) _
  have hbp := Blk.new w 34 #[.int .u32 p.a, .int .u16 p.b, .int .u32 p.c, .int .u16 p.d]
  have c1 := rfind_any (h.below hB) hm hF
  have HB := Lib.hid hB
  have HR := Lib.hid (h.below hB)
  have hnz : ¬ (most : Int) ≤ (l.length : Int) := by omega
  have hbl := h.blk.lt
  rw [← egp] at hbp
  have HBP := Lib.hid hbp
  have HEG := Lib.hid egp
  clear h hF hB hbp egp
  go_enter Try.func13, Try.ntmps13
  go_upto_region 4 with (go_at_call 20; with_reducible refine c1.mono ?_; rintro e w1 ⟨rfl, hb⟩)
  have h1 := HR.out.below hb
  have hbp1 := HBP.out.below hb HBP.out.lt
  have hw1 : Below w.heap.size w w1 := HB.out.trans (hb.mono HB.out.size)
  have hc0 := h1.blk.cell 0
  have hc1 := h1.blk.cell 1
  have hc2 := h1.blk.cell 2
  have hfr := h1.blk.frozen
  simp only [List.getElem?_toArray, List.getElem?_cons_zero, List.getElem?_cons_succ] at hc0 hc1 hc2
  have H1 := Lib.hid (And.intro h1 (And.intro hbp1 hw1))
  have e64 : IntKind.u64.wrap ((last : Int) + 1) = (last : Int) + 1 := by rw [IntKind.wrap_u64]; omega
  clear h1 hbp1 hw1 hb c1 HB HR HBP
  go_quiet (fail)
  go_upto_region 7 with fail
  rw [← HEG.out]
  obtain ⟨W0, hW0⟩ : ∃ W0, W0 = (w1.drewN nq).setCell ⟨b, 1, none⟩ (.int .u64 ((last : Int) + 1)) := ⟨_, rfl⟩
  rw [← hW0]
  obtain ⟨h1, hbp1, hw1⟩ := H1.out
  have hgb : gp ≠ b := by rw [HEG.out]; omega
  have hR0 : RefAt base W0 b most (last + 1) l A c := by
    rw [hW0]
    have hd := h1.below (below_drewN (Below.refl _ _) nq)
    refine ⟨?_, hd.row.kept (only_set (World.grownBy.refl _ (some b)) 1 _) (.inr ?_)⟩
    · have := hd.blk.set_ 1 (.int .u64 ((last : Int) + 1))
      simpa using this
    · rw [rowR_eq]
      intro e
      exact hd.ne e rfl
  have hbp0 : Blk W0 gp 34 #[.int .u32 p.a, .int .u16 p.b, .int .u32 p.c, .int .u16 p.d] := by
    rw [hW0]
    exact (hbp1.drewN nq).far (p := ⟨b, 1, none⟩) hgb _
  have hw0 : Out (ROwn b A) w W0 := by
    rw [hW0]
    exact Out.set_ (O := ROwn b A) (Out.of_below (below_drewN hw1 nq)) (.inl rfl) 1 _
  have hgs : gp < W0.heap.size := hbp0.lt
  clear hW0 h1 hbp1 hw1 H1 hc0 hc1 hc2 hfr
  obtain ⟨row, hrw⟩ : ∃ row, (Value.slice A l.length c).ownBlock = row := ⟨_, rfl⟩
  have t1 := own_blk_ne hR0.row hR0.blk (by decide)
  rw [hrw] at t1
  have t2 := own_blk_ne hR0.row hbp0 (by decide)
  rw [hrw] at t2
  have hS0 : Out (fun i => row = some i) W0 W0.drew := Out.of_below (Below.drew (Below.refl _ _))
  have ne : Nonempty (Cls (fun W => Out (fun i => row = some i) W0 W)) := ⟨⟨_, hS0⟩⟩
  have co1 : W0.cell? ⟨b, 1, none⟩ = some (.int .u64 ((last : Int) + 1)) := hR0.blk.cell 1
  have co2 : W0.cell? ⟨b, 2, none⟩ = some (.slice A l.length c) := hR0.blk.cell 2
  have cz0 : W0.cell? ⟨gp, 0, none⟩ = some (.int .u32 p.a) := hbp0.cell 0
  have cz1 : W0.cell? ⟨gp, 1, none⟩ = some (.int .u16 p.b) := hbp0.cell 1
  have cz2 : W0.cell? ⟨gp, 2, none⟩ = some (.int .u32 p.c) := hbp0.cell 2
  have cz3 : W0.cell? ⟨gp, 3, none⟩ = some (.int .u16 p.d) := hbp0.cell 3
  have hb_ : ∀ (y : Cls (fun W => Out (fun i => row = some i) W0 W)) i, y.w.cell? ⟨b, i, none⟩ = W0.cell? ⟨b, i, none⟩ := fun y i => World.cell?_of_block (y.h.block b hR0.blk.lt t1)
  have hp_ : ∀ (y : Cls (fun W => Out (fun i => row = some i) W0 W)) i, y.w.cell? ⟨gp, i, none⟩ = W0.cell? ⟨gp, i, none⟩ := fun y i => World.cell?_of_block (y.h.block gp hgs t2)
  have d1 : ∀ y : Cls (fun W => Out (fun i => row = some i) W0 W), y.w.cell? ⟨b, 1, none⟩ = some (.int .u64 ((last : Int) + 1)) := fun y => (hb_ y 1).trans co1
  have d2 : ∀ y : Cls (fun W => Out (fun i => row = some i) W0 W), y.w.cell? ⟨b, 2, none⟩ = some (.slice A l.length c) := fun y => (hb_ y 2).trans co2
  have d3 : ∀ y : Cls (fun W => Out (fun i => row = some i) W0 W), y.w.cell? ⟨gp, 0, none⟩ = some (.int .u32 p.a) := fun y => (hp_ y 0).trans cz0
  have d4 : ∀ y : Cls (fun W => Out (fun i => row = some i) W0 W), y.w.cell? ⟨gp, 1, none⟩ = some (.int .u16 p.b) := fun y => (hp_ y 1).trans cz1
  have d5 : ∀ y : Cls (fun W => Out (fun i => row = some i) W0 W), y.w.cell? ⟨gp, 2, none⟩ = some (.int .u32 p.c) := fun y => (hp_ y 2).trans cz2
  have d6 : ∀ y : Cls (fun W => Out (fun i => row = some i) W0 W), y.w.cell? ⟨gp, 3, none⟩ = some (.int .u16 p.d) := fun y => (hp_ y 3).trans cz3
  clear co1 co2 cz0 cz1 cz2 cz3 hb_ hp_
  have hSb : ∀ w w', Out (fun i => row = some i) W0 w → Below w.heap.size w w' → Out (fun i => row = some i) W0 w' := fun w w' h hb => Out.trans h (Out.of_below (O := fun _ => False) hb) (fun _ _ e => e.elim)
  have rb1 : ∀ w : World, (Instr.buildSlice 42 1 #[(0, .agg #[.int .u64 ((last : Int) + 1), .int .i64 v, .int .u32 p.a, .int .u16 p.b, .int .u32 p.c, .int .u16 p.d, .int .u32 0, .int .u16 0, .int .u32 0, .int .u16 0, .bool false])]).run Try.prog w = .ok (.slice (some ⟨w.heap.size, 0, none⟩) 1 1) (w.alloc (.cells #[.int .u64 ((last : Int) + 1), .int .i64 v, .int .u32 p.a, .int .u16 p.b, .int .u32 p.c, .int .u16 p.d, .int .u32 0, .int .u16 0, .int .u32 0, .int .u16 0, .bool false] 55)) := fun _ => by kernel_rfl
  have hrl : ∀ q, row = some q → q < W0.heap.size := fun q hq => (hR0.row.lt q (hrw.trans hq)).2
  have hwle : base ≤ W0.heap.size := Nat.le_trans hb0 hw0.size
  have hU0 : ∀ q ∈ ([(13, fun W => W.ownsRow base 55 11 (.slice A l.length c) l.length (l.flatMap peC))] : List (Nat × (World → Prop))), q.2 W0.drew := by
    intro q hq
    obtain rfl := List.mem_singleton.1 hq
    exact hR0.row.kept (only_of_below (Below.drew (Below.refl _ _)) none) (Classical.em _)
  have hUs : ∀ q ∈ ([(13, fun W => W.ownsRow base 55 11 (.slice A l.length c) l.length (l.flatMap peC))] : List (Nat × (World → Prop))), ∀ i w w', i ≠ q.1 → RApp 13 row i w w' → q.2 w → q.2 w' := by
    intro q hq i w w' hi hr hw
    obtain rfl := List.mem_singleton.1 hq
    exact hw.kept (only_of_below (hr.below hi) none) (Classical.em _)
  obtain ⟨i0, hi0, h0, h1', h22⟩ := infoEn_parts
  have HRR := Lib.hid (And.intro hR0 (And.intro hw0 hrw))
  have hv1 : ∀ u ∈ (#[.int .u64 ((last : Int) + 1), .int .i64 v, .int .u32 p.a, .int .u16 p.b, .int .u32 p.c, .int .u16 p.d, .int .u32 0, .int .u16 0, .int .u32 0, .int .u16 0, .bool false] : Array Value).toList, u.oneCell' = true := by
    intro u hu
    simp only [List.mem_cons, List.not_mem_nil, or_false] at hu
    rcases hu with rfl | rfl | rfl | rfl | rfl | rfl | rfl | rfl | rfl | rfl | rfl <;> rfl
  have HR0 := Lib.hid hR0
  clear hR0
  have Hbp0 := Lib.hid hbp0
  clear hbp0
  have Hw0 := Lib.hid hw0
  clear hw0
  have Hgs := Lib.hid hgs
  clear hgs
  have T1 := Lib.hid t1
  clear t1
  have T2 := Lib.hid t2
  clear t2
  have HSb := Lib.hid hSb
  clear hSb
  have Rb1 := Lib.hid rb1
  clear rb1
  have Hrl := Lib.hid hrl
  clear hrl
  have Hwle := Lib.hid hwle
  clear hwle
  have HU0 := Lib.hid hU0
  clear hU0
  have HUs := Lib.hid hUs
  clear hUs
  have Hi0 := Lib.hid hi0
  clear hi0
  have H0 := Lib.hid h0
  clear h0
  have H1' := Lib.hid h1'
  clear h1'
  have H22 := Lib.hid h22
  clear h22
  have HS0 := Lib.hid hS0
  clear hS0
  have Hrw := Lib.hid hrw
  clear hrw
  have Hv1 := Lib.hid hv1
  clear hv1
  have Hm := Lib.hid hm
  clear hm
  have Hn := Lib.hid hn
  clear hn
  have Hl := Lib.hid hl
  clear hl
  have Hb0 := Lib.hid hb0
  clear hb0
  refine wp_region_flowu 16 (fun W => Out (fun i => row = some i) W0 W) (RApp 13 row) [(13, fun W => W.ownsRow base 55 11 (.slice A l.length c) l.length (l.flatMap peC))] (by kernel_rfl) (by kernel_rfl) (by kernel_rfl) RApp.refl HUs.out HU0.out HS0.out ?_
  simp only [List.take_succ_cons, List.take_zero, List.drop_succ_cons, List.drop_zero]
  repeat (first
    | (refine flowu_quiet RApp.refl rfl rfl rfl rfl ?_; intro K hK; go_big_quiet_op; go_big_quiet_on)
    | (refine flowu_nilCheck ⟨b, 0, none⟩ rfl RApp.refl rfl rfl rfl W0 ?_; intro K hK; go_big_quiet_op; go_big_quiet_on))
  refine flowx_build W0.heap.size (E := 55) #[(0, .agg #[.int .u64 ((last : Int) + 1), .int .i64 v, .int .u32 p.a, .int .u16 p.b, .int .u32 p.c, .int .u16 p.d, .int .u32 0, .int .u16 0, .int .u32 0, .int .u16 0, .bool false])] ?_ #[.int .u64 ((last : Int) + 1), .int .i64 v, .int .u32 p.a, .int .u16 p.b, .int .u32 p.c, .int .u16 p.d, .int .u32 0, .int .u16 0, .int .u32 0, .int .u16 0, .bool false] Rb1.out HSb.out (fun w h => h.size) Hrl.out rfl rfl rfl W0 ?_
  focus (simp only [List.map_toArray, List.map_cons, List.map_nil]; rfl)
  intro K hK; go_big_quiet_op; go_big_quiet_on
  refine flowx_append W0.heap.size base i0 _ 11 56 Try.underlying42 Hi0.out H0.out H1'.out H22.out rfl (by decide) (.slice A l.length c) l.length (l.flatMap peC) 1 #[.int .u64 ((last : Int) + 1), .int .i64 v, .int .u32 p.a, .int .u16 p.b, .int .u32 p.c, .int .u16 p.d, .int .u32 0, .int .u16 0, .int .u32 0, .int .u16 0, .bool false] 0 rfl rfl rfl (of_decide_eq_true rfl) (fun f => rfl) Hrw.out rfl (fun w hw hut => hut _ List.mem_cons_self rfl) rfl Hv1.out (by have := Hm.out; simp only [maxLen]; omega) (by have := Hm.out; omega) (fun w h => Nat.le_trans Hwle.out h.size) (fun w h => h.size) (fun w w' h hg => Out.trans h (Out.mono (O := fun i => row = some i) ⟨hg.os, hg.tape, hg.output, hg.size, fun i hi hn => hg.block i hi (fun e => hn e.symm)⟩ (fun _ _ e => e)) (fun _ _ e => e)) rfl rfl W0 ?_
  intro K hK; go_big_quiet_op; go_big_quiet_on
  repeat (first
    | (refine flowu_quiet RApp.refl rfl rfl rfl rfl ?_; intro K hK; go_big_quiet_op; go_big_quiet_on)
    | (refine flowu_nilCheck ⟨b, 0, none⟩ rfl RApp.refl rfl rfl rfl W0 ?_; intro K hK; go_big_quiet_op; go_big_quiet_on))
  refine flowu_nil ?_
  intro W5 f hW5 hF5
  obtain ⟨v', hv', hrow5, hvb5⟩ := hF5 _ (List.mem_cons_self)
  clear hF5
  injection hv' with hv'
  simp only [fillW, Act.put, List.setIfInBounds_toArray, List.set_cons_succ, List.set_cons_zero]
  rw [hv']
  generalize f 47 = v47
  clear hv' d1 d2 d3 d4 d5 d6 ne
  obtain ⟨A1, k1, hv1, _⟩ := own_slice hrow5
  subst hv1
  obtain ⟨hR0, hw0, hrw⟩ := HRR.out
  have hg5 : W0.grownBy W5 row := ⟨hW5.os, hW5.tape, hW5.output, hW5.size, fun i hi hn => hW5.block i hi (fun e => hn e.symm)⟩
  have hb5 := hR0.blk.grown hg5 (fun e => T1.out e.symm)
  have hn5 := own_blk_ne hrow5 hb5 (by decide)
  have c2 := hb5.cell 2
  have c1 := hb5.cell 1
  have fr2 := hb5.frozen 2
  simp only [List.getElem?_toArray, List.getElem?_cons_zero, List.getElem?_cons_succ] at c1 c2
  have hb6 := hb5.set_ 2 (.slice A1 (l.length + 1) k1)
  have d1 := hb6.cell 1
  simp at d1
  have hfin : RefAt base (W5.setCell ⟨b, 2, none⟩ (.slice A1 (l.length + 1) k1)) b most (last + 1) (l ++ [⟨last + 1, v, p, pr0, false⟩]) A1 k1 := by
    refine ⟨?_, ?_⟩
    · have := hb6
      simpa using this
    · have := hrow5.kept (only_set (World.grownBy.refl W5 (some b)) 2 (.slice A1 (l.length + 1) k1)) (.inr hn5)
      simpa [peC, pr0] using this
  have hout : Out (ROwn b A) w (W5.setCell ⟨b, 2, none⟩ (.slice A1 (l.length + 1) k1)) := by
    refine Out.set_ (O := ROwn b A) (Out.trans hw0 hW5 (fun i _ e => .inr ?_)) (.inl rfl) 2 _
    rw [← rowR_eq A l.length c, hrw]
    exact e
  have hrow6 : ∀ g, rowR A1 = some g → rowR A = some g ∨ w.heap.size ≤ g := by
    rw [← rowR_eq A l.length c, ← rowR_eq A1 (l.length + 1) k1, hrw]
    intro g hg
    rcases hvb5 with e | ⟨g', e1, e2⟩
    · exact .inl (e ▸ hg)
    · rw [hg] at e2
      injection e2 with e2
      exact .inr (e2 ▸ Nat.le_trans hw0.size e1)
  have HFIN := Lib.hid (And.intro hfin (And.intro hout hrow6))
  clear hfin hout hrow6 hb6 hb5 hn5 hg5 hrow5 hvb5 hR0 hw0 hrw
  go_wp2
  go_ret2
  exact ⟨rfl, _, _, HFIN.out⟩
end
end Go.Proofs.Ytlikngepcbmhdaa
