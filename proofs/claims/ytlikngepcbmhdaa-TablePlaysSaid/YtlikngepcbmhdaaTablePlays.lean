/- The statement TablePlays: what each call answers, and which entries there are, behind any calls: next to the document's answer; for every most, every script. -/
import Derived.Test.YtlikngepcbmhdaaTabX
import Derived.Test.YtlikngepcbmhdaaTabW
import Derived.Test.YtlikngepcbmhdaaFlowX
import Derived.Deep.CutBlock
set_option linter.unusedVariables false
set_option linter.unusedSimpArgs false
namespace Go.Proofs.Ytlikngepcbmhdaa.tablePlays
open Go.ChangeShapes Go.WideShapes Go.ChangeAt Go.RowKit Go.Maps
open Go.ChangeMaps (open_string shut_string)

theorem new_no (w : World) (m : Int) (h : m < 0 ∨ 1024 < m) : Calls Try.prog 7 #[.int .i64 m] w fun e w' => e = .returned (.tuple #[.pointer none, .int .i64 2]) ∧ w' = w := by
  rcases h with h | h
  · go_enter Try.func7, Try.ntmps7
    go_wp2
    go_ret2
    exact ⟨rfl, rfl⟩
  · have h0 : ¬ m < 0 := by omega
    go_enter Try.func7, Try.ntmps7
    go_wp2
    go_ret2
    exact ⟨rfl, rfl⟩
theorem blkB (w : World) (o : Obj) (t : TypeId) (cs : Array Value) : Blk ((w.alloc o).alloc (.cells cs t)) (w.heap.size + 1) t cs := by
  have := Blk.new (w.alloc o) t cs
  rwa [show (w.alloc o).heap.size = w.heap.size + 1 by simp] at this
/-- the two are alike, whatever the step -/
def GL (w : World) (t b most k : Nat) (W : World) : Prop := ∃ s l A c, Has TI w W t s ∧ Rel s l ∧ RefAt w.heap.size W b most s.last l A c ∧ s.most = most ∧ s.last ≤ k ∧ l.length ≤ 1000 ∧ w.heap.size ≤ b
section
variable {w W W' : World} {t b gs most k c : Nat} {st : St12} {s s' : Tab} {l l' : List PE} {A : Option Addr} {p : Pr}
theorem GL.of (h : Good w t b gs most st k W) : GL w t b most k W := by
  obtain ⟨s, l, A, c, h⟩ := h
  exact ⟨s, l, A, c, h.has, h.rel, h.ref, h.hm, h.le, h.lrl, h.hb⟩
theorem GL.below_ (h : GL w t b most k W) : Below w.heap.size w W := by
  obtain ⟨s, l, A, c, h, _⟩ := h
  exact h.below
theorem GL.pt (h : GL w t b most k W) (st : St12) : ∃ s l A c, PT w t b W.heap.size most st k s l l s.last A c (W.alloc (.cells st.cells.toArray 46)) := by
  obtain ⟨s, l, A, c, h1, h2, h3, h4, h5, h6, h7⟩ := h
  have hb := (Below.refl W.heap.size W).alloc (Nat.le_refl _) (.cells st.cells.toArray 46)
  exact ⟨s, l, A, c, h1.step hb, h2, h3.below hb, Blk.new _ _ _, h4, h5, h6, h7⟩
theorem GL.new {ba bb : Nat} (h : Has TI w W t (newT most ba bb)) : GL w t W.heap.size most 0 (W.alloc (.cells #[.int .i64 (most : Int), .int .u64 0, .slice none 0 0] 44)) :=
  ⟨newT most ba bb, [], none, 0, h.alloc _, Rel.new _ _ _, ⟨Blk.new _ _ _, World.ownsRow_nil _ _ _ _⟩, rfl, Nat.le_refl _, by simp, h.below.size⟩
theorem p_find (h : PT w t b gs most st k s l l s.last A c W) (hk : k ≤ 300) (hp : p.wf) : ∃ a side : Nat,
    (∀ W, Has TI w W t s → Calls Try.prog 19 #[.pointer (some ⟨t, 0, none⟩), .agg #[.int .u32 p.a, .int .u16 p.b, .int .u32 p.c, .int .u16 p.d]] W fun e W' => e = .returned (.tuple #[.int .u64 (a : Int), .int .u8 (side : Int)]) ∧ Below W.heap.size W W') ∧
    (∀ W, RefAt w.heap.size W b most s.last l A c → Calls Try.prog 20 #[.pointer (some ⟨b, 0, none⟩), .agg #[.int .u32 p.a, .int .u16 p.b, .int .u32 p.c, .int .u16 p.d]] W fun e W' => e = .returned (.tuple #[.int .u64 (a : Int), .int .u8 (side : Int)]) ∧ Below W.heap.size W W') := by
  have hlm := h.lrl
  by_cases hby : s.by_ p = 0
  · exact ⟨0, 0, fun W hW => find_no_i W t s p hW.tab hp hby, fun W hW => rfind_any hW (by omega) (find_no h.rel h.has.tab hby)⟩
  · obtain ⟨N, en, he, hF, hN⟩ := find_yes h.rel h.has.tab hp hby
    refine ⟨s.by_ p, if en.near = p then 1 else 2, fun W hW => (find_i W t s p en _ hW.tab hp rfl hby he).mono fun e W' ⟨q1, q2⟩ => ⟨?_, q2⟩, fun W hW => rfind_any hW (by omega) hF⟩
    rw [q1]
    split <;> rfl
theorem hasN_le (s : Tab) (id : Nat) : hasN s id ≤ 1 := by unfold hasN; split <;> omega
theorem p_drop {r : Nat} (h : PT w t b gs most st k s l l s.last A c W) {n m : Nat} (hn : n < 18446744073709551616) (hm : m < 18446744073709551616) (hr : Blk W r 26 #[.int .u64 (n : Int), .int .u64 (m : Int)]) :
    ∃ (h1 h2 : Nat) (l1 l2 : List PE), h1 ≤ 1 ∧ h2 ≤ 1 ∧
      (Calls Try.prog 10 #[.pointer (some ⟨t, 0, none⟩), .slice (some ⟨r, 0, none⟩) 2 2] W fun e W1 => e = .returned (.int .i64 ((h1 : Int) + (h2 : Int))) ∧ Mid w t b gs most st (k + 1) l2 s.last l s.last A c W1) ∧
      (∀ W1, Mid w t b gs most st (k + 1) l2 s.last l s.last A c W1 → Calls Try.prog 18 #[.pointer (some ⟨b, 0, none⟩), .int .u64 (n : Int)] W1 fun e W2 => e = .returned (.int .i64 (h1 : Int)) ∧ ∃ A' c', Mid w t b gs most st (k + 1) l2 s.last l1 s.last A' c' W2) ∧
      (∀ W1 A' c', Mid w t b gs most st (k + 1) l2 s.last l1 s.last A' c' W1 → Calls Try.prog 18 #[.pointer (some ⟨b, 0, none⟩), .int .u64 (m : Int)] W1 fun e W2 => e = .returned (.int .i64 (h2 : Int)) ∧ Good w t b gs most st (k + 1) W2) := by
  obtain ⟨l1, q1, q2⟩ := drop_one h.rel n
  obtain ⟨l2, q3, q4⟩ := drop_one q1 m
  have hlast : ∀ (s : Tab) (i : Nat), (dropT s i).last = s.last ∧ (dropT s i).most = s.most := fun s i => by unfold dropT; split <;> exact ⟨rfl, rfl⟩
  have hle := h.le
  refine ⟨hasN s n, hasN (dropT s n) m, l1, l2, hasN_le _ _, hasN_le _ _, ?_, ?_, ?_⟩
  · refine (drop_i W t r s [n, m] #[.int .u64 (n : Int), .int .u64 (m : Int)] h.has.tab (by simp; omega) rfl hr (by simp)).mono ?_
    rintro e W1 ⟨h1, h2, h3⟩
    refine ⟨by rw [h1]; simp [dropN], dropAll s [n, m], h.tab_ h3 (h.has.out h2 h3 fun b hb => .inl hb.dropAll) q3 ?_ ?_, ?_⟩
    · show (dropT (dropT s n) m).most = most
      rw [(hlast _ _).2, (hlast _ _).2]; exact h.hm
    · show (dropT (dropT s n) m).last ≤ k + 1
      rw [(hlast _ _).1, (hlast _ _).1]; omega
    · show (dropT (dropT s n) m).last = s.last
      rw [(hlast _ _).1, (hlast _ _).1]
  · rintro W1 ⟨s1, h1, e1⟩
    refine (r_drop h1 h.rel n q2).mono ?_
    rintro e W2 ⟨rfl, A', c', h2⟩
    exact ⟨rfl, A', c', s1, h2, e1⟩
  · rintro W1 A' c' ⟨s1, h1, e1⟩
    refine (r_drop h1 q1 m q4).mono ?_
    rintro e W2 ⟨rfl, A2, c2, h2⟩
    exact ⟨rfl, s1, l2, A2, c2, by rw [e1]; exact h2⟩
end
set_option maxRecDepth 100000 in
set_option maxHeartbeats 8000000 in
theorem walk (a0 : Int) (a1 : Option Addr) (len1 cap1 : Nat) (w : World) (w0 : (Lit.int .i64 a0).wf = true) (w1 : Steps12 w a1 len1) :
    Calls Try.prog 4 #[.int .i64 a0, .slice a1 len1 cap1] w fun e w' => e = .returned (.bool true) ∧ Below w.heap.size w w' := by
  have hlm := w1.1
  unfold maxLen at hlm
  have W1 := Lib.hid w1
  clear w0 w1
  by_cases hl : 300 < len1
  · have hlz : (len1 : Int) > 300 := by omega
    have ca := works12 w
    go_enter Try.func4, Try.ntmps4
    go_wp2_with (go_at_call 12; with_reducible refine ca.mono ?_; rintro e w3 ⟨rfl, hb⟩)
    go_ret
    exact ⟨rfl, hb⟩
  have hlz : ¬ (len1 : Int) > 300 := by omega
  by_cases hm0 : a0 < 0
  · have c0 := new_no w a0 (.inl hm0)
    have ca := works12 w
    go_enter Try.func4, Try.ntmps4
    go_wp2_with (first
      | (go_at_call 7; with_reducible refine c0.mono ?_; rintro e v0 ⟨rfl, hw⟩; rw [hw]; clear hw)
      | (go_at_call 12; with_reducible refine ca.mono ?_; rintro e w3 ⟨rfl, hb⟩))
    go_ret
    exact ⟨rfl, hb⟩
  by_cases hm1 : 1024 < a0
  · have c0 := new_no w a0 (.inr hm1)
    have ca := works12 w
    go_enter Try.func4, Try.ntmps4
    go_wp2_with (first
      | (go_at_call 7; with_reducible refine c0.mono ?_; rintro e v0 ⟨rfl, hw⟩; rw [hw]; clear hw)
      | (go_at_call 12; with_reducible refine ca.mono ?_; rintro e w3 ⟨rfl, hb⟩))
    go_ret
    exact ⟨rfl, hb⟩
  obtain ⟨most, rfl⟩ : ∃ n : Nat, a0 = (n : Int) := ⟨a0.toNat, by omega⟩
  have c0 := hnew_i w most (most : Int) rfl (by omega)
  have hm1z : ¬ (most : Int) > 1024 := by omega
  go_enter Try.func4, Try.ntmps4
  go_upto_region 9 with (go_at_call 7; with_reducible refine c0.mono ?_; rintro e v0 ⟨t, ba, bb, rfl, h0⟩)
  clear c0
  have hG := GL.new h0
  obtain ⟨b, eb⟩ : ∃ b, b = v0.heap.size := ⟨_, rfl⟩
  rw [← eb] at hG ⊢
  have HO := Lib.hid hG
  clear h0 hG eb
  generalize v0.alloc _ = v1 at *
  go_wp2_with fail
  go_loopw [8] (fun i wr => ∃ k : Nat, i = .int .i64 k ∧ k ≤ len1 ∧ Hid (GL w t b most k wr)) (fun i _ => len1 - (intOf i).toNat)
  case atStart => exact ⟨0, rfl, Nat.zero_le _, HO⟩
  case round =>
    clear HO
    obtain ⟨k, rfl, hk, HI⟩ := hrel
    by_cases hlt : k < len1
    · have hltz : (k : Int) < (len1 : Int) := by omega
      have hkm : k < 300 := by omega
      have hrows := W1.out.below HI.out.below_
      obtain ⟨xb, xo, x, rfl, hxl, hwf, hcell⟩ := hrows.2 k hlt
      obtain ⟨s, l, A, c, hP⟩ := HI.out.pt x
      obtain ⟨d, p, n, m, v⟩ := x
      obtain ⟨pw, nw, mw, dw, vw⟩ := hwf
      simp only at pw nw mw dw vw
      have q0 : wr.cell? ⟨xb, xo + k * 8, none⟩ = some (.int .i64 d) := hcell 0 (by omega)
      have q1 : wr.cell? ⟨xb, xo + k * 8 + 1, none⟩ = some (.int .u32 p.a) := hcell 1 (by omega)
      have q2 : wr.cell? ⟨xb, xo + k * 8 + 2, none⟩ = some (.int .u16 p.b) := hcell 2 (by omega)
      have q3 : wr.cell? ⟨xb, xo + k * 8 + 3, none⟩ = some (.int .u32 p.c) := hcell 3 (by omega)
      have q4 : wr.cell? ⟨xb, xo + k * 8 + 4, none⟩ = some (.int .u16 p.d) := hcell 4 (by omega)
      have q5 : wr.cell? ⟨xb, xo + k * 8 + 5, none⟩ = some (.int .u64 (n : Int)) := hcell 5 (by omega)
      have q6 : wr.cell? ⟨xb, xo + k * 8 + 6, none⟩ = some (.int .u64 (m : Int)) := hcell 6 (by omega)
      have q7 : wr.cell? ⟨xb, xo + k * 8 + 7, none⟩ = some (.int .i64 v) := hcell 7 (by omega)
      have HP := Lib.hid hP
      obtain ⟨gs, egs⟩ : ∃ g, g = wr.heap.size := ⟨_, rfl⟩
      rw [← egs] at HP
      have HEG := Lib.hid egs
      clear hP hrows hcell HI egs
      have Pw := Lib.hid pw
      clear pw
      have Nw := Lib.hid nw
      clear nw
      have Mw := Lib.hid mw
      clear mw
      have Dw := Lib.hid dw
      clear dw
      have Vw := Lib.hid vw
      clear vw
      have Hkm := Lib.hid hkm
      clear hkm
      go_upto_block 2 with fail
      clear q0 q1 q2 q3 q4 q5 q6 q7
      rw [← HEG.out]
      clear HEG
      have hstp := HP.out.step
      have y0 := hstp.cell 0
      have y1 := hstp.cell 1
      have y2 := hstp.cell 2
      have y3 := hstp.cell 3
      have y4 := hstp.cell 4
      have y5 := hstp.cell 5
      have y6 := hstp.cell 6
      have y7 := hstp.cell 7
      simp only [St12.cells, List.getElem?_toArray, List.getElem?_cons_zero, List.getElem?_cons_succ] at y0 y1 y2 y3 y4 y5 y6 y7
      clear hstp
      obtain ⟨W0, hW0⟩ : ∃ W0, W0 = wr.alloc (.cells #[.int .i64 d, .int .u32 p.a, .int .u16 p.b, .int .u32 p.c, .int .u16 p.d, .int .u64 (n : Int), .int .u64 (m : Int), .int .i64 v] 46) := ⟨_, rfl⟩
      simp only [St12.cells] at HP y0 y1 y2 y3 y4 y5 y6 y7
      rw [← hW0] at HP y0 y1 y2 y3 y4 y5 y6 y7 ⊢
      clear hW0
      go_cut [10, 11, 12, 13, 14, 15, 16, 17] from 68 to 300 (fun v10 v11 v12 v13 v14 v15 v16 v17 wx => v10 = .bool true ∧ Hid (Good w t b gs most ⟨d, p, n, m, v⟩ (k + 1) wx))
      case first =>
        by_cases hd0 : d = 0
        · as_aux_lemma =>
            subst hd0
            obtain ⟨a, er, l', last', c1, c2⟩ := p_put HP.out Hkm.out Pw.out v Vw.out
            obtain ⟨pa, pb, pc, pd⟩ := p
            have HC2 := Lib.hid c2
            clear c2
            go_wp2_with fail
            with_reducible refine c1.mono ?_
            rintro e w2 ⟨rfl, hM⟩
            have HM := Lib.hid hM
            obtain ⟨s1, hp1, _⟩ := hM
            have z1 := hp1.step.cell 1
            have z2 := hp1.step.cell 2
            have z3 := hp1.step.cell 3
            have z4 := hp1.step.cell 4
            have z7 := hp1.step.cell 7
            simp only [St12.cells, List.getElem?_toArray, List.getElem?_cons_zero, List.getElem?_cons_succ] at z1 z2 z3 z4 z7
            clear hp1 y0 y1 y2 y3 y4 y5 y6 y7
            go_wp2_with fail
            with_reducible refine (HC2.out _ HM.out).mono ?_
            rintro e w3 ⟨rfl, hG⟩
            have HG := Lib.hid hG
            clear hG z1 z2 z3 z4 z7
            go_wp2
            go_meet
            case rel => exact ⟨by first | rfl | simp, HG⟩
        by_cases hd1 : d = 1
        · as_aux_lemma =>
            subst hd1
            obtain ⟨er, s', l', D⟩ := p_bind HP.out Hkm.out Pw.out Nw.out
            obtain ⟨pa, pb, pc, pd⟩ := p
            have cf0 : ∀ (vals : Array Value) (w : World), (callFunc 14 vals).run Try.prog w = .ok (.enter 14 vals) w := fun _ _ => by kernel_rfl
            have cf1 : ∀ (vals : Array Value) (w : World), (callFunc 15 vals).run Try.prog w = .ok (.enter 15 vals) w := fun _ _ => by kernel_rfl
            have hc5 := rx_5 HP.out D
            have hc11 := rx_11 HP.out D
            have hst := rx_t HP.out D
            have hsr := rx_r (s' := s') (l' := l') (er := er) HP.out
            have hus := rx_u (s' := s') (l' := l') HP.out
            have hu0 := rx_u0 HP.out
            have hs0 : SX gs ⟨1, ⟨pa, pb, pc, pd⟩, n, m, v⟩ W0.drew := Blk.drew HP.out.step
            have HD := Lib.hid D
            clear y0 y1 y2 y3 y4 y5 y6 y7 D
            have Cf0 := Lib.hid cf0
            clear cf0
            have Cf1 := Lib.hid cf1
            clear cf1
            have Hc5 := Lib.hid hc5
            clear hc5
            have Hc11 := Lib.hid hc11
            clear hc11
            have Hst := Lib.hid hst
            clear hst
            have Hsr := Lib.hid hsr
            clear hsr
            have Hus := Lib.hid hus
            clear hus
            have Hu0 := Lib.hid hu0
            clear hu0
            have Hs0 := Lib.hid hs0
            clear hs0
            go_upto_region 20 with fail
            have ne : Nonempty (Cls (SX gs ⟨1, ⟨pa, pb, pc, pd⟩, n, m, v⟩)) := ⟨⟨_, Hs0.out⟩⟩
            have g1 : ∀ y : Cls (SX gs ⟨1, ⟨pa, pb, pc, pd⟩, n, m, v⟩), y.w.cell? ⟨gs, 1, none⟩ = some (.int .u32 pa) := fun y => Blk.cell y.h 1
            have g2 : ∀ y : Cls (SX gs ⟨1, ⟨pa, pb, pc, pd⟩, n, m, v⟩), y.w.cell? ⟨gs, 2, none⟩ = some (.int .u16 pb) := fun y => Blk.cell y.h 2
            have g3 : ∀ y : Cls (SX gs ⟨1, ⟨pa, pb, pc, pd⟩, n, m, v⟩), y.w.cell? ⟨gs, 3, none⟩ = some (.int .u32 pc) := fun y => Blk.cell y.h 3
            have g4 : ∀ y : Cls (SX gs ⟨1, ⟨pa, pb, pc, pd⟩, n, m, v⟩), y.w.cell? ⟨gs, 4, none⟩ = some (.int .u16 pd) := fun y => Blk.cell y.h 4
            have g5 : ∀ y : Cls (SX gs ⟨1, ⟨pa, pb, pc, pd⟩, n, m, v⟩), y.w.cell? ⟨gs, 5, none⟩ = some (.int .u64 (n : Int)) := fun y => Blk.cell y.h 5
            have g7 : ∀ y : Cls (SX gs ⟨1, ⟨pa, pb, pc, pd⟩, n, m, v⟩), y.w.cell? ⟨gs, 7, none⟩ = some (.int .i64 v) := fun y => Blk.cell y.h 7
            refine wp_region_flowu 12 (SX gs ⟨1, ⟨pa, pb, pc, pd⟩, n, m, v⟩) (RX w t b most s s' l' A c) (UX w t b most s l A c) (by kernel_rfl) (by kernel_rfl) (by kernel_rfl) RX.refl Hus.out Hu0.out Hs0.out ?_
            simp only [List.take_succ_cons, List.take_zero, List.drop_succ_cons, List.drop_zero]
            repeat (refine flowu_quiet RX.refl rfl rfl rfl rfl ?_; intro K hK; go_big_quiet_op; go_big_quiet_on)
            refine flowu_callX (FT w t er s') Hst.out Cf0.out _ ?_ rfl Hc5.out rfl rfl W0 ?_
            focus (simp only [List.map_toArray, List.map_cons, List.map_nil]; rfl)
            intro K hK; go_big_quiet_op; go_big_quiet_on
            repeat (refine flowu_quiet RX.refl rfl rfl rfl rfl ?_; intro K hK; go_big_quiet_op; go_big_quiet_on)
            refine flowu_callX (FR w b most s.last er l' A c) Hsr.out Cf1.out _ ?_ rfl Hc11.out rfl rfl W0 ?_
            focus (simp only [List.map_toArray, List.map_cons, List.map_nil]; rfl)
            intro K hK; go_big_quiet_op; go_big_quiet_on
            refine flowu_nil ?_
            intro W5 f hW5 hF5
            have f1 := hF5 _ (List.mem_cons_self)
            have f2 := hF5 _ (List.mem_cons_of_mem _ (List.mem_cons_self))
            have HG := Lib.hid (rx_end HP.out HD.out f2 f1 hW5)
            obtain ⟨e1, _⟩ := f1
            obtain ⟨e2, _⟩ := f2
            simp only [List.map_cons, List.map_nil] at e1 e2
            injection e1 with e1
            injection e2 with e2
            simp only [fillW, Act.put, List.setIfInBounds_toArray, List.set_cons_succ, List.set_cons_zero]
            rw [e1, e2]
            clear e1 e2 hF5 hW5 ne g1 g2 g3 g4 g5 g7 Hc5 Hc11 Hst Hsr Hus Hu0 Hs0 Cf0 Cf1 HD
            go_wp2
            go_meet
            case rel => exact ⟨by first | rfl | simp, HG⟩
        by_cases hd2 : d = 2
        · as_aux_lemma =>
            subst hd2
            obtain ⟨er, s', l', D⟩ := p_set HP.out Hkm.out v Nw.out
            obtain ⟨pa, pb, pc, pd⟩ := p
            have cf0 : ∀ (vals : Array Value) (w : World), (callFunc 16 vals).run Try.prog w = .ok (.enter 16 vals) w := fun _ _ => by kernel_rfl
            have cf1 : ∀ (vals : Array Value) (w : World), (callFunc 17 vals).run Try.prog w = .ok (.enter 17 vals) w := fun _ _ => by kernel_rfl
            have hc5 := rx_5 HP.out D
            have hc11 := rx_11 HP.out D
            have hst := rx_t HP.out D
            have hsr := rx_r (s' := s') (l' := l') (er := er) HP.out
            have hus := rx_u (s' := s') (l' := l') HP.out
            have hu0 := rx_u0 HP.out
            have hs0 : SX gs ⟨2, ⟨pa, pb, pc, pd⟩, n, m, v⟩ W0.drew := Blk.drew HP.out.step
            have HD := Lib.hid D
            clear y0 y1 y2 y3 y4 y5 y6 y7 D
            have Cf0 := Lib.hid cf0
            clear cf0
            have Cf1 := Lib.hid cf1
            clear cf1
            have Hc5 := Lib.hid hc5
            clear hc5
            have Hc11 := Lib.hid hc11
            clear hc11
            have Hst := Lib.hid hst
            clear hst
            have Hsr := Lib.hid hsr
            clear hsr
            have Hus := Lib.hid hus
            clear hus
            have Hu0 := Lib.hid hu0
            clear hu0
            have Hs0 := Lib.hid hs0
            clear hs0
            go_upto_region 22 with fail
            have ne : Nonempty (Cls (SX gs ⟨2, ⟨pa, pb, pc, pd⟩, n, m, v⟩)) := ⟨⟨_, Hs0.out⟩⟩
            have g1 : ∀ y : Cls (SX gs ⟨2, ⟨pa, pb, pc, pd⟩, n, m, v⟩), y.w.cell? ⟨gs, 1, none⟩ = some (.int .u32 pa) := fun y => Blk.cell y.h 1
            have g2 : ∀ y : Cls (SX gs ⟨2, ⟨pa, pb, pc, pd⟩, n, m, v⟩), y.w.cell? ⟨gs, 2, none⟩ = some (.int .u16 pb) := fun y => Blk.cell y.h 2
            have g3 : ∀ y : Cls (SX gs ⟨2, ⟨pa, pb, pc, pd⟩, n, m, v⟩), y.w.cell? ⟨gs, 3, none⟩ = some (.int .u32 pc) := fun y => Blk.cell y.h 3
            have g4 : ∀ y : Cls (SX gs ⟨2, ⟨pa, pb, pc, pd⟩, n, m, v⟩), y.w.cell? ⟨gs, 4, none⟩ = some (.int .u16 pd) := fun y => Blk.cell y.h 4
            have g5 : ∀ y : Cls (SX gs ⟨2, ⟨pa, pb, pc, pd⟩, n, m, v⟩), y.w.cell? ⟨gs, 5, none⟩ = some (.int .u64 (n : Int)) := fun y => Blk.cell y.h 5
            have g7 : ∀ y : Cls (SX gs ⟨2, ⟨pa, pb, pc, pd⟩, n, m, v⟩), y.w.cell? ⟨gs, 7, none⟩ = some (.int .i64 v) := fun y => Blk.cell y.h 7
            refine wp_region_flowu 12 (SX gs ⟨2, ⟨pa, pb, pc, pd⟩, n, m, v⟩) (RX w t b most s s' l' A c) (UX w t b most s l A c) (by kernel_rfl) (by kernel_rfl) (by kernel_rfl) RX.refl Hus.out Hu0.out Hs0.out ?_
            simp only [List.take_succ_cons, List.take_zero, List.drop_succ_cons, List.drop_zero]
            repeat (refine flowu_quiet RX.refl rfl rfl rfl rfl ?_; intro K hK; go_big_quiet_op; go_big_quiet_on)
            refine flowu_callX (FT w t er s') Hst.out Cf0.out _ ?_ rfl Hc5.out rfl rfl W0 ?_
            focus (simp only [List.map_toArray, List.map_cons, List.map_nil]; rfl)
            intro K hK; go_big_quiet_op; go_big_quiet_on
            repeat (refine flowu_quiet RX.refl rfl rfl rfl rfl ?_; intro K hK; go_big_quiet_op; go_big_quiet_on)
            refine flowu_callX (FR w b most s.last er l' A c) Hsr.out Cf1.out _ ?_ rfl Hc11.out rfl rfl W0 ?_
            focus (simp only [List.map_toArray, List.map_cons, List.map_nil]; rfl)
            intro K hK; go_big_quiet_op; go_big_quiet_on
            refine flowu_nil ?_
            intro W5 f hW5 hF5
            have f1 := hF5 _ (List.mem_cons_self)
            have f2 := hF5 _ (List.mem_cons_of_mem _ (List.mem_cons_self))
            have HG := Lib.hid (rx_end HP.out HD.out f2 f1 hW5)
            obtain ⟨e1, _⟩ := f1
            obtain ⟨e2, _⟩ := f2
            simp only [List.map_cons, List.map_nil] at e1 e2
            injection e1 with e1
            injection e2 with e2
            simp only [fillW, Act.put, List.setIfInBounds_toArray, List.set_cons_succ, List.set_cons_zero]
            rw [e1, e2]
            clear e1 e2 hF5 hW5 ne g1 g2 g3 g4 g5 g7 Hc5 Hc11 Hst Hsr Hus Hu0 Hs0 Cf0 Cf1 HD
            go_wp2
            go_meet
            case rel => exact ⟨by first | rfl | simp, HG⟩
        by_cases hd3 : d = 3
        · as_aux_lemma =>
            subst hd3
            have hP2 := HP.out.below ((Below.refl _ _).alloc (Nat.le_refl _) (.cells #[.int .u64 (n : Int), .int .u64 (m : Int)] 26))
            obtain ⟨h1, h2, l1, l2, b1, b2, c1, c2, c3⟩ := p_drop hP2 Nw.out Mw.out (Blk.new W0 26 #[.int .u64 (n : Int), .int .u64 (m : Int)])
            have b3 : (0 : Int) ≤ h1 := by omega
            have b4 : (0 : Int) ≤ h2 := by omega
            have b5 : (h1 : Int) ≤ 1 := by omega
            have b6 : (h2 : Int) ≤ 1 := by omega
            have HC2 := Lib.hid c2
            have HC3 := Lib.hid c3
            clear c2 c3 hP2 b1 b2
            go_wp2_with fail
            with_reducible refine c1.mono ?_
            rintro e w2 ⟨rfl, hM⟩
            have HM := Lib.hid hM
            obtain ⟨s1, hp1, _⟩ := hM
            have z5 := hp1.step.cell 5
            have z6 := hp1.step.cell 6
            simp only [St12.cells, List.getElem?_toArray, List.getElem?_cons_zero, List.getElem?_cons_succ] at z5 z6
            clear hp1 y0 y1 y2 y3 y4 y5 y6 y7 c1
            go_wp2_with fail
            with_reducible refine (HC2.out _ HM.out).mono ?_
            rintro e w3 ⟨rfl, A', c', hM⟩
            clear HM z5 z6
            have HM := Lib.hid hM
            obtain ⟨s1, hp1, _⟩ := hM
            have z5 := hp1.step.cell 5
            have z6 := hp1.step.cell 6
            simp only [St12.cells, List.getElem?_toArray, List.getElem?_cons_zero, List.getElem?_cons_succ] at z5 z6
            clear hp1
            go_wp2_with fail
            with_reducible refine (HC3.out _ A' c' HM.out).mono ?_
            rintro e w4 ⟨rfl, hG⟩
            have HG := Lib.hid hG
            clear hG z5 z6
            go_wp2
            go_meet
            case rel => exact ⟨by first | rfl | simp, HG⟩
        · as_aux_lemma =>
            have HG : Hid (Good w t b gs most ⟨d, p, n, m, v⟩ (k + 1) W0) := Lib.hid ⟨s, l, A, c, HP.out.more⟩
            go_wp2
            go_meet
            case rel => exact ⟨rfl, HG⟩
      case rest =>
        as_aux_lemma =>
          obtain ⟨rfl, HG⟩ := hcut
          clear y0 y1 y2 y3 y4 y5 y6 y7 HP
          obtain ⟨s, l, A, c, hP⟩ := HG.out
          clear HG
          obtain ⟨a, side, cf1, cf2⟩ := p_find hP (by omega) Pw.out
          have hlen := hP.len
          have hl3 : l.length ≤ 301 := by omega
          have c1 := cf1 _ hP.has
          have y1 := hP.step.cell 1
          have y2 := hP.step.cell 2
          have y3 := hP.step.cell 3
          have y4 := hP.step.cell 4
          simp only [St12.cells, List.getElem?_toArray, List.getElem?_cons_zero, List.getElem?_cons_succ] at y1 y2 y3 y4
          have HP := Lib.hid hP
          have Cf1 := Lib.hid cf1
          clear cf1
          have Cf2 := Lib.hid cf2
          clear cf2
          clear hP hlen
          go_wp2_with fail
          with_reducible refine c1.mono ?_
          rintro e w2 ⟨rfl, hb⟩
          have hP := HP.out.below hb
          have c2 := Cf2.out _ hP.ref
          clear y1 y2 y3 y4 HP c1 hb
          have y1 := hP.step.cell 1
          have y2 := hP.step.cell 2
          have y3 := hP.step.cell 3
          have y4 := hP.step.cell 4
          simp only [St12.cells, List.getElem?_toArray, List.getElem?_cons_zero, List.getElem?_cons_succ] at y1 y2 y3 y4
          have HP := Lib.hid hP
          clear hP
          go_wp2_with fail
          with_reducible refine c2.mono ?_
          rintro e w3 ⟨rfl, hb⟩
          have hP := HP.out.below hb
          have c3 := o_all hP.has hP.rel (by rw [← hP.rel.len]; omega)
          clear y1 y2 y3 y4 HP c2 hb Cf1 Cf2
          have HP := Lib.hid hP
          clear hP
          go_wp2_with fail
          with_reducible refine c3.mono ?_
          rintro e w4 ⟨A', cap', rfl, hids, _, hb, _⟩
          have hP := HP.out.below hb
          clear HP c3 hb
          have cl : ∀ q, Calls Try.prog 11 #[.pointer (some ⟨t, 0, none⟩)] (w4.drewN q) fun e w' => e = .returned (.int .i64 (l.length : Int)) ∧ w4.drewN q = w' := fun q => by
            rw [hP.rel.len]
            exact len_i _ t s (hP.has.tab.drewN q)
          have hc2 := hP.ref.blk.cell 2
          simp only [List.getElem?_toArray, List.getElem?_cons_zero, List.getElem?_cons_succ] at hc2
          have HPI := Lib.hid (And.intro hP hids)
          clear hP hids
          have Cl := Lib.hid cl
          clear cl
          go_upto_region 31 with fail
          go_quiet (first | (go_at_call 11; exact quiet_left (Cl.out _)))
          clear hc2 Cl
          have HPI2 : Hid (PT w t b gs most ⟨d, p, n, m, v⟩ (k + 1) s l l s.last A c (w4.drewN nq) ∧ IdsAt (w4.drewN nq) l A') := Lib.hid ⟨HPI.out.1.below (below_drewN (Below.refl _ _) _), HPI.out.2.below (below_drewN (Below.refl _ _) _)⟩
          clear HPI
          generalize w4.drewN nq = w5 at *
          go_wp2_with fail
          go_loopw [23] (fun i wr => ∃ j : Nat, i = .int .i64 j ∧ j ≤ l.length ∧ Hid (PT w t b gs most ⟨d, p, n, m, v⟩ (k + 1) s l l s.last A c wr ∧ IdsAt wr l A')) (fun i _ => l.length - (intOf i).toNat)
          case atStart => exact ⟨0, rfl, Nat.zero_le _, HPI2⟩
          case round =>
            clear HPI2
            obtain ⟨j, rfl, hj, HR⟩ := hrel
            by_cases hjl : j < l.length
            · as_aux_lemma =>
                have hjz : (j : Int) < (l.length : Int) := by omega
                have hj0 : (0 : Int) ≤ (j : Int) := by omega
                obtain ⟨g, rfl, hg, hcid⟩ := HR.out.2.cell hjl
                have hc2 := HR.out.1.ref.blk.cell 2
                simp only [List.getElem?_toArray, List.getElem?_cons_zero, List.getElem?_cons_succ] at hc2
                obtain ⟨g2, cap, cur, rfl, _, _, _, _, _, _, hr, _⟩ := HR.out.1.ref.cells hjl
                have hx := List.getElem_mem hjl
                obtain ⟨x, hxe⟩ : ∃ x, x = l[j] := ⟨_, rfl⟩
                rw [← hxe] at hcid hr hx
                have q0 := hr 0 _ rfl
                have q1 := hr 1 _ rfl
                have q2 := hr 2 _ rfl
                have q3 := hr 3 _ rfl
                have q4 := hr 4 _ rfl
                have q5 := hr 5 _ rfl
                have q6 := hr 6 _ rfl
                have q7 := hr 7 _ rfl
                have q8 := hr 8 _ rfl
                have q9 := hr 9 _ rfl
                have q10 := hr 10 _ rfl
                simp only [Nat.add_zero] at q0
                have HCI := Lib.hid hcid
                have Hxe := Lib.hid hxe
                clear hxe
                have Hx := Lib.hid hx
                clear hx
                have Hg := Lib.hid hg
                clear hg
                clear hr hcid
                go_upto_region 37 with fail
                clear q0 q1 q2 q3 q4 q5 q6 q7 q8 q9 q10 hc2
                have hB1 : Below wr.heap.size wr (wr.alloc (.cells #[.int .u64 (x.id : Int), .int .i64 x.v, .int .u32 x.near.a, .int .u16 x.near.b, .int .u32 x.near.c, .int .u16 x.near.d, .int .u32 x.far.a, .int .u16 x.far.b, .int .u32 x.far.c, .int .u16 x.far.d, .bool x.bound] 55)) := (Below.refl _ _).alloc (Nat.le_refl _) _
                have hP1 := HR.out.1.below hB1
                have hI1 := HR.out.2.below hB1
                have hbx := Blk.new wr 55 #[.int .u64 (x.id : Int), .int .i64 x.v, .int .u32 x.near.a, .int .u16 x.near.b, .int .u32 x.near.c, .int .u16 x.near.d, .int .u32 x.far.a, .int .u16 x.far.b, .int .u32 x.far.c, .int .u16 x.far.d, .bool x.bound]
                obtain ⟨gx, egx⟩ : ∃ g, g = wr.heap.size := ⟨_, rfl⟩
                rw [← egx] at hbx ⊢
                clear egx hB1
                generalize wr.alloc _ = W1 at *
                obtain ⟨en, he, ho, i1, i2, _, _, _, _⟩ := rel_ent hP1.rel hP1.has.tab Hx.out
                have hll := hP1.has.tab.last_le
                have cg := get_i W1 t s x.id en x.v hP1.has.tab (by omega) he ho.1
                have cp := pairs_i hP1.has.tab (by omega) he
                rw [ho.2.1, ho.2.2.1, ho.2.2.2] at cp
                simp only [pairA] at cp
                have x0 := hbx.cell 0
                have x1 := hbx.cell 1
                have x2 := hbx.cell 2
                have x3 := hbx.cell 3
                have x4 := hbx.cell 4
                have x5 := hbx.cell 5
                have x6 := hbx.cell 6
                have x7 := hbx.cell 7
                have x8 := hbx.cell 8
                have x9 := hbx.cell 9
                have x10 := hbx.cell 10
                simp only [List.getElem?_toArray, List.getElem?_cons_zero, List.getElem?_cons_succ] at x0 x1 x2 x3 x4 x5 x6 x7 x8 x9 x10
                have HP1 := Lib.hid (And.intro hP1 (And.intro hI1 hbx))
                clear hP1 hI1 hbx he ho i1 i2 hll HR
                go_upto_region 39 with (first
                  | (go_at_call 22; with_reducible refine cg.mono ?_; rintro e w' ⟨rfl, hw⟩; rw [← hw]; clear hw)
                  | (go_at_call 23; with_reducible refine cp.mono ?_; rintro e w6 ⟨rfl, hb6⟩; have HB6 := Lib.hid hb6; clear hb6))
                clear x0 x1 x2 x3 x4 x5 x6 x7 x8 x9 x10 cg cp
                have hbn := (Blk.new w6 34 #[.int .u32 x.near.a, .int .u16 x.near.b, .int .u32 x.near.c, .int .u16 x.near.d]).alloc (.cells #[.int .u32 x.far.a, .int .u16 x.far.b, .int .u32 x.far.c, .int .u16 x.far.d] 34)
                have hbf := tablePlays.blkB w6 (.cells #[.int .u32 x.near.a, .int .u16 x.near.b, .int .u32 x.near.c, .int .u16 x.near.d] 34) 34 #[.int .u32 x.far.a, .int .u16 x.far.b, .int .u32 x.far.c, .int .u16 x.far.d]
                have hB7 : Below W1.heap.size W1 ((w6.alloc (.cells #[.int .u32 x.near.a, .int .u16 x.near.b, .int .u32 x.near.c, .int .u16 x.near.d] 34)).alloc (.cells #[.int .u32 x.far.a, .int .u16 x.far.b, .int .u32 x.far.c, .int .u16 x.far.d] 34)) := (HB6.out.alloc HB6.out.size _).alloc (Nat.le_trans HB6.out.size (by simp)) _
                obtain ⟨gn, egn⟩ : ∃ gn, gn = w6.heap.size := ⟨_, rfl⟩
                obtain ⟨gf, egf⟩ : ∃ gf, gf = w6.heap.size + 1 := ⟨_, rfl⟩
                rw [← egf] at hbf ⊢
                rw [← egn] at hbn ⊢
                clear egn egf HB6
                generalize (w6.alloc _).alloc _ = W9 at *
                have hP9 := HP1.out.1.below hB7
                have hI9 := HP1.out.2.1.below hB7
                have hbx := HP1.out.2.2.below hB7 HP1.out.2.2.lt
                obtain ⟨g9, eg9, hg9, hcid⟩ := hI9.cell hjl
                injection eg9 with eg9
                injection eg9 with eg9
                subst eg9
                rw [← Hxe.out] at hcid
                have x0 := hbx.cell 0
                have x1 := hbx.cell 1
                have x2 := hbx.cell 2
                have x3 := hbx.cell 3
                have x4 := hbx.cell 4
                have x5 := hbx.cell 5
                have x6 := hbx.cell 6
                have x7 := hbx.cell 7
                have x8 := hbx.cell 8
                have x9 := hbx.cell 9
                have x10 := hbx.cell 10
                have n0 := hbn.cell 0
                have n1 := hbn.cell 1
                have n2 := hbn.cell 2
                have n3 := hbn.cell 3
                have f0 := hbf.cell 0
                have f1 := hbf.cell 1
                have f2 := hbf.cell 2
                have f3 := hbf.cell 3
                simp only [List.getElem?_toArray, List.getElem?_cons_zero, List.getElem?_cons_succ] at x0 x1 x2 x3 x4 x5 x6 x7 x8 x9 x10 n0 n1 n2 n3 f0 f1 f2 f3
                have e1 : ∀ W : World, (binOp .neq 34 (.agg #[.int .u32 x.near.a, .int .u16 x.near.b, .int .u32 x.near.c, .int .u16 x.near.d]) (.agg #[.int .u32 x.near.a, .int .u16 x.near.b, .int .u32 x.near.c, .int .u16 x.near.d])).run Try.prog W = .ok (.bool false) W := fun W => by
                  have := neq_pair x.near x.near W
                  simpa using this
                have e2 : ∀ W : World, (binOp .neq 34 (.agg #[.int .u32 x.far.a, .int .u16 x.far.b, .int .u32 x.far.c, .int .u16 x.far.d]) (.agg #[.int .u32 x.far.a, .int .u16 x.far.b, .int .u32 x.far.c, .int .u16 x.far.d])).run Try.prog W = .ok (.bool false) W := fun W => by
                  have := neq_pair x.far x.far W
                  simpa using this
                have HP9 := Lib.hid (And.intro hP9 hI9)
                clear hP9 hI9 hbx hbn hbf hB7 HP1 hg9
                go_quiet (fail)
                clear x0 x1 x2 x3 x4 x5 x6 x7 x8 x9 x10 n0 n1 n2 n3 f0 f1 f2 f3 e1 e2 hcid
                have HPQ := Lib.hid (And.intro (HP9.out.1.below (below_drewN (Below.refl _ _) nq)) (HP9.out.2.below (below_drewN (Below.refl _ _) nq)))
                clear HP9
                generalize W9.drewN nq = W10 at *
                go_wp2
                go_roundw
                case rel => exact ⟨j + 1, by go_num, hjl, HPQ⟩
                case measure => simp [intOf]; omega
            · obtain rfl : j = l.length := by omega
              have hjz : ¬ (l.length : Int) < (l.length : Int) := by omega
              have hP := HR.out.1
              have hll := hP.has.tab.last_le
              have y5 := hP.step.cell 5
              simp only [St12.cells, List.getElem?_toArray, List.getElem?_cons_zero, List.getElem?_cons_succ] at y5
              cases he : s.E n with
              | none =>
                as_aux_lemma =>
                  have cg := get_no_i wr t s n hP.has.tab Nw.out he
                  have cp := pairs_no_i hP.has.tab Nw.out he
                  have HP := Lib.hid hP
                  have hno := hP.rel.no he
                  have Hno := Lib.hid hno
                  clear hP hno he HR hll
                  go_upto_region 43 with (first
                    | (go_at_call 22; with_reducible refine cg.mono ?_; rintro e w' ⟨rfl, hw⟩; rw [← hw]; clear hw)
                    | (go_at_call 23; with_reducible refine cp.mono ?_; rintro e w6 ⟨rfl, hb6⟩; have HB6 := Lib.hid hb6; have y5' : w6.cell? ⟨gs, 5, none⟩ = some (.int .u64 (n : Int)) := (hb6.cell (p := ⟨gs, 5, none⟩) HP.out.step.lt).trans y5; clear hb6))
                  clear y5 cg cp y5'
                  have hP9 := HP.out.below ((HB6.out.alloc HB6.out.size (.cells #[.int .u32 0, .int .u16 0, .int .u32 0, .int .u16 0] 34)).alloc (Nat.le_trans HB6.out.size (by simp)) (.cells #[.int .u32 0, .int .u16 0, .int .u32 0, .int .u16 0] 34))
                  clear HP HB6
                  generalize (w6.alloc _).alloc _ = W9 at *
                  have ca := rat_none hP9.ref (by have := hP9.lrl; omega) Hno.out
                  have y5 := hP9.step.cell 5
                  simp only [St12.cells, List.getElem?_toArray, List.getElem?_cons_zero, List.getElem?_cons_succ] at y5
                  have HGL := Lib.hid (GL.of ⟨s, l, A, c, hP9⟩)
                  clear hP9 Hno
                  go_wp2_with (go_at_call 24; with_reducible refine ca.mono ?_; rintro e w7 ⟨rfl, hw⟩; rw [← hw]; clear hw)
                  go_roundw
                  case rel => exact ⟨k + 1, by go_num, hlt, HGL⟩
                  case measure => simp [intOf]; omega
              | some en =>
                as_aux_lemma =>
                  obtain ⟨la, x, lr, rfl, hxid, hx⟩ := hP.rel.split he
                  subst hxid
                  have cg := get_i wr t s x.id en x.v hP.has.tab Nw.out he hx.1
                  have cp := pairs_i hP.has.tab Nw.out he
                  simp only [pairA] at cp
                  obtain ⟨⟨na, nb, nc, nd⟩, hnear⟩ : ∃ q, q = en.near := ⟨_, rfl⟩
                  obtain ⟨⟨fa, fb, fc, fd⟩, hfar⟩ : ∃ q, q = en.far := ⟨_, rfl⟩
                  rw [← hnear, ← hfar] at cp
                  simp only at cp
                  generalize en.bound = eb at cp
                  have HP := Lib.hid hP
                  clear hP he HR hll hx hnear hfar
                  go_upto_region 43 with (first
                    | (go_at_call 22; with_reducible refine cg.mono ?_; rintro e w' ⟨rfl, hw⟩; rw [← hw]; clear hw)
                    | (go_at_call 23; with_reducible refine cp.mono ?_; rintro e w6 ⟨rfl, hb6⟩; have HB6 := Lib.hid hb6; have y5' : w6.cell? ⟨gs, 5, none⟩ = some (.int .u64 (x.id : Int)) := (hb6.cell (p := ⟨gs, 5, none⟩) HP.out.step.lt).trans y5; clear hb6))
                  clear y5 cg cp y5'
                  have hP9 := HP.out.below ((HB6.out.alloc HB6.out.size (.cells #[.int .u32 na, .int .u16 nb, .int .u32 nc, .int .u16 nd] 34)).alloc (Nat.le_trans HB6.out.size (by simp)) (.cells #[.int .u32 fa, .int .u16 fb, .int .u32 fc, .int .u16 fd] 34))
                  clear HP HB6
                  generalize (w6.alloc _).alloc _ = W9 at *
                  have ca := rat_some hP9.ref (by have := hP9.lrl; omega) hP9.rel.sorted
                  have hat : (0 : Int) ≤ (la.length : Int) := by omega
                  have hat2 : ¬ (la.length : Int) < 0 := by omega
                  have y5 := hP9.step.cell 5
                  simp only [St12.cells, List.getElem?_toArray, List.getElem?_cons_zero, List.getElem?_cons_succ] at y5
                  have HGL := Lib.hid (GL.of ⟨s, _, A, c, hP9⟩)
                  clear hP9
                  go_wp2_with (go_at_call 24; with_reducible refine ca.mono ?_; rintro e w7 ⟨rfl, hw⟩; rw [← hw]; clear hw)
                  go_roundw
                  case rel => exact ⟨k + 1, by go_num, hlt, HGL⟩
                  case measure => simp [intOf]; omega
    · have hltz : ¬ (k : Int) < (len1 : Int) := by omega
      have ca := works12 wr
      go_wp2_with (go_at_call 12; with_reducible refine ca.mono ?_; rintro e w3 ⟨rfl, hb⟩)
      go_ret
      exact ⟨rfl, HI.out.below_.trans (hb.mono HI.out.below_.size)⟩
theorem own : ownKnob Try.prog.godebug = none := by kernel_rfl
theorem laidOut : laidOutB Try.prog = true := by kernel_rfl
set_option maxRecDepth 100000 in
theorem lifted (os : Os) (started : os.Started) (H : Type) (enc : TypeId × Value → H) :
    ReturnsInHanded {} Try.checked os 4 .any (Rows.tablePlaysSpec.pre6 enc Try.prog Try.f4 Rows.tablePlaysRow.domain false) (Rows.tablePlaysSpec.post enc Try.prog Try.f4 false true false false) := by
  refine returnsInHanded_of_change (C := Try.checked) own started (by kernel_rfl) Try.func4
    (ChangeSpec.witness6 (enc := enc) (C := Try.checked) false ⟨#[], #[.int .i64 0, .slice none 0 0], []⟩ 8 (by kernel_rfl) (by kernel_rfl) (by kernel_rfl) (by kernel_rfl)) ?_
  intro W base args ds gs before hval0 hW hcnd _
  have hval : ∀ (j : Nat) t v, Try.f4.params[j]? = some t → args[j]? = some v → Value.okWide Try.prog W .any base t v := hval0
  have hW' := hW
  obtain ⟨p, q, hA0, hV, rfl, hfz, hnd⟩ := hW
  have hA : DataW.TrodAll enc Try.prog W 0 (fun _ => true) true Try.f4.params.toList args.toList ds p := hA0
  rw [Try.params4] at hA hval
  obtain ⟨v0, vs0, d0, ds0, p0, q0, hargs, rfl, rfl, h0, r0⟩ := trodAll_cons hA
  obtain ⟨v1, vs1, d1, ds1, p1, q1, rfl, rfl, rfl, h1, r1⟩ := trodAll_cons r0
  obtain ⟨rfl, rfl, rfl⟩ := trodAll_nil r1
  obtain rfl : args = #[v0, v1] := by cases args; simp_all
  obtain ⟨rfl, rfl⟩ := trodVars_none hV
  obtain ⟨a0, rfl, rfl, rfl, w0⟩ := open_int Try.underlying3 (hval 0 3 v0 rfl rfl) h0
  obtain ⟨a1, len1, cap1, rfl⟩ := okWide_slice Try.underlying40 (hval 1 40 v1 rfl rfl)
  have k1 := h1
  have lt1 : ∀ x ∈ p1, x.block < W.heap.size := by obtain ⟨m, hm⟩ := k1; exact DataW.trod_lt m _ _ _ hm
  have w1 := steps_rows h1
  clear hA0 hval0
  refine (walk a0 a1 len1 cap1 W w0 w1).mono fun e W' ⟨he, bel⟩ => ?_
  subst he
  exact ⟨_, rfl, _, _, _, [], _, [], hW', trodAll_mk1 (shut_bool Try.underlying4 _), (trodAll_cons_mk (shut_int Try.underlying3 w0) (trodAll_cons_mk (Below.trod laidOut (by kernel_rfl) (of_decide_eq_true (by kernel_rfl)) k1 bel lt1) trodAll_mk0)), rfl, bel.frame _, fun h => by cases h⟩

theorem over : Rows.tablePlaysRow.holds Try.pinned (OpenSpec.ofChange Rows.tablePlaysSpec) :=
  OpenClaim.holds_of_wide 4 Try.f4 rfl rfl rfl rfl rfl rfl rfl ⟨rfl, rfl, rfl, rfl, rfl⟩ rfl rfl rfl rfl rfl (by kernel_rfl) Try.func4 (by kernel_rfl)
    (of_decide_eq_true (by kernel_rfl)) (by unfold Func.isWrapper; first | (rw [if_pos (by decide +kernel)]; kernel_rfl) | (rw [if_neg (by decide +kernel)]; exact ⟨rfl, rfl⟩))
    (fun os started H enc _ => lifted os started H enc)

/-- THE STATEMENT -/
theorem proved : Rows.TablePlaysSaid := over
#print axioms proved
end Go.Proofs.Ytlikngepcbmhdaa.tablePlays
