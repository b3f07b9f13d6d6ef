/- Contracts and plain lemmas: RWin, LoadsL, LoadsG, ShiftRefT, RowB, PktSumAt. -/
import Derived.Laws.Bits64
import Derived.Deep.MidRow
import Derived.Deep.QuietTactic
import Derived.BigQuiet
import Derived.Deep.DeepCutAuto
import Derived.Test.YtengegcnocdkoaaRc6
import Derived.Test.YtengegcnocdkoaaRc5
import Derived.Test.YtengegcnocdkoaaRc1
set_option linter.unusedVariables false
set_option linter.unusedSimpArgs false
set_option linter.unusedSectionVars false
section
namespace Go.Proofs.Ytengegcnocdkoaa
open Go.RowKit Go.BigFrame
theorem rwin_any (s7 x8 x9 : Int) (w : World) (h0 : 0 ≤ s7) (h1 : s7 < 65536) : Calls Try.prog 57 #[.int .u16 s7, .int .i64 x8, .int .i64 x9] w fun e w' => e = .returned (.int .u16 (winT s7 x8 x9)) ∧ w = w' := by
  have hx : min (max x8 0) 14 = ((scN x8 : Nat) : Int) := by unfold scN; omega
  have hy : min (max x9 0) 14 = ((scN x9 : Nat) : Int) := by unfold scN; omega
  have hx14 := scN_le x8
  have hy14 := scN_le x9
  have hw : ∀ u v, u = scN x8 → v = scN x9 → IntKind.u16.wrap (min (IntKind.u64.wrap (s7 * 2 ^ u) / 2 ^ v) 65535) = winT s7 x8 x9 := fun u v hu hv => win_eq s7 x8 x9 u v hu hv h0 h1
  generalize winT s7 x8 x9 = V at *
  have hw := hw _ _ rfl rfl
  generalize scN x8 = u at *
  generalize scN x9 = v at *
  have b1 : (u : Int) ≤ 14 := by omega
  have b2 : (v : Int) ≤ 14 := by omega
  have b3 : (0 : Int) ≤ (u : Int) := by omega
  have b4 : (0 : Int) ≤ (v : Int) := by omega
  have e1 : IntKind.u64.wrap (u : Int) = (u : Int) := by rw [IntKind.wrap_u64]; omega
  have e2 : IntKind.u64.wrap (v : Int) = (v : Int) := by rw [IntKind.wrap_u64]; omega
  have Hw := Lib.hid hw
  clear hw
  go_enter Try.func57, Try.ntmps57
  go_wp2
  go_ret
  exact ⟨rfl, rfl⟩
end Go.Proofs.Ytengegcnocdkoaa
end
section
namespace Go.Proofs.Ytengegcnocdkoaa
open Go.RowKit Go.BigFrame
theorem Blk.range {w : World} {g : Nat} {E : TypeId} {cs : Array Value} (h : Blk w g E cs) : w.rangeAt g 0 cs.toList := fun j v hv => by
  have := h.cell j
  rw [Nat.zero_add, this]
  simpa using hv
theorem run_load_blk {P : Program} {w : World} {g : Nat} {E : TypeId} {cs : Array Value} (h : Blk w g E cs) (hu : (P.underlying E).map TypeDesc.isRow = some true) (hi : (P.info? E).map (·.size) = some cs.size) :
    (Instr.loadAt E (.pointer (some ⟨g, 0, none⟩))).run P w = .ok (.agg cs) w := by
  obtain ⟨d, hu, hd⟩ := Option.map_eq_some_iff.1 hu
  have := run_loadAt_mid (P := P) w g 0 E cs.toList d h.range hu hd (by rw [hi]; simp)
  simpa using this
theorem wpl_load {P : Program} {ops : Array Oper} {rest : List Oper} {op : Oper} {a : Act} {w : World} {Q : Exit → Act → World → Prop} {g : Nat} {E : TypeId} {cs : Array Value} (h : Blk w g E cs) (hu : (P.underlying E).map TypeDesc.isRow = some true) (hi : (P.info? E).map (·.size) = some cs.size)
    (hgd : op.guard = none) (x : Operand) (ho : op.op = .load E x) (hx : a.eval x = .pointer (some ⟨g, 0, none⟩)) (hn : wpList P ops Q rest (a.put op.dst (.agg cs)) w) : wpList P ops Q (op :: rest) a w := by
  obtain ⟨d, hu, hd⟩ := Option.map_eq_some_iff.1 hu
  exact wpList_load_mid hgd E x ho g 0 hx cs.toList d h.range hu hd (by rw [hi]; simp) (by simpa using hn)
section
variable {P : Program} {ops : Array Oper} {S : World → Prop} {R : World → World → Prop} {End : List Tmp → List Fc → Act → Prop} {rest : List Oper} {k : Nat} {T : List Tmp} {N : List Fc} {a : Act} {o : Oper}
theorem flow_load {d : Option Tmp} {E : TypeId} {x : Operand} {t : TypeId} {ps : String} {af : Array Edge} {g : Option (Nat × Bool)} (b : Nat) (cs : Array Value) (hb : ∀ y : Cls S, Blk y.w b E cs) (hu : (P.underlying E).map TypeDesc.isRow = some true) (hi : (P.info? E).map (·.size) = some cs.size)
    (hx : a.eval x = .pointer (some ⟨b, 0, none⟩)) (hRr : ∀ w, R w w)
    (hp : plainW ops T { dst := d, op := .load E x, type := t, pos := ps, after := af, guard := g } = true)
    (hg : guardW ops T { dst := d, op := .load E x, type := t, pos := ps, after := af, guard := g } = true) (hw : Region.wanted { dst := d, op := .load E x, type := t, pos := ps, after := af, guard := g } (yielded ops a.tmps) = true) (w0 : World)
    (h : ∀ K : Act → Prop, (∀ a, wpW P ops S R End (k + 1) rest T N a → K a) → Oper.quiet P { dst := d, op := .assign (.const (.agg cs)), type := t, pos := "", after := #[], guard := none } a (fun _ => True) K) :
    wpW P ops S R End k ({ dst := d, op := .load E x, type := t, pos := ps, after := af, guard := g } :: rest) T N a :=
  flow_val (.agg cs) (fun w f hS hN => gives_congr (exec_plain (fun _ _ e => by cases e) hp f) (by
    unfold gives
    simp only [execOp, Sem.run_bind]
    rw [hx, run_load_blk (hb ⟨w, hS⟩) hu hi]
    exact ⟨rfl, hS, hRr _⟩)) hg hw w0 h
end
end Go.Proofs.Ytengegcnocdkoaa
end
section
namespace Go.Proofs.Ytengegcnocdkoaa
open Go.RowKit Go.BigFrame
theorem segU : (Try.prog.underlying 30).map TypeDesc.isRow = some true := by kernel_rfl
theorem segI : (Try.prog.info? 30).map (·.size) = some 16 := by kernel_rfl
end Go.Proofs.Ytengegcnocdkoaa
end
section
namespace Go.Proofs.Ytengegcnocdkoaa
open Go.RowKit Go.BigFrame
set_option maxRecDepth 100000 in
set_option maxHeartbeats 8000000 in
theorem rturned_any (s0 s1 s2 s3 s4 s5 s6 s7 s8 s9 : Int) (s10 s12 : Bool) (A : Option Addr) (n c : Nat) (s13 s14 : Int) (s15 : ByteArray) (x0 x1 x2 x3 x4 x5 x6 x7 x8 x9 : Int) (l : List (Int × Int)) (w : World) (hl : n = l.length) (hrow : BRow w A l) (hn : n ≤ 1099511627776)
    (hw0 : 0 ≤ s7) (hw1 : s7 < 65536) :
    Calls Try.prog 24 #[.agg #[.int .u32 s0, .int .u16 s1, .int .u32 s2, .int .u16 s3, .int .u32 s4, .int .u32 s5, .int .u8 s6, .int .u16 s7, .int .u16 s8, .int .i64 s9, .bool s10, .slice A n c, .bool s12, .int .u32 s13, .int .u32 s14, .string s15], .agg #[.int .u32 x0, .int .u16 x1, .int .u32 x2, .int .u16 x3, .int .u32 x4, .int .u32 x5, .int .u32 x6, .int .u32 x7, .int .i64 x8, .int .i64 x9]] w (TurnedPost w (turnedC s4 s5 s6 s7 s8 s9 s10 s12 s13 s14 s15 x0 x1 x2 x3 x4 x5 x6 x7 x8 x9) (l.map (turnB x5))) := by
  have hb0 : Below w.heap.size w w := Below.refl _ _
  have HB := Lib.hid hb0
  have i1 : (n : Int) ≤ 1099511627776 := by omega
  have Hl := Lib.hid hl
  clear hl
  have Hrow := Lib.hid hrow
  clear hrow
  clear hb0
  go_enter Try.func24, Try.ntmps24
  go_upto_region 1 with fail
  have hs := Blk.alloc (Blk.alloc (Blk.new w 30 #[.int .u32 s0, .int .u16 s1, .int .u32 s2, .int .u16 s3, .int .u32 s4, .int .u32 s5, .int .u8 s6, .int .u16 s7, .int .u16 s8, .int .i64 s9, .bool s10, .slice A n c, .bool s12, .int .u32 s13, .int .u32 s14, .string s15]) (.cells #[.int .u32 x0, .int .u16 x1, .int .u32 x2, .int .u16 x3, .int .u32 x4, .int .u32 x5, .int .u32 x6, .int .u32 x7, .int .i64 x8, .int .i64 x9] 46)) (.cells #[.int .u32 0, .int .u16 0, .int .u32 0, .int .u16 0, .int .u32 0, .int .u32 0, .int .u8 0, .int .u16 0, .int .u16 0, .int .i64 0, .bool false, .slice none 0 0, .bool false, .int .u32 0, .int .u32 0, .string ⟨#[]⟩] 30)
  have hx := Blk.alloc (Blk.new (w.alloc (.cells #[.int .u32 s0, .int .u16 s1, .int .u32 s2, .int .u16 s3, .int .u32 s4, .int .u32 s5, .int .u8 s6, .int .u16 s7, .int .u16 s8, .int .i64 s9, .bool s10, .slice A n c, .bool s12, .int .u32 s13, .int .u32 s14, .string s15] 30)) 46 #[.int .u32 x0, .int .u16 x1, .int .u32 x2, .int .u16 x3, .int .u32 x4, .int .u32 x5, .int .u32 x6, .int .u32 x7, .int .i64 x8, .int .i64 x9]) (.cells #[.int .u32 0, .int .u16 0, .int .u32 0, .int .u16 0, .int .u32 0, .int .u32 0, .int .u8 0, .int .u16 0, .int .u16 0, .int .i64 0, .bool false, .slice none 0 0, .bool false, .int .u32 0, .int .u32 0, .string ⟨#[]⟩] 30)
  rw [show (w.alloc (.cells #[.int .u32 s0, .int .u16 s1, .int .u32 s2, .int .u16 s3, .int .u32 s4, .int .u32 s5, .int .u8 s6, .int .u16 s7, .int .u16 s8, .int .i64 s9, .bool s10, .slice A n c, .bool s12, .int .u32 s13, .int .u32 s14, .string s15] 30)).heap.size = w.heap.size + 1 by simp] at hx
  have hr := Blk.new ((w.alloc (.cells #[.int .u32 s0, .int .u16 s1, .int .u32 s2, .int .u16 s3, .int .u32 s4, .int .u32 s5, .int .u8 s6, .int .u16 s7, .int .u16 s8, .int .i64 s9, .bool s10, .slice A n c, .bool s12, .int .u32 s13, .int .u32 s14, .string s15] 30)).alloc (.cells #[.int .u32 x0, .int .u16 x1, .int .u32 x2, .int .u16 x3, .int .u32 x4, .int .u32 x5, .int .u32 x6, .int .u32 x7, .int .i64 x8, .int .i64 x9] 46)) 30 #[.int .u32 0, .int .u16 0, .int .u32 0, .int .u16 0, .int .u32 0, .int .u32 0, .int .u8 0, .int .u16 0, .int .u16 0, .int .i64 0, .bool false, .slice none 0 0, .bool false, .int .u32 0, .int .u32 0, .string ⟨#[]⟩]
  rw [show ((w.alloc (.cells #[.int .u32 s0, .int .u16 s1, .int .u32 s2, .int .u16 s3, .int .u32 s4, .int .u32 s5, .int .u8 s6, .int .u16 s7, .int .u16 s8, .int .i64 s9, .bool s10, .slice A n c, .bool s12, .int .u32 s13, .int .u32 s14, .string s15] 30)).alloc (.cells #[.int .u32 x0, .int .u16 x1, .int .u32 x2, .int .u16 x3, .int .u32 x4, .int .u32 x5, .int .u32 x6, .int .u32 x7, .int .i64 x8, .int .i64 x9] 46)).heap.size = w.heap.size + 2 by simp] at hr
  have hB := Below.alloc (Below.alloc (Below.alloc (HB.out) (Nat.le_trans HB.out.size (by simp <;> omega)) (.cells #[.int .u32 s0, .int .u16 s1, .int .u32 s2, .int .u16 s3, .int .u32 s4, .int .u32 s5, .int .u8 s6, .int .u16 s7, .int .u16 s8, .int .i64 s9, .bool s10, .slice A n c, .bool s12, .int .u32 s13, .int .u32 s14, .string s15] 30)) (Nat.le_trans HB.out.size (by simp <;> omega)) (.cells #[.int .u32 x0, .int .u16 x1, .int .u32 x2, .int .u16 x3, .int .u32 x4, .int .u32 x5, .int .u32 x6, .int .u32 x7, .int .i64 x8, .int .i64 x9] 46)) (Nat.le_trans HB.out.size (by simp <;> omega)) (.cells #[.int .u32 0, .int .u16 0, .int .u32 0, .int .u16 0, .int .u32 0, .int .u32 0, .int .u8 0, .int .u16 0, .int .u16 0, .int .i64 0, .bool false, .slice none 0 0, .bool false, .int .u32 0, .int .u32 0, .string ⟨#[]⟩] 30)
  clear HB
  obtain ⟨gr, hger⟩ : ∃ g, g = w.heap.size + 2 := ⟨_, rfl⟩
  rw [← hger] at hr ⊢
  obtain ⟨gx, hgex⟩ : ∃ g, g = w.heap.size + 1 := ⟨_, rfl⟩
  rw [← hgex] at hx ⊢
  obtain ⟨gs, hges⟩ : ∃ g, g = w.heap.size := ⟨_, rfl⟩
  rw [← hges] at hs ⊢
  have hne_s_x : gs ≠ gx := by omega
  have hne_s_r : gs ≠ gr := by omega
  have hne_x_r : gx ≠ gr := by omega
  have hle_s : w.heap.size ≤ gs := by omega
  have hle_x : w.heap.size ≤ gx := by omega
  have hle_r : w.heap.size ≤ gr := by omega
  clear hges hgex hger
  generalize ((w.alloc _).alloc _).alloc _ = wn1 at *
  have Hs := Lib.hid hs
  clear hs
  have Hx := Lib.hid hx
  clear hx
  have Hr := Lib.hid hr
  clear hr
  have HB := Lib.hid hB
  clear hB
  have c0 := Hs.out.cell 0
  have c1 := Hs.out.cell 1
  have c2 := Hs.out.cell 2
  have c3 := Hs.out.cell 3
  have c4 := Hs.out.cell 4
  have c5 := Hs.out.cell 5
  have c6 := Hs.out.cell 6
  have c7 := Hs.out.cell 7
  have c8 := Hs.out.cell 8
  have c9 := Hs.out.cell 9
  have c10 := Hs.out.cell 10
  have c11 := Hs.out.cell 11
  have c12 := Hs.out.cell 12
  have c13 := Hs.out.cell 13
  have c14 := Hs.out.cell 14
  have c15 := Hs.out.cell 15
  simp at c0 c1 c2 c3 c4 c5 c6 c7 c8 c9 c10 c11 c12 c13 c14 c15
  have d0 := Hx.out.cell 0
  have d1 := Hx.out.cell 1
  have d2 := Hx.out.cell 2
  have d3 := Hx.out.cell 3
  have d4 := Hx.out.cell 4
  have d5 := Hx.out.cell 5
  have d6 := Hx.out.cell 6
  have d7 := Hx.out.cell 7
  have d8 := Hx.out.cell 8
  have d9 := Hx.out.cell 9
  simp at d0 d1 d2 d3 d4 d5 d6 d7 d8 d9
  have fs := Hs.out.frozen
  go_upto_region 4 with fail
  generalize hW1 : World.setCell _ _ _ = W1
  have hs1 : Blk W1 gs 30 #[.int .u32 x0, .int .u16 x1, .int .u32 x2, .int .u16 x3, .int .u32 ((s4 + x4) % 4294967296), .int .u32 s5, .int .u8 s6, .int .u16 s7, .int .u16 s8, .int .i64 s9, .bool s10, .slice A n c, .bool s12, .int .u32 s13, .int .u32 s14, .string s15] := by
    rw [← hW1]
    have := (((((Hs.out.set_ 0 (.int .u32 x0)).set_ 1 (.int .u16 x1)).set_ 2 (.int .u32 x2)).set_ 3 (.int .u16 x3)).set_ 4 (.int .u32 ((s4 + x4) % 4294967296)))
    simpa using this
  have hx1 : Blk W1 gx 46 #[.int .u32 x0, .int .u16 x1, .int .u32 x2, .int .u16 x3, .int .u32 x4, .int .u32 x5, .int .u32 x6, .int .u32 x7, .int .i64 x8, .int .i64 x9] := by
    rw [← hW1]
    exact (Blk.far (Blk.far (Blk.far (Blk.far (Blk.far Hx.out (p := ⟨gs, 0, none⟩) (Ne.symm hne_s_x) _) (p := ⟨gs, 1, none⟩) (Ne.symm hne_s_x) _) (p := ⟨gs, 2, none⟩) (Ne.symm hne_s_x) _) (p := ⟨gs, 3, none⟩) (Ne.symm hne_s_x) _) (p := ⟨gs, 4, none⟩) (Ne.symm hne_s_x) _)
  have hr1 : Blk W1 gr 30 #[.int .u32 0, .int .u16 0, .int .u32 0, .int .u16 0, .int .u32 0, .int .u32 0, .int .u8 0, .int .u16 0, .int .u16 0, .int .i64 0, .bool false, .slice none 0 0, .bool false, .int .u32 0, .int .u32 0, .string ⟨#[]⟩] := by
    rw [← hW1]
    exact (Blk.far (Blk.far (Blk.far (Blk.far (Blk.far Hr.out (p := ⟨gs, 0, none⟩) (Ne.symm hne_s_r) _) (p := ⟨gs, 1, none⟩) (Ne.symm hne_s_r) _) (p := ⟨gs, 2, none⟩) (Ne.symm hne_s_r) _) (p := ⟨gs, 3, none⟩) (Ne.symm hne_s_r) _) (p := ⟨gs, 4, none⟩) (Ne.symm hne_s_r) _)
  have hB1 : Below w.heap.size w W1 := by
    rw [← hW1]
    exact (((((HB.out.setCell (p := ⟨gs, 0, none⟩) hle_s _).setCell (p := ⟨gs, 1, none⟩) hle_s _).setCell (p := ⟨gs, 2, none⟩) hle_s _).setCell (p := ⟨gs, 3, none⟩) hle_s _).setCell (p := ⟨gs, 4, none⟩) hle_s _)
  clear c0 c1 c2 c3 c4 c5 c6 c7 c8 c9 c10 c11 c12 c13 c14 c15
  clear d0 d1 d2 d3 d4 d5 d6 d7 d8 d9
  clear fs hW1 HB
  have c6 := hs1.cell 6
  simp at c6
  obtain ⟨a5, ha5⟩ : ∃ a, a = (if (bits .and .u8 s6 16 != 0) = true then (s5 + x5) % 4294967296 else s5) := ⟨_, rfl⟩
  have c5 := hs1.cell 5
  have d5 := hx1.cell 5
  simp at c5 d5
  have f5 := hs1.frozen 5
  have Ha5 := Lib.hid ha5
  clear ha5
  have Hs1 := Lib.hid hs1
  clear hs1
  have Hx1 := Lib.hid hx1
  clear hx1
  have Hr1 := Lib.hid hr1
  clear hr1
  have HB1 := Lib.hid hB1
  clear hB1
  go_upto_if 22 with fail
  generalize hak : (bits .and .u8 s6 16 != 0) = ak
  have Hak := Lib.hid hak
  clear hak c6
  go_cut [23] from 23 to 28 (fun d wx => Blk wx gs 30 #[.int .u32 x0, .int .u16 x1, .int .u32 x2, .int .u16 x3, .int .u32 ((s4 + x4) % 4294967296), .int .u32 a5, .int .u8 s6, .int .u16 s7, .int .u16 s8, .int .i64 s9, .bool s10, .slice A n c, .bool s12, .int .u32 s13, .int .u32 s14, .string s15] ∧ Blk wx gx 46 #[.int .u32 x0, .int .u16 x1, .int .u32 x2, .int .u16 x3, .int .u32 x4, .int .u32 x5, .int .u32 x6, .int .u32 x7, .int .i64 x8, .int .i64 x9] ∧ Blk wx gr 30 #[.int .u32 0, .int .u16 0, .int .u32 0, .int .u16 0, .int .u32 0, .int .u32 0, .int .u8 0, .int .u16 0, .int .u16 0, .int .i64 0, .bool false, .slice none 0 0, .bool false, .int .u32 0, .int .u32 0, .string ⟨#[]⟩] ∧ Below w.heap.size w wx)
  case first =>
    cases ak with
    | false =>
      have e5 : a5 = s5 := by rw [Ha5.out, Hak.out]; rfl
      have hs2 := Hs1.out
      rw [← e5] at hs2
      have Hs2 := Lib.hid hs2
      clear hs2
      clear e5
      go_wp2_with fail
      go_meet
      case rel => exact ⟨Hs2.out, Hx1.out, Hr1.out, HB1.out⟩
    | true =>
      have e5 : a5 = (s5 + x5) % 4294967296 := by rw [Ha5.out, Hak.out]; rfl
      have hs2 : Blk (W1.setCell ⟨gs, 5, none⟩ (.int .u32 ((s5 + x5) % 4294967296))) gs 30 #[.int .u32 x0, .int .u16 x1, .int .u32 x2, .int .u16 x3, .int .u32 ((s4 + x4) % 4294967296), .int .u32 a5, .int .u8 s6, .int .u16 s7, .int .u16 s8, .int .i64 s9, .bool s10, .slice A n c, .bool s12, .int .u32 s13, .int .u32 s14, .string s15] := by
        have := Hs1.out.set_ 5 (.int .u32 ((s5 + x5) % 4294967296))
        rw [e5]
        simpa using this
      have hx2 := Hx1.out.far (p := ⟨gs, 5, none⟩) (Ne.symm hne_s_x) (.int .u32 ((s5 + x5) % 4294967296))
      have hr2 := Hr1.out.far (p := ⟨gs, 5, none⟩) (Ne.symm hne_s_r) (.int .u32 ((s5 + x5) % 4294967296))
      have hB2 := HB1.out.setCell (p := ⟨gs, 5, none⟩) hle_s (.int .u32 ((s5 + x5) % 4294967296))
      have Hs2 := Lib.hid hs2
      clear hs2
      have Hx2 := Lib.hid hx2
      clear hx2
      have Hr2 := Lib.hid hr2
      clear hr2
      have HB2 := Lib.hid hB2
      clear hB2
      clear e5
      go_wp2_with fail
      go_meet
      case rel => exact ⟨Hs2.out, Hx2.out, Hr2.out, HB2.out⟩
  case rest =>
    obtain ⟨hs2, hx2, hr2, hB2⟩ := hcut
    clear c5 d5 f5 Hs1 Hx1 Hr1 HB1
    generalize hWc : wc = W2 at *
    clear hWc
    -- the blocks
    have hlt0 := Hr.out.lt
    have c11 := hs2.cell 11
    simp at c11
    have hrow0 : W2.ownsRow w.heap.size 92 2 (.slice none 0 0) 0 [] := World.ownsRow_nil _ _ _ _
    have Hs2 := Lib.hid hs2
    clear hs2
    have Hx2 := Lib.hid hx2
    clear hx2
    have Hr2 := Lib.hid hr2
    clear hr2
    have HB2 := Lib.hid hB2
    clear hB2
    have Hrow0 := Lib.hid hrow0
    clear hrow0
    clear Hr
    go_wp2_with fail
    go_loopw [5, 6] (fun v i wr => ∃ k : Nat, i = .int .i64 (k : Int) ∧ k ≤ n ∧ (k = 0 → v = .slice none 0 0) ∧ OwnB w v ((l.take k).map (turnB x5)) wr ∧ Blk wr gs 30 #[.int .u32 x0, .int .u16 x1, .int .u32 x2, .int .u16 x3, .int .u32 ((s4 + x4) % 4294967296), .int .u32 a5, .int .u8 s6, .int .u16 s7, .int .u16 s8, .int .i64 s9, .bool s10, .slice A n c, .bool s12, .int .u32 s13, .int .u32 s14, .string s15] ∧ Blk wr gx 46 #[.int .u32 x0, .int .u16 x1, .int .u32 x2, .int .u16 x3, .int .u32 x4, .int .u32 x5, .int .u32 x6, .int .u32 x7, .int .i64 x8, .int .i64 x9] ∧ Blk wr gr 30 #[.int .u32 0, .int .u16 0, .int .u32 0, .int .u16 0, .int .u32 0, .int .u32 0, .int .u8 0, .int .u16 0, .int .u16 0, .int .i64 0, .bool false, .slice none 0 0, .bool false, .int .u32 0, .int .u32 0, .string ⟨#[]⟩] ∧ Below w.heap.size w wr) (fun _ i _ => n - (intOf i).toNat)
    case atStart => exact ⟨0, rfl, Nat.zero_le _, fun _ => rfl, by rw [List.take_zero]; exact Hrow0.out, Hs2.out, Hx2.out, Hr2.out, HB2.out⟩
    case round =>
      clear Hrow0 Hs2 Hx2 Hr2 HB2
      obtain ⟨k, rfl, hkn, hz, hown, hs3, hx3, hr3, hB3⟩ := hrel
      have hml : ((l.take k).map (turnB x5)).length = k := by rw [List.length_map, List.length_take, ← Hl.out]; omega
      unfold OwnB at hown
      rw [hml] at hown
      obtain ⟨A0, c0, hv, _⟩ := own_slice hown
      subst hv
      have hz2 : k = 0 → A0 = none ∧ c0 = 0 := fun h => by have := hz h; injection this with h1 h2 h3; exact ⟨h1, h3⟩
      clear hz
      have Hz2 := Lib.hid hz2
      clear hz2
      by_cases hk : k < n
      · obtain ⟨i0, hi, h0, h1, h2⟩ := info_parts infoB
        have j1 : (k : Int) < (n : Int) := by omega
        have hkl : k < l.length := by rw [← Hl.out]; exact hk
        obtain ⟨p1, p2, hp⟩ : ∃ p1 p2, l[k]? = some (p1, p2) := ⟨l[k].1, l[k].2, by rw [List.getElem?_eq_getElem hkl]⟩
        rcases Hrow.out.below hB3 with h | ⟨rb, off, hA, hrb, hcc⟩
        · rw [h] at hkl; simp at hkl
        subst hA
        obtain ⟨e0, e1⟩ := hcc k (p1, p2) hp
        simp only at e0 e1
        have hgx := hx3.lt
        have t1 := own_blk_ne hown hs3 (by decide)
        have t2 := own_blk_ne hown hx3 (by decide)
        have t3 := own_blk_ne hown hr3 (by decide)
        have t4 : (Value.slice A0 k c0).ownBlock ≠ some rb := fun e => by
          have := (hown.lt rb e).1
          have h5 : rb < w.heap.size := by
            rcases Hrow.out with h | ⟨rb2, off2, hA2, h5, _⟩
            · rw [h] at hkl; simp at hkl
            · injection hA2 with e2
              injection e2 with e2 _
              omega
          omega
        have hnew : (l.take (k + 1)).map (turnB x5) = (l.take k).map (turnB x5) ++ [turnB x5 (p1, p2)] := by
          rw [List.take_add_one, hp, List.map_append]
          rfl
        obtain ⟨row, hrw⟩ : ∃ row, (Value.slice A0 k c0).ownBlock = row := ⟨_, rfl⟩
        rw [hrw] at t1 t2 t3 t4
        have kc : ∀ W, Out (fun i => row = some i) wr W → ∀ b i, b < wr.heap.size → row ≠ some b → W.cell? ⟨b, i, none⟩ = wr.cell? ⟨b, i, none⟩ := fun W hW b i hb hne => World.cell?_of_block (hW.block b hb hne)
        have hS0 : Out (fun i => row = some i) wr wr.drew := Out.of_below (Below.drew (Below.refl _ _))
        have ne : Nonempty (Cls (fun W => Out (fun i => row = some i) wr W)) := ⟨⟨_, hS0⟩⟩
        have c11 : wr.cell? ⟨gs, 11, none⟩ = some (.slice (some ⟨rb, off, none⟩) n c) := by simpa using hs3.cell 11
        have d5 : wr.cell? ⟨gx, 5, none⟩ = some (.int .u32 x5) := by simpa using hx3.cell 5
        have q11 : ∀ y : Cls (fun W => Out (fun i => row = some i) wr W), y.w.cell? ⟨gs, 11, none⟩ = some (.slice (some ⟨rb, off, none⟩) n c) := fun y => (kc _ y.h gs 11 hs3.lt t1).trans c11
        have q5 : ∀ y : Cls (fun W => Out (fun i => row = some i) wr W), y.w.cell? ⟨gx, 5, none⟩ = some (.int .u32 x5) := fun y => (kc _ y.h gx 5 hx3.lt t2).trans d5
        have q0 : ∀ y : Cls (fun W => Out (fun i => row = some i) wr W), y.w.cell? ⟨rb, off + k * 2, none⟩ = some (.int .u32 p1) := fun y => (kc _ y.h rb _ hrb t4).trans e0
        have q1 : ∀ y : Cls (fun W => Out (fun i => row = some i) wr W), y.w.cell? ⟨rb, off + k * 2 + 1, none⟩ = some (.int .u32 p2) := fun y => (kc _ y.h rb _ hrb t4).trans e1
        have rb1 : ∀ w : World, (Instr.buildSlice 26 1 #[(0, .agg #[.int .u32 ((p1 + x5) % 4294967296), .int .u32 ((p2 + x5) % 4294967296)])]).run Try.prog w = .ok (.slice (some ⟨w.heap.size, 0, none⟩) 1 1) (w.alloc (.cells #[.int .u32 ((p1 + x5) % 4294967296), .int .u32 ((p2 + x5) % 4294967296)] 92)) := fun _ => by kernel_rfl
        have hrl : ∀ q, row = some q → q < wr.heap.size := fun q hq => (hown.lt q (hrw.trans hq)).2
        have hU0 : ∀ q ∈ ([(23, fun W => W.ownsRow w.heap.size 92 2 (.slice A0 k c0) k (((l.take k).map (turnB x5)).flatMap blkCells))] : List (Nat × (World → Prop))), q.2 wr.drew := by
          intro q hq
          obtain rfl := List.mem_singleton.1 hq
          exact hown.kept (only_of_below (Below.drew (Below.refl _ _)) none) (Classical.em _)
        have hUs : ∀ q ∈ ([(23, fun W => W.ownsRow w.heap.size 92 2 (.slice A0 k c0) k (((l.take k).map (turnB x5)).flatMap blkCells))] : List (Nat × (World → Prop))), ∀ i w w', i ≠ q.1 → RApp 23 row i w w' → q.2 w → q.2 w' := by
          intro q hq i w w' hi hr hw
          obtain rfl := List.mem_singleton.1 hq
          exact hw.kept (only_of_below (hr.below hi) none) (Classical.em _)
        have hpost : ∀ v' w', Out (fun i => row = some i) wr w' → w'.ownsRow w.heap.size 92 2 v' (k + 1) (((l.take k).map (turnB x5)).flatMap blkCells ++ [.int .u32 ((p1 + x5) % 4294967296), .int .u32 ((p2 + x5) % 4294967296)]) →
            OwnB w v' ((l.take (k + 1)).map (turnB x5)) w' ∧ Blk w' gs 30 #[.int .u32 x0, .int .u16 x1, .int .u32 x2, .int .u16 x3, .int .u32 ((s4 + x4) % 4294967296), .int .u32 a5, .int .u8 s6, .int .u16 s7, .int .u16 s8, .int .i64 s9, .bool s10, .slice (some ⟨rb, off, none⟩) n c, .bool s12, .int .u32 s13, .int .u32 s14, .string s15] ∧ Blk w' gx 46 #[.int .u32 x0, .int .u16 x1, .int .u32 x2, .int .u16 x3, .int .u32 x4, .int .u32 x5, .int .u32 x6, .int .u32 x7, .int .i64 x8, .int .i64 x9] ∧ Blk w' gr 30 #[.int .u32 0, .int .u16 0, .int .u32 0, .int .u16 0, .int .u32 0, .int .u32 0, .int .u8 0, .int .u16 0, .int .u16 0, .int .i64 0, .bool false, .slice none 0 0, .bool false, .int .u32 0, .int .u32 0, .string ⟨#[]⟩] ∧ Below w.heap.size w w' := by
          intro v' w' hW ho
          refine ⟨?_, (hW.block gs hs3.lt t1).trans hs3, (hW.block gx hx3.lt t2).trans hx3, (hW.block gr hr3.lt t3).trans hr3, hB3.trans (hW.below hB3.size (fun i hi e => by have := (hown.lt i (hrw.trans e)).1; omega))⟩
          unfold OwnB
          rw [hnew, List.flatMap_append, List.length_append, hml]
          exact ho
        have hsz : w.heap.size ≤ wr.heap.size := hB3.size
        go_upto_region 10 with fail
        clear c11 d5 e0 e1 hown hs3 hx3 hr3 hB3 hnew hml hkl hp hcc t1 t2 t3 t4 kc
        have Hi := Lib.hid hi
        clear hi
        have H0 := Lib.hid h0
        clear h0
        have H1 := Lib.hid h1
        clear h1
        have H2 := Lib.hid h2
        clear h2
        have Rb1 := Lib.hid rb1
        clear rb1
        have Hrl := Lib.hid hrl
        clear hrl
        have HU0 := Lib.hid hU0
        clear hU0
        have HUs := Lib.hid hUs
        clear hUs
        have Hpost := Lib.hid hpost
        clear hpost
        have Hsz := Lib.hid hsz
        clear hsz
        have HS0 := Lib.hid hS0
        clear hS0
        have Hrw := Lib.hid hrw
        clear hrw
        refine wp_region_flowu 24 (fun W => Out (fun i => row = some i) wr W) (RApp 23 row) [(23, fun W => W.ownsRow w.heap.size 92 2 (.slice A0 k c0) k (((l.take k).map (turnB x5)).flatMap blkCells))] (by kernel_rfl) (by kernel_rfl) (by kernel_rfl) RApp.refl HUs.out HU0.out HS0.out ?_
        simp only [List.take_succ_cons, List.take_zero, List.drop_succ_cons, List.drop_zero]
        repeat (refine flowu_quiet RApp.refl rfl rfl rfl rfl ?_; intro K hK; go_big_quiet_op; go_big_quiet_on)
        refine flowx_build wr.heap.size (E := 92) #[(0, .agg #[.int .u32 ((p1 + x5) % 4294967296), .int .u32 ((p2 + x5) % 4294967296)])] ?_ #[.int .u32 ((p1 + x5) % 4294967296), .int .u32 ((p2 + x5) % 4294967296)] Rb1.out (fun w w' h hb => Out.trans h (Out.of_below (O := fun _ => False) hb) (fun _ _ e => e.elim)) (fun w h => h.size) Hrl.out rfl rfl rfl wr ?_
        focus (simp only [List.map_toArray, List.map_cons, List.map_nil]; rfl)
        intro K hK; go_big_quiet_op; go_big_quiet_on
        refine flowx_append wr.heap.size w.heap.size i0 _ 2 8 Try.underlying26 Hi.out H0.out H1.out H2.out rfl (by decide) (.slice A0 k c0) k (((l.take k).map (turnB x5)).flatMap blkCells) 1 #[.int .u32 ((p1 + x5) % 4294967296), .int .u32 ((p2 + x5) % 4294967296)] 0 rfl rfl rfl (of_decide_eq_true rfl) (fun f => rfl) Hrw.out rfl (fun w hw hut => hut _ List.mem_cons_self rfl) rfl (by intro u hu; simp at hu; rcases hu with rfl | rfl <;> rfl) (by simp only [maxLen]; omega) (by omega) (fun w h => Nat.le_trans Hsz.out h.size) (fun w h => h.size) (fun w w' h hg => Out.trans h (Out.mono (O := fun i => row = some i) ⟨hg.os, hg.tape, hg.output, hg.size, fun i hi hn => hg.block i hi (fun e => hn e.symm)⟩ (fun _ _ e => e)) (fun _ _ e => e)) rfl rfl wr ?_
        intro K hK; go_big_quiet_op; go_big_quiet_on
        refine flowu_nil ?_
        intro W3 f hW hF
        obtain ⟨v', hv', hrow', _⟩ := hF _ (List.mem_cons_self)
        clear hF
        injection hv' with hv'
        simp only [fillW, Act.put, List.setIfInBounds_toArray, List.set_cons_succ, List.set_cons_zero]
        rw [hv']
        generalize f 59 = v59
        have hp1 := Hpost.out v' W3 hW hrow'
        clear hv' hrow' hW ne q11 q5 q0 q1
        have Hp1 := Lib.hid hp1
        clear hp1
        go_wp2_with fail
        go_roundw
        case rel => exact ⟨k + 1, by go_num, by omega, fun h => absurd h (Nat.succ_ne_zero k), Hp1.out⟩
        case measure => simp [intOf]; omega
      · have hke : k = n := by omega
        have hlk : l.take k = l := List.take_of_length_le (by rw [← Hl.out]; omega)
        rw [hlk] at hown
        have j1 : (n : Int) ≤ (k : Int) := by omega
        have f11 := hs3.frozen 11
        have c11 := hs3.cell 11
        have c12 := hs3.cell 12
        simp at c11 c12
        have t1 := own_blk_ne hown hs3 (by decide)
        have Hke := Lib.hid hke
        clear hke
        go_upto_if 66 with fail
        have hs4 : Blk (wr.setCell ⟨gs, 11, none⟩ (.slice A0 k c0)) gs 30 #[.int .u32 x0, .int .u16 x1, .int .u32 x2, .int .u16 x3, .int .u32 ((s4 + x4) % 4294967296), .int .u32 a5, .int .u8 s6, .int .u16 s7, .int .u16 s8, .int .i64 s9, .bool s10, .slice A0 k c0, .bool s12, .int .u32 s13, .int .u32 s14, .string s15] := by
          have := hs3.set_ 11 (.slice A0 k c0)
          simpa using this
        have hx4 := hx3.far (p := ⟨gs, 11, none⟩) (Ne.symm hne_s_x) (.slice A0 k c0)
        have hr4 := hr3.far (p := ⟨gs, 11, none⟩) (Ne.symm hne_s_r) (.slice A0 k c0)
        have hB4 := hB3.setCell (p := ⟨gs, 11, none⟩) hle_s (.slice A0 k c0)
        have ho4 := hown.kept (only_set (World.grownBy.refl wr (some gs)) 11 (.slice A0 k c0)) (.inr t1)
        clear hs3 hx3 hr3 hB3 hown c11 c12 f11 hml hlk hk t1
        generalize wr.setCell _ _ = W4 at *
        obtain ⟨v13, e13⟩ : ∃ v, v = (if s12 = true then (s13 + x6) % 4294967296 else s13) := ⟨_, rfl⟩
        obtain ⟨v14, e14⟩ : ∃ v, v = (if s12 = true then (s14 + x7) % 4294967296 else s14) := ⟨_, rfl⟩
        have E13 := Lib.hid e13
        clear e13
        have E14 := Lib.hid e14
        clear e14
        have Hs4 := Lib.hid hs4
        clear hs4
        have Hx4 := Lib.hid hx4
        clear hx4
        have Hr4 := Lib.hid hr4
        clear hr4
        have HB4 := Lib.hid hB4
        clear hB4
        have Ho4 := Lib.hid ho4
        clear ho4
        go_cut [67] from 67 to 82 (fun d wx => Blk wx gs 30 #[.int .u32 x0, .int .u16 x1, .int .u32 x2, .int .u16 x3, .int .u32 ((s4 + x4) % 4294967296), .int .u32 a5, .int .u8 s6, .int .u16 s7, .int .u16 s8, .int .i64 s9, .bool s10, .slice A0 k c0, .bool s12, .int .u32 v13, .int .u32 v14, .string s15] ∧ Blk wx gx 46 #[.int .u32 x0, .int .u16 x1, .int .u32 x2, .int .u16 x3, .int .u32 x4, .int .u32 x5, .int .u32 x6, .int .u32 x7, .int .i64 x8, .int .i64 x9] ∧ Blk wx gr 30 #[.int .u32 0, .int .u16 0, .int .u32 0, .int .u16 0, .int .u32 0, .int .u32 0, .int .u8 0, .int .u16 0, .int .u16 0, .int .i64 0, .bool false, .slice none 0 0, .bool false, .int .u32 0, .int .u32 0, .string ⟨#[]⟩] ∧ wx.ownsRow w.heap.size 92 2 (.slice A0 k c0) k ((l.map (turnB x5)).flatMap blkCells) ∧ Below w.heap.size w wx)
        case first =>
          cases s12 with
          | false =>
            have e1 : v13 = s13 := E13.out
            have e2 : v14 = s14 := E14.out
            have hs5 := Hs4.out
            rw [← e1, ← e2] at hs5
            have Hs5 := Lib.hid hs5
            clear hs5
            clear e1 e2
            go_wp2_with fail
            go_meet
            case rel => exact ⟨Hs5.out, Hx4.out, Hr4.out, Ho4.out, HB4.out⟩
          | true =>
            have e1 : v13 = (s13 + x6) % 4294967296 := E13.out
            have e2 : v14 = (s14 + x7) % 4294967296 := E14.out
            have hs4 := Hs4.out
            have hx4 := Hx4.out
            have hr4 := Hr4.out
            have hB4 := HB4.out
            have ho4 := Ho4.out
            have c13 := hs4.cell 13
            have c14 := hs4.cell 14
            have d6 := hx4.cell 6
            have d7 := hx4.cell 7
            simp at c13 c14 d6 d7
            have fs := hs4.frozen
            have E1 := Lib.hid e1
            have E2 := Lib.hid e2
            clear e1 e2
            have hs5 : Blk ((W4.setCell ⟨gs, 13, none⟩ (.int .u32 ((s13 + x6) % 4294967296))).setCell ⟨gs, 14, none⟩ (.int .u32 ((s14 + x7) % 4294967296))) gs 30 #[.int .u32 x0, .int .u16 x1, .int .u32 x2, .int .u16 x3, .int .u32 ((s4 + x4) % 4294967296), .int .u32 a5, .int .u8 s6, .int .u16 s7, .int .u16 s8, .int .i64 s9, .bool s10, .slice A0 k c0, .bool true, .int .u32 ((s13 + x6) % 4294967296), .int .u32 ((s14 + x7) % 4294967296), .string s15] := by
              have := ((hs4.set_ 13 (.int .u32 ((s13 + x6) % 4294967296))).set_ 14 (.int .u32 ((s14 + x7) % 4294967296)))
              simpa using this
            have hx5 := Blk.far (Blk.far hx4 (p := ⟨gs, 13, none⟩) (Ne.symm hne_s_x) (.int .u32 ((s13 + x6) % 4294967296))) (p := ⟨gs, 14, none⟩) (Ne.symm hne_s_x) (.int .u32 ((s14 + x7) % 4294967296))
            have hr5 := Blk.far (Blk.far hr4 (p := ⟨gs, 13, none⟩) (Ne.symm hne_s_r) (.int .u32 ((s13 + x6) % 4294967296))) (p := ⟨gs, 14, none⟩) (Ne.symm hne_s_r) (.int .u32 ((s14 + x7) % 4294967296))
            have hg5 := only_set (only_set (World.grownBy.refl W4 (some gs)) 13 (.int .u32 ((s13 + x6) % 4294967296))) 14 (.int .u32 ((s14 + x7) % 4294967296))
            have ho5 := ho4.kept hg5 (.inr (own_blk_ne ho4 hs4 (by decide)))
            have hB5 := below_only hB4 hg5 hle_s hB4.size
            have Hs5 := Lib.hid hs5
            clear hs5
            have Hx5 := Lib.hid hx5
            clear hx5
            have Hr5 := Lib.hid hr5
            clear hr5
            have Ho5 := Lib.hid ho5
            clear ho5
            have HB5 := Lib.hid hB5
            clear hB5
            clear hs4 hx4 hr4 hB4 ho4 hg5 Hs4 Hx4 Hr4 HB4 Ho4
            go_wp2_with fail
            go_meet
            case rel =>
              rw [E1.out, E2.out]
              exact ⟨Hs5.out, Hx5.out, Hr5.out, Ho5.out, HB5.out⟩
        case rest =>
          obtain ⟨hs5, hx5, hr5, ho5, hB5⟩ := hcut
          generalize hWc : wc = W5 at *
          clear hWc Hs4 Hx4 Hr4 HB4 Ho4
          have c7 := hs5.cell 7
          have f7 := hs5.frozen 7
          have d8 := hx5.cell 8
          have d9 := hx5.cell 9
          simp at c7 d8 d9
          have hwn := fun W => rwin_any s7 x8 x9 W hw0 hw1
          obtain ⟨wn, hwe⟩ : ∃ z, z = winT s7 x8 x9 := ⟨_, rfl⟩
          rw [← hwe] at hwn
          have hs6 : Blk (W5.setCell ⟨gs, 7, none⟩ (.int .u16 wn)) gs 30 #[.int .u32 x0, .int .u16 x1, .int .u32 x2, .int .u16 x3, .int .u32 ((s4 + x4) % 4294967296), .int .u32 a5, .int .u8 s6, .int .u16 wn, .int .u16 s8, .int .i64 s9, .bool s10, .slice A0 k c0, .bool s12, .int .u32 v13, .int .u32 v14, .string s15] := by
            have := hs5.set_ 7 (.int .u16 wn)
            simpa using this
          have hr6 := hr5.far (p := ⟨gs, 7, none⟩) (Ne.symm hne_s_r) (.int .u16 wn)
          have ho6 := ho5.kept (only_set (World.grownBy.refl W5 (some gs)) 7 (.int .u16 wn)) (.inr (own_blk_ne ho5 hs5 (by decide)))
          have hB6 := hB5.setCell (p := ⟨gs, 7, none⟩) hle_s (.int .u16 wn)
          have Hwn := Lib.hid hwn
          clear hwn
          have Hwe := Lib.hid hwe
          clear hwe
          have Hs6 := Lib.hid hs6
          clear hs6
          have Hr6 := Lib.hid hr6
          clear hr6
          have Ho6 := Lib.hid ho6
          clear ho6
          have HB6 := Lib.hid hB6
          clear hB6
          clear hs5 hx5 hr5 ho5 hB5
          go_wp2_with fail
          (with_reducible refine (Hwn.out _).mono ?_)
          rintro e w9 ⟨rfl, rfl⟩
          go_upto_region 16 with fail
          generalize W5.setCell _ _ = W6 at *
          clear c7 f7 d8 d9
          have hs6 := Hs6.out
          have hr6 := Hr6.out
          have dd0 := hr6.cell 0
          have dd1 := hr6.cell 1
          have dd2 := hr6.cell 2
          have dd3 := hr6.cell 3
          have dd4 := hr6.cell 4
          have dd5 := hr6.cell 5
          have dd6 := hr6.cell 6
          have dd7 := hr6.cell 7
          have dd8 := hr6.cell 8
          have dd9 := hr6.cell 9
          have dd10 := hr6.cell 10
          have dd11 := hr6.cell 11
          have dd12 := hr6.cell 12
          have dd13 := hr6.cell 13
          have dd14 := hr6.cell 14
          have dd15 := hr6.cell 15
          simp at dd0 dd1 dd2 dd3 dd4 dd5 dd6 dd7 dd8 dd9 dd10 dd11 dd12 dd13 dd14 dd15
          have fr := hr6.frozen
          have hlen : (l.map (turnB x5)).length = k := by rw [List.length_map, ← Hl.out]; exact Hke.out.symm
          have Hlen := Lib.hid hlen
          clear hlen
          clear hs6 hr6
          go_wp2_with (first | (refine wpl_load Hs6.out segU segI rfl _ rfl rfl ?_))
          generalize hWf : World.setCell _ _ _ = Wf
          have hf : Blk Wf gr 30 #[.int .u32 x0, .int .u16 x1, .int .u32 x2, .int .u16 x3, .int .u32 ((s4 + x4) % 4294967296), .int .u32 a5, .int .u8 s6, .int .u16 wn, .int .u16 s8, .int .i64 s9, .bool s10, .slice A0 k c0, .bool s12, .int .u32 v13, .int .u32 v14, .string s15] := by
            rw [← hWf]
            have := ((((((((((((((((Hr6.out.set_ 0 (.int .u32 x0)).set_ 1 (.int .u16 x1)).set_ 2 (.int .u32 x2)).set_ 3 (.int .u16 x3)).set_ 4 (.int .u32 ((s4 + x4) % 4294967296))).set_ 5 (.int .u32 a5)).set_ 6 (.int .u8 s6)).set_ 7 (.int .u16 wn)).set_ 8 (.int .u16 s8)).set_ 9 (.int .i64 s9)).set_ 10 (.bool s10)).set_ 11 (.slice A0 k c0)).set_ 12 (.bool s12)).set_ 13 (.int .u32 v13)).set_ 14 (.int .u32 v14)).set_ 15 (.string s15))
            simpa using this
          have hBf : Below w.heap.size w Wf := by
            rw [← hWf]
            repeat (refine Below.setCell ?_ hle_r _)
            exact HB6.out
          have hgf : W6.grownBy Wf (some gr) := by
            rw [← hWf]
            repeat (refine only_set ?_ _ _)
            exact World.grownBy.refl _ _
          have hof := Ho6.out.kept hgf (.inr (own_blk_ne Ho6.out Hr6.out (by decide)))
          clear hWf hgf dd0 dd1 dd2 dd3 dd4 dd5 dd6 dd7 dd8 dd9 dd10 dd11 dd12 dd13 dd14 dd15 fr
          have z0 := hf.cell 0
          have z1 := hf.cell 1
          have z2 := hf.cell 2
          have z3 := hf.cell 3
          have z4 := hf.cell 4
          have z5 := hf.cell 5
          have z6 := hf.cell 6
          have z7 := hf.cell 7
          have z8 := hf.cell 8
          have z9 := hf.cell 9
          have z10 := hf.cell 10
          have z11 := hf.cell 11
          have z12 := hf.cell 12
          have z13 := hf.cell 13
          have z14 := hf.cell 14
          have z15 := hf.cell 15
          simp at z0 z1 z2 z3 z4 z5 z6 z7 z8 z9 z10 z11 z12 z13 z14 z15
          have hC : turnedC s4 s5 s6 s7 s8 s9 s10 s12 s13 s14 s15 x0 x1 x2 x3 x4 x5 x6 x7 x8 x9 (.slice A0 k c0) = #[.int .u32 x0, .int .u16 x1, .int .u32 x2, .int .u16 x3, .int .u32 ((s4 + x4) % 4294967296), .int .u32 a5, .int .u8 s6, .int .u16 wn, .int .u16 s8, .int .i64 s9, .bool s10, .slice A0 k c0, .bool s12, .int .u32 v13, .int .u32 v14, .string s15] := by
            simp [turnedC, Hwe.out, Ha5.out, E13.out, E14.out]
          refine bodyPost_ret (v := .agg #[.int .u32 x0, .int .u16 x1, .int .u32 x2, .int .u16 x3, .int .u32 ((s4 + x4) % 4294967296), .int .u32 a5, .int .u8 s6, .int .u16 wn, .int .u16 s8, .int .i64 s9, .bool s10, .slice A0 k c0, .bool s12, .int .u32 v13, .int .u32 v14, .string s15]) (by simp [results, Try.results24, go_sem, z0, z1, z2, z3, z4, z5, z6, z7, z8, z9, z10, z11, z12, z13, z14, z15]) rfl ⟨A0, c0, fun h => Hz2.out (by rw [← Hlen.out, h]; rfl), ?_, ?_, hBf⟩
          · rw [Hlen.out, hC]
          · unfold OwnB
            rw [Hlen.out]
            exact hof
end Go.Proofs.Ytengegcnocdkoaa
end
section
namespace Go.Proofs.Ytengegcnocdkoaa
open Go.RowKit
def RowB (w : World) (g : Nat) (M : List UInt8) : Prop := ∃ (cs : Array Value) (lo hi : Nat), w.heap[g]? = some (.cells cs 5 (lo, hi)) ∧ M.length ≤ lo ∧ M.length ≤ cs.size ∧ ∀ (j : Nat) (c : UInt8), M[j]? = some c → cs[j]? = some (u8v c)
theorem RowB.lt {w : World} {g : Nat} {M : List UInt8} (h : RowB w g M) : g < w.heap.size := by
  obtain ⟨cs, lo, hi, h, _⟩ := h
  exact (Array.getElem?_eq_some_iff.1 h).1
theorem RowB.kept {w w' : World} {g : Nat} {M : List UInt8} (h : RowB w g M) (e : w'.heap[g]? = w.heap[g]?) : RowB w' g M := by
  obtain ⟨cs, lo, hi, h1, r⟩ := h
  exact ⟨cs, lo, hi, e.trans h1, r⟩
theorem RowB.below {w w' : World} {g B : Nat} {M : List UInt8} (h : RowB w g M) (hb : Below B w w') (hg : g < B) : RowB w' g M := h.kept (hb.block g hg)
theorem RowB.grown {w w' : World} {g : Nat} {row : Option Nat} {M : List UInt8} (h : RowB w g M) (hb : w.grownBy w' row) (hg : some g ≠ row) : RowB w' g M := h.kept (hb.block g h.lt hg)
theorem RowB.cell {w : World} {g j : Nat} {M : List UInt8} (h : RowB w g M) {c : UInt8} (hj : M[j]? = some c) : w.cell? ⟨g, j, none⟩ = some (u8v c) := by
  obtain ⟨cs, lo, hi, h1, _, _, h2⟩ := h
  rw [cell_of_row w g j cs _ _ h1]
  exact h2 j c hj
theorem RowB.frozen {w : World} {g j : Nat} {M : List UInt8} (h : RowB w g M) (hj : j < M.length) : w.frozen? ⟨g, j, none⟩ = false := by
  obtain ⟨cs, lo, hi, h1, h2, _⟩ := h
  simp [World.frozen?, h1]
  omega
theorem RowB.set_ {w : World} {g k : Nat} {M : List UInt8} (h : RowB w g M) (hk : k < M.length) (c : UInt8) : RowB (w.setCell ⟨g, k, none⟩ (u8v c)) g (M.set k c) := by
  obtain ⟨cs, lo, hi, h1, h2, h3, h4⟩ := h
  refine ⟨cs.setIfInBounds k (u8v c), lo, hi, by simp [World.setCell, Array.getElem?_modify, h1], by simpa using h2, by simpa using h3, fun j d hj => ?_⟩
  rw [List.getElem?_set] at hj
  rw [Array.getElem?_setIfInBounds]
  by_cases e : k = j
  · subst e
    rw [if_pos rfl, if_pos hk] at hj
    cases hj
    rw [if_pos rfl, if_pos (by omega)]
  · rw [if_neg e] at hj
    rw [if_neg e]
    exact h4 j d hj
theorem set_parts (M : List UInt8) (k m : Nat) (c : UInt8) (r : List UInt8) (hk : k < M.length) (hr : r.length = m) : (M.set k c).take (k + 1) ++ r ++ (M.set k c).drop (k + 1 + m) = M.take k ++ (c :: r) ++ M.drop (k + (m + 1)) := by
  have e : M.set k c = (M.take k ++ [c]) ++ M.drop (k + 1) := by rw [List.set_eq_take_append_cons_drop, if_pos hk]; simp
  have hl : (M.take k ++ [c]).length = k + 1 := by rw [List.length_append, List.length_take]; simp; omega
  rw [e, List.take_left' hl, List.drop_append, List.drop_of_length_le (by omega), List.nil_append, hl, List.drop_drop]
  rw [show k + 1 + (k + 1 + m - (k + 1)) = k + (m + 1) by omega]
  simp
theorem storeB {P : Program} (g off : Nat) : ∀ (vs : List UInt8) (i : Nat) (W : World) (M : List UInt8), RowB W g M → off + i + vs.length ≤ M.length →
    ∃ W', (storeCells ⟨g, off, none⟩ (vs.map u8v) i).run P W = .ok () W' ∧ RowB W' g (M.take (off + i) ++ vs ++ M.drop (off + i + vs.length)) ∧ W.grownBy W' (some g)
  | [], i, W, M, h, _ => ⟨W, rfl, by simpa using h, World.grownBy.refl _ _⟩
  | v :: r, i, W, M, h, hl => by
    have ha : (⟨g, off, none⟩ : Addr).add i = ⟨g, off + i, none⟩ := add_plain _ _ _
    simp only [List.length_cons] at hl
    have hi : off + i < M.length := by omega
    have hc := h.cell (List.getElem?_eq_getElem hi)
    have hs : (store ⟨g, off + i, none⟩ (u8v v)).run P W = .ok () (W.setCell ⟨g, off + i, none⟩ (u8v v)) := by
      rw [run_store P W _ (u8v v) .plain rfl, hc, h.frozen hi]
      rfl
    obtain ⟨W', h1, h2, h3⟩ := storeB (P := P) g off r (i + 1) _ _ (h.set_ hi v) (by rw [List.length_set]; omega)
    refine ⟨W', ?_, ?_, ?_⟩
    · rw [List.map_cons]
      unfold storeCells
      rw [ha, Sem.run_bind, hs]
      exact h1
    · have e := set_parts M (off + i) r.length v r hi rfl
      rw [show off + (i + 1) = off + i + 1 by omega, e] at h2
      exact h2
    · have h4 : W.grownBy (W.setCell ⟨g, off + i, none⟩ (u8v v)) (some g) := only_set (World.grownBy.refl _ _) _ _
      exact ⟨h3.os.trans h4.os, h3.tape.trans h4.tape, h3.output.trans h4.output, Nat.le_trans h4.size h3.size, fun i hi hn => (h3.block i (Nat.lt_of_lt_of_le hi h4.size) hn).trans (h4.block i hi hn)⟩
/-- '[]byte(s)' -/
theorem run_bytes_rowB (w : World) (s : ByteArray) (l : List UInt8) (hl : s.data.toList = l) : ∃ (W1 : World) (cap : Nat),
    (convert 9 51 (.string s)).run Try.prog w = .ok (.slice (some ⟨w.heap.size, 0, none⟩) l.length cap) W1 ∧ Below w.heap.size w W1 ∧ W1.heap.size = w.heap.size + 1 ∧ RowB W1 w.heap.size l ∧ l.length ≤ cap := by
  have e : s.size = l.length := by rw [← hl]; simp
  have hr := Lib.run_convert_string_bytes (P := Try.prog) w 9 51 5 s Try.underlying9 Try.underlying51 Try.underlying5
  refine ⟨_, _, by rw [← e]; exact hr, ?_, Lib.bytesWorld_size .., ?_, ?_⟩
  · refine ⟨?_, ?_, ?_, by rw [Lib.bytesWorld_size]; omega, fun i hi => Lib.bytesWorld_at_old w 5 s i hi⟩
    all_goals unfold Lib.bytesWorld World.freeze; split <;> rfl
  · refine ⟨_, _, _, Lib.bytesWorld_at_new w 5 s, ?_, ?_, fun j c hj => ?_⟩
    · simp [Lib.bytesCells]; omega
    · simp [Lib.bytesCells]; omega
    · rw [← hl] at hj
      have hjl : j < s.data.size := by
        have := (List.getElem?_eq_some_iff.1 hj).1
        simpa using this
      have hj' : s.data[j]? = some c := by rw [← hj]; simp
      unfold Lib.bytesCells
      rw [Array.getElem?_append_left (by simpa using hjl), Array.getElem?_map, hj']
      rfl
  · rw [← e]
    exact grownCap_ge _ _ _ _
/-- 'copy(b[k:], t)' -/
theorem run_copy_rowB (w : World) (g off dLen dCap : Nat) (s : ByteArray) (M l : List UInt8) (hs : s.data.toList = l) (hg : RowB w g M) (hd : l.length ≤ dLen) (hfit : off + l.length ≤ M.length) :
    ∃ w', (Builtin.copy_ #[51, 9] 3 #[.slice (some ⟨g, off, none⟩) dLen dCap, .string s]).run Try.prog w = .ok (.int .i64 (l.length : Int)) w' ∧ RowB w' g (M.take off ++ l ++ M.drop (off + l.length)) ∧ w.grownBy w' (some g) := by
  have e : s.size = l.length := by rw [← hs]; simp
  obtain ⟨w', h1, h2, h3⟩ := storeB (P := Try.prog) g off l 0 w M hg (by simpa using hfit)
  rw [Nat.add_zero] at h2
  refine ⟨w', ?_, h2, h3⟩
  have hz : (Try.prog.info? 5).map (·.size) = some 1 := by kernel_rfl
  cases hq : Try.prog.info? 5 with
  | none => simp [hq] at hz
  | some i =>
    have htk : List.take (Nat.min s.size dLen) (List.map (fun b : UInt8 => Value.int IntKind.u8 (b.toNat : Int)) s.data.toList) = l.map u8v := by
      rw [hs, e, show Nat.min l.length dLen = l.length from Nat.min_eq_left hd, List.take_of_length_le (by simp)]
      rfl
    simp [Builtin.copy_, run_underlying Try.underlying51, Builtin.lenOf, Builtin.firstCells, sizeOf, typeInfo, hq]
    rw [htk, h1]
    simp [Result.andThen, goInt, e, Nat.min_eq_left hd]
end Go.Proofs.Ytengegcnocdkoaa
end
section
set_option maxRecDepth 20000
namespace Go.Proofs.Ytengegcnocdkoaa
open Go.RowKit Go.BigFrame
set_option maxHeartbeats 4000000 in
theorem sumAt_any (W : World) (gb gr cap i : Nat) (M : List UInt8) (c0 c1 : UInt8) (h0 : M[i]? = some c0) (h1 : M[i + 1]? = some c1) (hb : Blk W gb 51 #[.slice (some ⟨gr, 0, none⟩) M.length cap]) (hr : RowB W gr M) (hl : M.length ≤ 131072) :
    Calls Try.prog 45 #[.int .i64 (i : Int), .pointer (some ⟨gb, 0, none⟩)] W fun e w' => e = .returned (.int .u16 ((c0.toNat * 256 + c1.toNat : Nat) : Int)) ∧ Below W.heap.size W w' := by
  have b0 := hb.cell 0
  simp at b0
  have x0 := hr.cell h0
  have x1 := hr.cell h1
  have l1 : i + 1 < M.length := (List.getElem?_eq_some_iff.1 h1).1
  have i1 : (i : Int) + 1 < (M.length : Int) := by omega
  have i2 : (i : Int) < (M.length : Int) := by omega
  have i3 : (0 : Int) ≤ (i : Int) := by omega
  have i4 : (i : Int) ≤ 131072 := by omega
  have hor := or_word c0.toNat c1.toNat c0.toNat_lt c1.toNat_lt
  have k0 := c0.toNat_lt
  have k1 := c1.toNat_lt
  have hBn : ∀ m, Below W.heap.size W (W.drewN m) := below_drewN (Below.refl _ _)
  unfold u8v at x0 x1
  generalize c0.toNat = n0 at *
  generalize c1.toNat = n1 at *
  have hw : IntKind.u16.wrap ((n0 : Int) * 256) = (n0 : Int) * 256 := by rw [IntKind.wrap_u16]; omega
  have e0 : IntKind.u16.wrap (n0 : Int) = (n0 : Int) := by rw [IntKind.wrap_u16]; omega
  have e1 : IntKind.u16.wrap (n1 : Int) = (n1 : Int) := by rw [IntKind.wrap_u16]; omega
  clear h0 h1 hb hr hl l1 k0 k1
  generalize M.length = n at *
  have HBn := Lib.hid hBn
  clear hBn
  have Hor := Lib.hid hor
  clear hor
  have Hw := Lib.hid hw
  clear hw
  have E0 := Lib.hid e0
  clear e0
  have E1 := Lib.hid e1
  clear e1
  go_enter Try.func45, Try.ntmps45
  go_upto_region 1 with fail
  go_quiet (fail)
  go_wp2
  go_ret
  exact ⟨ret_int (by rw [E0.out, E1.out, Hw.out]; exact Hor.out), HBn.out _⟩
end Go.Proofs.Ytengegcnocdkoaa
end
