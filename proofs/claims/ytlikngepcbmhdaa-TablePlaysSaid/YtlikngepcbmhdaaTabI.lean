/- Layer 12 (table), of numbers: New, Put, Bind, Find, Drop, Len. -/
import Derived.Test.YtlikngepcbmhdaaTab
import Derived.Deep.DeepCutAuto
set_option linter.unusedVariables false
set_option linter.unusedSimpArgs false
namespace Go.Proofs.Ytlikngepcbmhdaa
open Go.ChangeShapes Go.WideShapes Go.ChangeAt Go.RowKit Go.Maps

def TI : TT := ⟨67, 70⟩
theorem eq_map_i (a : Nat) (w : World) : (binOp .eql 64 (.map (some a)) (.map none)).run Try.prog w = .ok (.bool false) w := by kernel_rfl
set_option maxRecDepth 100000 in
set_option maxHeartbeats 1000000 in
theorem put_there_i (w : World) (t : Nat) (s : Tab) (p : Pr) (v : Int) (h : TabAt TI w t s) (hp : p.wf) (hby : s.by_ p ≠ 0) :
    Calls Try.prog 8 #[.pointer (some ⟨t, 0, none⟩), .agg #[.int .u32 p.a, .int .u16 p.b, .int .u32 p.c, .int .u16 p.d], .int .i64 v] w fun e w' => e = .returned (.tuple #[.int .u64 0, .int .i64 7]) ∧ Below w.heap.size w w' := by
  have i1 : decide ((0 : Int) < (s.by_ p : Int)) = true := by simp; omega
  obtain ⟨q, hq⟩ : ∃ q : Int, q = (s.by_ p : Int) := ⟨_, rfl⟩
  have hl := fun o n => ((h.alloc o).drewN n).look_by hp
  rw [← hq] at i1 hl
  have hc0 := h.blk.cell 0
  have hc1 := h.blk.cell 1
  have hc2 := h.blk.cell 2
  have hc3 := h.blk.cell 3
  have hlt := h.blk.lt
  simp [tabCells] at hc0 hc1 hc2 hc3
  have hem := eq_map_i s.ba
  generalize s.bb = bb at *
  clear hq hby h
  obtain ⟨pa, pb, pc, pd⟩ := p
  clear hp
  go_enter Try.func8, Try.ntmps8
  go_wp2
  go_quiet (fail)
  go_wp2
  go_ret2
  exact ⟨rfl, below_drewN ((Below.refl _ _).alloc (Nat.le_refl _) _) _⟩
set_option maxRecDepth 100000 in
set_option maxHeartbeats 1000000 in
theorem put_full_i (w : World) (t : Nat) (s : Tab) (p : Pr) (v : Int) (h : TabAt TI w t s) (hp : p.wf) (hby : s.by_ p = 0) (hn : s.most ≤ s.n) :
    Calls Try.prog 8 #[.pointer (some ⟨t, 0, none⟩), .agg #[.int .u32 p.a, .int .u16 p.b, .int .u32 p.c, .int .u16 p.d], .int .i64 v] w fun e w' => e = .returned (.tuple #[.int .u64 0, .int .i64 6]) ∧ Below w.heap.size w w' := by
  have hl := fun o n => ((h.alloc o).drewN n).look_by hp
  rw [hby] at hl
  have hlen := fun o n => ((h.alloc o).drewN n).all_.len Try.underlying64 3
  obtain ⟨N, hN⟩ : ∃ N : Int, N = (s.n : Int) := ⟨_, rfl⟩
  obtain ⟨M, hM⟩ : ∃ M : Int, M = (s.most : Int) := ⟨_, rfl⟩
  have i1 : M ≤ N := by omega
  have hc0 := h.blk.cell 0
  have hc1 := h.blk.cell 1
  have hc2 := h.blk.cell 2
  have hc3 := h.blk.cell 3
  have hlt := h.blk.lt
  simp [tabCells] at hc0 hc1 hc2 hc3
  rw [← hN] at hlen
  rw [← hM] at hc0
  have hem := eq_map_i s.ba
  generalize s.bb = bb at *
  generalize s.ba = ba at *
  clear hN hM hby h hn
  obtain ⟨pa, pb, pc, pd⟩ := p
  clear hp
  go_enter Try.func8, Try.ntmps8
  go_wp2
  go_quiet (fail)
  go_wp2
  go_quiet (fail)
  go_wp2
  go_ret2
  exact ⟨rfl, below_drewN (below_drewN ((Below.refl _ _).alloc (Nat.le_refl _) _) _) _⟩
set_option maxRecDepth 100000 in
set_option maxHeartbeats 1000000 in
theorem put_ok_i (w : World) (t : Nat) (s : Tab) (p : Pr) (v : Int) (h : TabAt TI w t s) (hp : p.wf) (hby : s.by_ p = 0) (hn : s.n < s.most) (hl2 : s.last < 1000000) :
    Calls Try.prog 8 #[.pointer (some ⟨t, 0, none⟩), .agg #[.int .u32 p.a, .int .u16 p.b, .int .u32 p.c, .int .u16 p.d], .int .i64 v] w (PutPost TI w t s (.int .i64 v) p) := by
  have hl := fun o n => ((h.alloc o).drewN n).look_by hp
  rw [hby] at hl
  have hlen := fun o n => ((h.alloc o).drewN n).all_.len Try.underlying64 3
  obtain ⟨N, hN⟩ : ∃ N : Int, N = (s.n : Int) := ⟨_, rfl⟩
  obtain ⟨M, hM⟩ : ∃ M : Int, M = (s.most : Int) := ⟨_, rfl⟩
  have i1 : N < M := by omega
  obtain ⟨L, hL⟩ : ∃ L : Int, L = (s.last : Int) := ⟨_, rfl⟩
  have i2 : 0 ≤ L := by omega
  have i3 : L ≤ 1000000 := by omega
  have hc0 := h.blk.cell 0
  have hc1 := h.blk.cell 1
  have hc2 := h.blk.cell 2
  have hc3 := h.blk.cell 3
  have hlt := h.blk.lt
  simp [tabCells] at hc0 hc1 hc2 hc3
  rw [← hN] at hlen
  rw [← hM] at hc0
  rw [← hL] at hc1
  have hfr := h.blk.frozen 1
  have hem := eq_map_i s.ba
  have H := Lib.hid h
  have Hp := Lib.hid hp
  clear hp
  have HN := Lib.hid hN
  clear hN
  have HM := Lib.hid hM
  clear hM
  have HL := Lib.hid hL
  clear hL
  have Hby := Lib.hid hby
  clear hby
  have Hn := Lib.hid hn
  clear hn
  have Hl2 := Lib.hid hl2
  clear hl2
  clear h
  obtain ⟨pa, pb, pc, pd⟩ := p
  go_enter Try.func8, Try.ntmps8
  go_wp2
  go_quiet (fail)
  go_wp2
  go_quiet (fail)
  go_upto_region 8 with fail
  generalize hWx : World.setCell _ _ _ = Wx
  have hk : Blk Wx t 67 #[.int .i64 M, .int .u64 (L + 1), .map (some s.ba), .map (some s.bb)] := by
    rw [← hWx]
    have := (((H.out.blk.alloc (.cells #[.int .u32 pa, .int .u16 pb, .int .u32 pc, .int .u16 pd] 34)).drewN 0).drewN 0).set_ 1 (.int .u64 (L + 1))
    rw [show (tabCells s).setIfInBounds 1 (.int .u64 (L + 1)) = #[.int .i64 M, .int .u64 (L + 1), .map (some s.ba), .map (some s.bb)] by rw [HM.out]; rfl] at this
    exact this
  have hkp : Blk Wx w.heap.size 34 #[.int .u32 pa, .int .u16 pb, .int .u32 pc, .int .u16 pd] := by
    rw [← hWx]
    exact (((Blk.new w 34 #[.int .u32 pa, .int .u16 pb, .int .u32 pc, .int .u16 pd]).drewN 0).drewN 0).far (p := ⟨t, 1, none⟩) (by have := H.out.blk.lt; simp; omega) _
  have hout : Out (fun i => i = t) w Wx := by
    rw [← hWx]
    exact Out.set_ (O := fun i => i = t) (t := t) (Out.of_below (below_drewN ((Below.refl w.heap.size w).alloc (Nat.le_refl _) (.cells #[.int .u32 pa, .int .u16 pb, .int .u32 pc, .int .u16 pd] 34)) _)) rfl 1 _
  clear hWx hl hlen hc0 hc1 hc2 hc3 hlt hem hfr
  obtain ⟨MB, q, stA, stB, hMB, hat, hbt, hla, hlb, hq⟩ := put_two (T := TI) Try.underlying64 (fun _ => by kernel_rfl) H.out Hp.out Hby.out Hl2.out hout
  have hl' := HL.out
  have hS0 : STwo q Wx Wx := Out.refl _ _
  have ht1 : t ≠ q.b1 := by rw [hq.b1]; exact hat.symm
  have ht2 : t ≠ q.b2 := by rw [hq.b2]; exact hbt.symm
  have hp1 : w.heap.size ≠ q.b1 := by rw [hq.b1]; omega
  have hp2 : w.heap.size ≠ q.b2 := by rw [hq.b2]; omega
  have ne : Nonempty (Cls (STwo q Wx)) := ⟨⟨Wx, hS0⟩⟩
  have k0 : ∀ y : Cls (STwo q Wx), y.w.cell? ⟨t, 0, none⟩ = some (.int .i64 M) := fun y => (y.h.blk hk ht1 ht2).cell 0
  have k1 : ∀ y : Cls (STwo q Wx), y.w.cell? ⟨t, 1, none⟩ = some (.int .u64 (L + 1)) := fun y => (y.h.blk hk ht1 ht2).cell 1
  have k2 : ∀ y : Cls (STwo q Wx), y.w.cell? ⟨t, 2, none⟩ = some (.map (some s.ba)) := fun y => (y.h.blk hk ht1 ht2).cell 2
  have k3 : ∀ y : Cls (STwo q Wx), y.w.cell? ⟨t, 3, none⟩ = some (.map (some s.bb)) := fun y => (y.h.blk hk ht1 ht2).cell 3
  have c0 : ∀ y : Cls (STwo q Wx), y.w.cell? ⟨w.heap.size, 0, none⟩ = some (.int .u32 pa) := fun y => (y.h.blk hkp hp1 hp2).cell 0
  have d1 : ∀ y : Cls (STwo q Wx), y.w.cell? ⟨w.heap.size, 1, none⟩ = some (.int .u16 pb) := fun y => (y.h.blk hkp hp1 hp2).cell 1
  have c2 : ∀ y : Cls (STwo q Wx), y.w.cell? ⟨w.heap.size, 2, none⟩ = some (.int .u32 pc) := fun y => (y.h.blk hkp hp1 hp2).cell 2
  have c3 : ∀ y : Cls (STwo q Wx), y.w.cell? ⟨w.heap.size, 3, none⟩ = some (.int .u16 pd) := fun y => (y.h.blk hkp hp1 hp2).cell 3
  have e21 := hq.e21
  have e24 := hq.e24
  have e23 := hq.e23
  have e26 := hq.e26
  rw [← hl'] at e21 e26
  have rb : ∀ W : World, (Instr.box 70 (.agg (entCells ⟨0, .int .i64 v, ⟨pa, pb, pc, pd⟩, pr0, false⟩))).run Try.prog W = .ok (.pointer (some ⟨W.heap.size, 0, none⟩)) (W.alloc (.cells (entCells ⟨0, .int .i64 v, ⟨pa, pb, pc, pd⟩, pr0, false⟩) 70)) := fun _ => by kernel_rfl
  have E21 := Lib.hid e21
  have E23 := Lib.hid e23
  have E24 := Lib.hid e24
  have E26 := Lib.hid e26
  have Rb := Lib.hid rb
  have Hq := Lib.hid hq
  have Hk := Lib.hid hk
  have Hout := Lib.hid hout
  have HMB := Lib.hid hMB
  have HS0 := Lib.hid hS0
  have Hne := Lib.hid (And.intro hat (And.intro hbt (And.intro hla hlb)))
  have Hl' := Lib.hid hl'
  clear e21 e23 e24 e26 rb hq hk hkp hout hMB hS0 hat hbt hla hlb hl' ht1 ht2 hp1 hp2
  refine wp_region_flowu 27 (STwo q Wx) (RTwo q 21 23 24 26) (UTwo q 21 23 24 26) (by kernel_rfl) (by kernel_rfl) (by kernel_rfl) RTwo.refl (UTwo.stays Hq.out.ok ⟨by decide, by decide, by decide⟩) Hq.out.u0 (HS0.out.below (below_n Wx 1)) ?_
  simp only [List.take_succ_cons, List.take_zero, List.drop_succ_cons, List.drop_zero]
  repeat (first
    | (refine flowu_quiet RTwo.refl rfl rfl rfl rfl ?_; intro K hK; go_big_quiet_op; go_big_quiet_on)
    | (refine flowu_nilCheck ⟨t, 0, none⟩ rfl RTwo.refl rfl rfl rfl Wx ?_; intro K hK; go_big_quiet_op; go_big_quiet_on))
  refine flowu_box Wx.heap.size (.agg (entCells ⟨0, .int .i64 v, ⟨pa, pb, pc, pd⟩, pr0, false⟩)) rfl (entCells ⟨0, .int .i64 v, ⟨pa, pb, pc, pd⟩, pr0, false⟩) (ptrNew.two Hq.out.ok) Rb.out (fun _ _ => STwo.below) RTwo.below (fun _ h => h.size) rfl rfl rfl Wx ?_
  intro K hK; go_big_quiet_op; go_big_quiet_on
  repeat (first
    | (refine flowu_quiet RTwo.refl rfl rfl rfl rfl ?_; intro K hK; go_big_quiet_op; go_big_quiet_on)
    | (refine flowu_nilCheck ⟨t, 0, none⟩ rfl RTwo.refl rfl rfl rfl Wx ?_; intro K hK; go_big_quiet_op; go_big_quiet_on))
  refine flowu_entry (.map (some s.ba)) (.int .u64 (L + 1)) rfl rfl (.tuple #[.pointer none, goInt stA]) (F1 q) (F1.stays Hq.out.ok) E21.out rfl rfl rfl Wx ?_
  intro K hK; go_big_quiet_op; go_big_quiet_on
  refine flowu_quiet RTwo.refl rfl rfl rfl rfl ?_; intro K hK; go_big_quiet_op; go_big_quiet_on
  refine flowu_entryStore [60] (F2 q) (.map (some s.ba)) (goInt stA) (fun f => f 60) (F2.stays Hq.out.ok) (fun f => rfl) (fun f => rfl) (fun f => rfl) rfl (fun W f hS hN hut => by
    obtain ⟨g, hg, _⟩ := known_at hN 1 rfl rfl
    injection hg with hg
    obtain ⟨W', r1, r2⟩ := E23.out W g hS (known_w hN 0 rfl rfl) hut
    refine ⟨W', ?_, ?_⟩
    · rw [hg]; exact r1
    · rw [List.map_cons, hg]; exact r2) rfl rfl ?_
  refine flowu_entry (.map (some s.bb)) (.agg #[.int .u32 pa, .int .u16 pb, .int .u32 pc, .int .u16 pd]) rfl rfl (.tuple #[.int .u64 0, goInt stB]) (F3 q) (F3.stays Hq.out.ok) E24.out rfl rfl rfl Wx ?_
  intro K hK; go_big_quiet_op; go_big_quiet_on
  refine flowu_quiet RTwo.refl rfl rfl rfl rfl ?_; intro K hK; go_big_quiet_op; go_big_quiet_on
  refine flowu_entryStore [] (F4 q) (.map (some s.bb)) (goInt stB) (fun f => .int .u64 (L + 1)) (F4.stays Hq.out.ok) (fun f => rfl) (fun f => rfl) (fun f => rfl) rfl (fun W f hS hN hut => by
    exact E26.out W hS (known_w hN 0 rfl rfl) hut) rfl rfl ?_
  refine flowu_nil ?_
  intro W f hW hF
  have h4 := hF _ (List.mem_cons_self)
  have h2 := hF _ (List.mem_cons_of_mem _ (List.mem_cons_of_mem _ (List.mem_cons_self)))
  obtain ⟨g, hg, hge, hgb⟩ := hF _ (List.mem_cons_of_mem _ (List.mem_cons_of_mem _ (List.mem_cons_of_mem _ (List.mem_cons_of_mem _ (List.mem_cons_self)))))
  clear hF
  simp only [List.map_cons, List.map_nil] at h2 h4 hg
  injection hg with hg
  rw [hg] at h2
  have hk' := Hk.out
  rw [HM.out, HL.out] at hk'
  obtain ⟨hpost, hkW⟩ := put_end H.out Hp.out Hby.out Hl2.out hk' Hne.out.1 Hne.out.2.1 Hout.out Hq.out HMB.out hW hge hgb h2 h4 (by decide)
  rw [← HL.out] at hkW
  have c1 := hkW.cell 1
  simp at c1
  have Hpost := Lib.hid hpost
  simp only [fillW, Act.put, List.setIfInBounds_toArray, List.set_cons_succ, List.set_cons_zero]
  generalize f 60 = z60 at *
  clear hpost hkW h2 h4 hg hge hgb hk' k0 k1 k2 k3 c0 d1 c2 c3 ne hW
  go_wp2
  go_ret2
  rw [HL.out]
  exact Hpost.out
end Go.Proofs.Ytlikngepcbmhdaa
