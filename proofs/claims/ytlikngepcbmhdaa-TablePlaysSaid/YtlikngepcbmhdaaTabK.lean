/- Layer 12 (table), of numbers: Bind. -/
import Derived.Test.YtlikngepcbmhdaaTabJ
import Derived.Test.YtlikngepcbmhdaaTabB
set_option linter.unusedVariables false
set_option linter.unusedSimpArgs false
namespace Go.Proofs.Ytlikngepcbmhdaa
open Go.ChangeShapes Go.WideShapes Go.ChangeAt Go.RowKit Go.Maps

set_option maxRecDepth 100000 in
set_option maxHeartbeats 1000000 in
theorem bind_there_i (w : World) (t id : Nat) (s : Tab) (p : Pr) (en : Ent) (h : TabAt TI w t s) (hp : p.wf) (he : s.E id = some en) (hnb : en.bound = false) (hby : s.by_ p ≠ 0) :
    Calls Try.prog 14 #[.pointer (some ⟨t, 0, none⟩), .int .u64 (id : Int), .agg #[.int .u32 p.a, .int .u16 p.b, .int .u32 p.c, .int .u16 p.d]] w fun e w' => e = .returned (.int .i64 7) ∧ Below w.heap.size w w' := by
  have hi1 := (h.ents id en he).2.1
  have hi2 := h.last_le
  have hl := fun o n => ((h.alloc o).drewN n).look_by hp
  have i1 : decide ((0 : Int) < (s.by_ p : Int)) = true := by simp; omega
  obtain ⟨q, hq⟩ : ∃ q : Int, q = (s.by_ p : Int) := ⟨_, rfl⟩
  rw [← hq] at i1 hl
  have hof := fun o => of_i (w.alloc o) t s id (h.alloc o) (by omega)
  have hv : ofV s id = .pointer (some ⟨en.blk, 0, none⟩) := by unfold ofV; rw [he]; rfl
  rw [hv] at hof
  have hc2 := h.blk.cell 2
  have hc3 := h.blk.cell 3
  have hlt := h.blk.lt
  simp [tabCells] at hc2 hc3
  have hke := (h.ents id en he).2.2.1
  have hgt := hke.lt
  have d9 := hke.cell 9
  simp [entCells] at d9
  rw [hnb] at d9
  have hem := eq_map_i s.ba
  generalize s.bb = bb at *
  generalize s.ba = ba at *
  generalize en.blk = g at *
  generalize (id : Int) = idI at *
  have Hof := Lib.hid hof
  clear hof hq hby h he hnb hv hke hi1 hi2
  obtain ⟨pa, pb, pc, pd⟩ := p
  clear hp
  go_enter Try.func14, Try.ntmps14
  go_wp2_with fail
  (with_reducible refine ((Hof.out _)).mono ?_)
  rintro e w' ⟨rfl, rfl⟩
  go_wp2
  go_quiet (fail)
  go_wp2
  go_ret
  exact ⟨rfl, below_drewN ((Below.refl _ _).alloc (Nat.le_refl _) _) _⟩
set_option maxRecDepth 100000 in
set_option maxHeartbeats 2000000 in
theorem bind_ok_i (w : World) (t id : Nat) (s : Tab) (p : Pr) (en : Ent) (v : Int) (h : TabAt TI w t s) (hp : p.wf) (he : s.E id = some en) (hnb : en.bound = false) (hev : en.v = .int .i64 v) (hby : s.by_ p = 0) (hm : s.m + 1 ≤ 2 * s.last) :
    Calls Try.prog 14 #[.pointer (some ⟨t, 0, none⟩), .int .u64 (id : Int), .agg #[.int .u32 p.a, .int .u16 p.b, .int .u32 p.c, .int .u16 p.d]] w (BindPost TI w t s id en p) := by
  have hi1 := (h.ents id en he).2.1
  have hi0 := (h.ents id en he).1
  have hi2 := h.last_le
  have hl := fun o n => ((h.alloc o).drewN n).look_by hp
  rw [hby] at hl
  have hof := fun o => of_i (w.alloc o) t s id (h.alloc o) (by omega)
  have hv : ofV s id = .pointer (some ⟨en.blk, 0, none⟩) := by unfold ofV; rw [he]; rfl
  rw [hv] at hof
  have hc2 := h.blk.cell 2
  have hc3 := h.blk.cell 3
  have hlt := h.blk.lt
  simp [tabCells] at hc2 hc3
  have hke := (h.ents id en he).2.2.1
  have hgt := hke.lt
  have d9 := hke.cell 9
  simp [entCells] at d9
  rw [hnb] at d9
  have hem := eq_map_i s.ba
  obtain ⟨gb, hgb⟩ : ∃ gb, gb = en.blk := ⟨_, rfl⟩
  rw [← hgb] at hof d9 hgt
  obtain ⟨idI, hidI⟩ : ∃ i : Int, i = (id : Int) := ⟨_, rfl⟩
  rw [← hidI] at hof ⊢
  have Hof := Lib.hid hof
  have H := Lib.hid h
  have Hid0 : Hid (id ≠ 0) := Lib.hid (by omega)
  have Hp := Lib.hid hp
  clear hp
  have He := Lib.hid he
  clear he
  have Hnb := Lib.hid hnb
  clear hnb
  have Hev := Lib.hid hev
  clear hev
  have Hby := Lib.hid hby
  clear hby
  have Hm := Lib.hid hm
  clear hm
  have Hgb := Lib.hid hgb
  clear hgb
  have HidI := Lib.hid hidI
  clear hidI
  have Hke := Lib.hid hke
  clear hke
  clear hof h hv hi1 hi2 hi0
  obtain ⟨pa, pb, pc, pd⟩ := p
  go_enter Try.func14, Try.ntmps14
  go_wp2_with fail
  (with_reducible refine ((Hof.out _)).mono ?_)
  rintro e w' ⟨rfl, rfl⟩
  go_wp2
  go_quiet (fail)
  go_upto_region 10 with fail
  generalize hWx : World.drewN _ _ = Wx
  have hbe : Below w.heap.size w Wx := by
    rw [← hWx]
    exact below_drewN ((Below.refl w.heap.size w).alloc (Nat.le_refl _) (.cells #[.int .u32 pa, .int .u16 pb, .int .u32 pc, .int .u16 pd] 34)) _
  have hk : Blk Wx t 67 (tabCells s) := H.out.blk.below hbe hlt
  have hkp : Blk Wx w.heap.size 34 #[.int .u32 pa, .int .u16 pb, .int .u32 pc, .int .u16 pd] := by
    rw [← hWx]
    exact (Blk.new w 34 #[.int .u32 pa, .int .u16 pb, .int .u32 pc, .int .u16 pd]).drewN 0
  have hkx : Blk Wx en.blk 70 (entCells en) := Hke.out.below hbe Hke.out.lt
  clear hWx hl hc2 hc3 hem d9
  have hbe' : s.bb ≠ en.blk := by
    intro e1
    obtain ⟨M2, q, _⟩ := H.out.by_
    obtain ⟨es, c, q1, _⟩ := q.size
    have := Hke.out
    unfold Blk at this
    rw [← e1, q1] at this
    injection this with this
    injection this
  obtain ⟨MB, q, stB, hMB, hat, hbt, hla, hlb, hq⟩ := bind_two (T := TI) (E := 70) (f := bCells en ⟨pa, pb, pc, pd⟩) (gb := en.blk) H.out Hp.out Hby.out Hid0.out hbe'.symm (Out.of_below (O := fun _ => False) hbe)
  have hS0 : SThree q en.blk 70 (bCells en ⟨pa, pb, pc, pd⟩) Wx Wx := ⟨Out.refl _ _, false, false, hkx⟩
  have ht1 : t ≠ en.blk := fun e => by have := H.out.blk; rw [e] at this; exact Blk.ne_ this Hke.out (by decide) rfl
  have ht2 : t ≠ q.b2 := by rw [hq.b2]; exact hbt.symm
  have hp1 : w.heap.size ≠ en.blk := by have := Hke.out.lt; omega
  have hp2 : w.heap.size ≠ q.b2 := by rw [hq.b2]; omega
  have hg2 : en.blk ≠ q.b2 := by rw [hq.b2]; exact hbe'.symm
  have hg1 : en.blk ≠ q.b1 := by
    rw [hq.b1]
    intro e1
    obtain ⟨es, c, q1, _⟩ := H.out.all_.size
    have := Hke.out
    unfold Blk at this
    rw [e1, q1] at this
    injection this with this
    injection this
  have e24 := hq.e24
  have e26 := hq.e26
  have ev1 : en.v.oneCell' = true := by rw [Hev.out]; rfl
  have s1 := fun W (hS : SThree q en.blk TI.ent (bCells en ⟨pa, pb, pc, pd⟩) Wx W) => bStore1 (T := TI) (e := en) (p := ⟨pa, pb, pc, pd⟩) (fun _ => by kernel_rfl) hS ev1
  have s2 := fun W (hS : SThree q en.blk TI.ent (bCells en ⟨pa, pb, pc, pd⟩) Wx W) => bStore2 (T := TI) (e := en) (p := ⟨pa, pb, pc, pd⟩) (fun _ => by kernel_rfl) hS ev1
  rw [← HidI.out] at e26
  rw [← Hgb.out] at s1 s2 e24 e26 hS0
  have ne : Nonempty (Cls (SThree q gb 70 (bCells en ⟨pa, pb, pc, pd⟩) Wx)) := ⟨⟨Wx, hS0⟩⟩
  have k3 : ∀ y : Cls (SThree q gb 70 (bCells en ⟨pa, pb, pc, pd⟩) Wx), y.w.cell? ⟨t, 3, none⟩ = some (.map (some s.bb)) := fun y => by have := (y.h.blk hk (by rw [Hgb.out]; exact ht1) ht2).cell 3; simpa [tabCells] using this
  have c0 : ∀ y : Cls (SThree q gb 70 (bCells en ⟨pa, pb, pc, pd⟩) Wx), y.w.cell? ⟨w.heap.size, 0, none⟩ = some (.int .u32 pa) := fun y => (y.h.blk hkp (by rw [Hgb.out]; exact hp1) hp2).cell 0
  have c1 : ∀ y : Cls (SThree q gb 70 (bCells en ⟨pa, pb, pc, pd⟩) Wx), y.w.cell? ⟨w.heap.size, 1, none⟩ = some (.int .u16 pb) := fun y => (y.h.blk hkp (by rw [Hgb.out]; exact hp1) hp2).cell 1
  have c2 : ∀ y : Cls (SThree q gb 70 (bCells en ⟨pa, pb, pc, pd⟩) Wx), y.w.cell? ⟨w.heap.size, 2, none⟩ = some (.int .u32 pc) := fun y => (y.h.blk hkp (by rw [Hgb.out]; exact hp1) hp2).cell 2
  have c3 : ∀ y : Cls (SThree q gb 70 (bCells en ⟨pa, pb, pc, pd⟩) Wx), y.w.cell? ⟨w.heap.size, 3, none⟩ = some (.int .u16 pd) := fun y => (y.h.blk hkp (by rw [Hgb.out]; exact hp1) hp2).cell 3
  have Ev1 := Lib.hid ev1
  have Hout := Lib.hid (Out.of_below (O := fun _ => False) hbe)
  have Hn2 := Lib.hid (And.intro hg1 hg2)
  rw [← Hgb.out] at Hn2
  have hgt2 : gb < Wx.heap.size := Nat.lt_of_lt_of_le hgt hbe.size
  have E24 := Lib.hid e24
  clear e24
  have E26 := Lib.hid e26
  clear e26
  have S1 := Lib.hid s1
  clear s1
  have S2 := Lib.hid s2
  clear s2
  have Hq := Lib.hid hq
  clear hq
  have HMB := Lib.hid hMB
  clear hMB
  have HS0 := Lib.hid hS0
  clear hS0
  have Hbt := Lib.hid hbt
  clear hbt
  clear hk hkp hkx hbe hat hla hlb ht1 ht2 hp1 hp2 hg1 hg2 hbe' ev1
  refine wp_region_flowu 18 (SThree q gb 70 (bCells en ⟨pa, pb, pc, pd⟩) Wx) (RThree q gb 70 (bCells en ⟨pa, pb, pc, pd⟩) 15 17 11 14) [(15, fun w => w.heap[q.b2]? = some q.P0), (17, fun w => w.heap[q.b2]? = some q.P0 ∨ w.heap[q.b2]? = some q.P1)] (by kernel_rfl) (by kernel_rfl) (by kernel_rfl) RThree.refl (UThree.stays Hq.out.ok Hn2.out.1 Hn2.out.2 ⟨by decide, by decide⟩) Hq.out.u0 (HS0.out.below (below_n Wx 1)) ?_
  simp only [List.take_succ_cons, List.take_zero, List.drop_succ_cons, List.drop_zero]
  repeat (first
    | (refine flowu_quiet RThree.refl rfl rfl rfl rfl ?_; intro K hK; go_big_quiet_op; go_big_quiet_on)
    | (refine flowu_nilCheck ⟨t, 0, none⟩ rfl RThree.refl rfl rfl rfl Wx ?_; intro K hK; go_big_quiet_op; go_big_quiet_on)
    | (refine flowu_nilCheck ⟨gb, 0, none⟩ rfl RThree.refl rfl rfl rfl Wx ?_; intro K hK; go_big_quiet_op; go_big_quiet_on))
  refine flowu_storeW (G1 gb 70 (bCells en ⟨pa, pb, pc, pd⟩)) (.pointer (some ⟨gb, 5, none⟩)) (.agg #[.int .u32 pa, .int .u16 pb, .int .u32 pc, .int .u16 pd]) (G1.stays Hq.out.ok Hn2.out.1 Hn2.out.2 (bCells_inj _ _)) (fun f => rfl) (fun f => rfl) (fun W hS _ => S1.out W hS) rfl rfl ?_
  repeat (first
    | (refine flowu_quiet RThree.refl rfl rfl rfl rfl ?_; intro K hK; go_big_quiet_op; go_big_quiet_on)
    | (refine flowu_nilCheck ⟨gb, 0, none⟩ rfl RThree.refl rfl rfl rfl Wx ?_; intro K hK; go_big_quiet_op; go_big_quiet_on))
  refine flowu_storeW (G2 gb 70 (bCells en ⟨pa, pb, pc, pd⟩)) (.pointer (some ⟨gb, 9, none⟩)) (.bool true) (G2.stays Hq.out.ok Hn2.out.1 Hn2.out.2 (bCells_inj _ _)) (fun f => rfl) (fun f => rfl) (fun W hS _ => S2.out W hS) rfl rfl ?_
  refine flowu_entry (.map (some s.bb)) (.agg #[.int .u32 pa, .int .u16 pb, .int .u32 pc, .int .u16 pd]) rfl rfl (.tuple #[.int .u64 0, goInt stB]) (F3 q) (F3.stays3 Hq.out.ok Hn2.out.1 Hn2.out.2) E24.out rfl rfl rfl Wx ?_
  intro K hK; go_big_quiet_op; go_big_quiet_on
  refine flowu_quiet RThree.refl rfl rfl rfl rfl ?_; intro K hK; go_big_quiet_op; go_big_quiet_on
  refine flowu_entryStore [] (F4 q) (.map (some s.bb)) (goInt stB) (fun f => .int .u64 idI) (F4.stays3 Hq.out.ok Hn2.out.1 Hn2.out.2) (fun f => rfl) (fun f => rfl) (fun f => rfl) rfl (fun W f hS hN hut => by
    exact E26.out W hS (known_w hN 0 rfl rfl) hut) rfl rfl ?_
  refine flowu_nil ?_
  intro W f hW hF
  have h4 := hF _ (List.mem_cons_self)
  have h2 := hF _ (List.mem_cons_of_mem _ (List.mem_cons_of_mem _ (List.mem_cons_self)))
  have h1 := hF _ (List.mem_cons_of_mem _ (List.mem_cons_of_mem _ (List.mem_cons_of_mem _ (List.mem_cons_self))))
  clear hF
  simp only [List.map_nil] at h1 h2 h4
  rw [Hgb.out] at h1 h2 hW
  have hpost := bind_end (T := TI) H.out He.out Hp.out Hby.out Hnb.out Hm.out Hout.out Hq.out HMB.out hW Hbt.out h1 h2 h4 (by decide)
  have Hpost := Lib.hid hpost
  simp only [fillW, Act.put, List.setIfInBounds_toArray, List.set_cons_succ, List.set_cons_zero]
  clear hpost h1 h2 h4 k3 c0 c1 c2 c3 ne hW
  go_wp2
  go_ret
  exact Hpost.out
end Go.Proofs.Ytlikngepcbmhdaa
