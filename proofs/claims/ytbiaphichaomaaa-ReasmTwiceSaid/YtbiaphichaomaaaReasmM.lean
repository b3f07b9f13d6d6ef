/- Layer 16 (reasm): moves. -/
import Derived.Test.YtbiaphichaomaaaReasmA
import Derived.Deep.LoopGhost
import Derived.Deep.QuietTactic
import Derived.BigQuiet
import Derived.StillTailTactics
set_option linter.unusedVariables false
set_option linter.unusedSimpArgs false
namespace Go.Proofs.Ytbiaphichaomaaa
open Go.RowKit Go.BigFrame Go.Maps Go.ChangeShapes Go.WideShapes Go.ChangeAt

theorem infoU8 : (Try.prog.info? 5).map (fun i => (i.zero, i.size, i.bytes)) = some (some (.int .u8 0), 1, 1) := by kernel_rfl
/-- behind moves -/
def MovesPost (b bm : Nat) (rv pv : Value) (s : Rs) (w : World) (e : Ending) (w' : World) : Prop :=
  ∃ rv' pv', e = .returned (.tuple #[]) ∧ RsAt w' b bm rv' pv' (movesR s) ∧ Out (OwnR b bm rv) w w' ∧ (rv'.ownBlock = rv.ownBlock ∨ ∃ g, w.heap.size ≤ g ∧ rv'.ownBlock = some g)
set_option maxHeartbeats 4000000 in
theorem moves_no (b bm : Nat) (rv pv : Value) (s : Rs) (p : Sp) (l : List Sp) (w : World) (h : RsAt w b bm rv pv s) (hp : s.parts = p :: l) (hne : p.1 ≠ s.next) :
    Calls Try.prog 15 #[.pointer (some ⟨b, 0, none⟩)] w (MovesPost b bm rv pv s w) := by
  have hpt := h.parts
  obtain ⟨A, c, hpv, hc1, hc2, _⟩ := id hpt
  subst hpv
  obtain ⟨_, _, _, hrow⟩ := hpt.prow
  rw [hp] at hrow hc1 hpt
  rcases hrow with h0 | ⟨g, off, hA, hg, hcell⟩
  · cases h0
  subst hA
  obtain ⟨e0, e1⟩ := hcell 0 p rfl
  have c1 := h.blk.cell 1
  have c4 := h.blk.cell 4
  have hbl := h.blk.lt
  simp at c1 c4 e0 e1 hc1
  have i1 : decide ((p.1 : Int) = (s.next : Int)) = false := by simp; omega
  have i2 : (0 : Int) < (s.parts.length : Int) := by rw [hp]; simp only [List.length_cons]; omega
  have i3 : ((p.1 : Int) != (s.next : Int)) = true := by simp; omega
  have i4 : 0 < s.parts.length := by rw [hp]; simp
  have hmv : movesR s = s := by unfold movesR; rw [hp]; simp only; rw [if_neg hne]
  clear hcell hpt
  have H := Lib.hid h
  clear h
  have Hp := Lib.hid hp
  clear hp
  have Hne := Lib.hid hne
  clear hne
  have Hmv := Lib.hid hmv
  clear hmv
  have Hc2 := Lib.hid hc2
  clear hc2
  go_enter Try.func15, Try.ntmps15
  go_wp2
  go_quiet (fail)
  go_wp2
  go_end0
  exact ⟨_, _, rfl, by rw [Hmv.out]; exact H.out.drewN _, Out.of_below (below_n w _), .inl rfl⟩
/-- one byte moved -/
theorem mov_step {w wr W W' : World} {b bm : Nat} {rv rk pv v' : Value} {s : Rs} {k m : Nat} (hme : m = s.next + k) (h : RsAt wr b bm rk pv (movK s k)) (ho : Out (OwnR b bm rv) w wr) (hrk : rk.ownBlock = rv.ownBlock ∨ ∃ g, w.heap.size ≤ g ∧ rk.ownBlock = some g)
    (hW : Out (fun i => rk.ownBlock = some i) wr W) (hrow : W.ownsRow 0 5 1 v' ((movK s k).ready.length + 1) ((movK s k).ready.map byteV ++ [byteV ((s.far m).getD 0)])) (hv : v'.ownBlock = rk.ownBlock ∨ ∃ g, wr.heap.size ≤ g ∧ v'.ownBlock = some g)
    {n : Nat} (hn : n ≤ s.got) (hm : MapIs Try.prog 28 W' bm n (updM (farM (movK s k).far) (.int .u64 (m : Int)) none)) (hg : (W.setCell ⟨b, 2, none⟩ v').grownBy W' (some bm)) :
    RsAt (W'.setCell ⟨b, 1, none⟩ (.int .u64 ((m : Int) + 1))) b bm v' pv (movK s (k + 1)) ∧ Out (OwnR b bm rv) w (W'.setCell ⟨b, 1, none⟩ (.int .u64 ((m : Int) + 1))) ∧ (v'.ownBlock = rv.ownBlock ∨ ∃ g, w.heap.size ≤ g ∧ v'.ownBlock = some g) := by
  subst hme
  have hvb : v'.ownBlock ≠ some b := by
    rcases hv with e | ⟨g, h1, e⟩
    · rw [e]; exact h.row_ne
    · rw [e]; intro e2; injection e2 with e2; have := h.blk.lt; omega
  have hvm : v'.ownBlock ≠ some bm := by
    rcases hv with e | ⟨g, h1, e⟩
    · rw [e]; exact h.row_map
    · rw [e]; intro e2; injection e2 with e2; have := h.own_lt (.inr (.inl rfl)); omega
  have hbm := h.map_ne
  have hbW := (hW.block b h.blk.lt h.row_ne).trans h.blk
  have hb1 : Blk (W.setCell ⟨b, 2, none⟩ v') b 48 #[.int .i64 ((movK s k).most : Int), .int .u64 ((movK s k).next : Int), v', .map (some bm), pv] := by
    have := Blk.set_ hbW 2 v'
    simpa using this
  have hb2 := hb1.grown hg (fun e => hbm (Option.some.inj e))
  have hb3 := hb2.set_ 1 (.int .u64 (((s.next + k : Nat) : Int) + 1))
  have hfar : updM (farM (movK s k).far) (.int .u64 ((s.next + k : Nat) : Int)) none = farM (movK s (k + 1)).far := by
    rw [movK_succ]
    exact farM_upd _ _ none
  have hout : Out (OwnR b bm rv) w (W'.setCell ⟨b, 1, none⟩ (.int .u64 (((s.next + k : Nat) : Int) + 1))) := by
    have q1 : Out (fun i => i = b ∨ i = bm ∨ rk.ownBlock = some i) wr (W.setCell ⟨b, 2, none⟩ v') := Out.set_ (hW.mono fun i _ hi => .inr (.inr hi)) (.inl rfl) 2 v'
    have q2 : Out (fun i => i = b ∨ i = bm ∨ rk.ownBlock = some i) wr W' := Out.trans q1 (Out.grown (O := fun i => i = bm) hg rfl) (fun i _ e => .inr (.inl e))
    have q3 := Out.set_ q2 (t := b) (.inl rfl) 1 (.int .u64 (((s.next + k : Nat) : Int) + 1))
    refine Out.trans ho q3 (fun i hi e => ?_)
    rcases e with e | e | e
    · exact .inl e
    · exact .inr (.inl e)
    · rcases hrk with e2 | ⟨g, h1, e2⟩
      · exact .inr (.inr (by rw [← e2]; exact e))
      · rw [e2] at e; injection e with e; omega
  refine ⟨⟨?_, ?_, ⟨n, ?_, hn⟩, ?_⟩, hout, ?_⟩
  · rw [movK_succ]
    have e : (((s.next + k + 1 : Nat)) : Int) = ((s.next + k : Nat) : Int) + 1 := by omega
    simp only
    rw [e]
    simpa using hb3
  · have e : (movK s (k + 1)).ready = (movK s k).ready ++ [(s.far (s.next + k)).getD 0] := by rw [movK_succ]
    rw [e, List.length_append, List.map_append]
    refine own_row_eq hrow (fun i hi => ?_)
    have h1 : i ≠ b := fun e => hvb (e ▸ hi)
    have h2 : i ≠ bm := fun e => hvm (e ▸ hi)
    have hil := (hrow.lt i hi).2
    rw [Below.heap_setCell W' ⟨b, 1, none⟩ _ i h1, hg.block i (by simpa [World.setCell] using hil) (fun e => h2 (Option.some.inj e)), Below.heap_setCell W ⟨b, 2, none⟩ _ i h1]
  · rw [← hfar]
    exact hm.setCell (fun e => hbm e.symm) _
  · refine PartsIs.keep (show PartsIs wr pv (movK s (k + 1)).parts from h.parts) (fun g cs hgc => ?_)
    have h1 := h.no_part hgc
    have hgl := hgc.lt
    have hne1 : g ≠ b := fun e => h1 (.inl e)
    have hne2 : g ≠ bm := fun e => h1 (.inr (.inl e))
    rw [Below.heap_setCell W' ⟨b, 1, none⟩ _ g hne1, hg.block g (by have := hW.size; simp [World.setCell]; omega) (fun e => hne2 (Option.some.inj e)), Below.heap_setCell W ⟨b, 2, none⟩ _ g hne1]
    exact hW.block g hgl (fun e => h1 (.inr (.inr e)))
  · rcases hv with e | ⟨g, h1, e⟩
    · rw [e]; exact hrk
    · exact .inr ⟨g, Nat.le_trans ho.size h1, e⟩
set_option maxHeartbeats 8000000 in
theorem moves_yes (b bm : Nat) (rv pv : Value) (s : Rs) (p : Sp) (l : List Sp) (w : World) (h : RsAt w b bm rv pv s) (hp : s.parts = p :: l) (he : p.1 = s.next) (hlt : p.1 < p.2) (hp2 : p.2 < 9223372036854775807)
    (hall : ∀ i, s.next ≤ i → i < p.2 → (s.far i).isSome = true) (hlen : s.ready.length + (p.2 - s.next) ≤ 1000000) (hgot : s.got ≤ 1000000000000) :
    Calls Try.prog 15 #[.pointer (some ⟨b, 0, none⟩)] w (MovesPost b bm rv pv s w) := by
  have hpt := h.parts
  obtain ⟨A, c, hpv, hc1, hc2, _⟩ := id hpt
  subst hpv
  obtain ⟨_, _, _, hrow⟩ := hpt.prow
  rw [hp] at hrow hc1 hpt
  rcases hrow with h0 | ⟨g, off, hA, hg, hcell⟩
  · cases h0
  subst hA
  obtain ⟨e0, e1⟩ := hcell 0 p rfl
  have c1 := h.blk.cell 1
  have c4 := h.blk.cell 4
  have hbl := h.blk.lt
  simp at c1 c4 e0 e1 hc1
  obtain ⟨n, hnl⟩ : ∃ n, n = s.parts.length := ⟨_, rfl⟩
  rw [← hnl] at h c4 ⊢
  have i0 : n = l.length + 1 := by rw [hnl, hp]; rfl
  have i1 : ((p.1 : Int) == (s.next : Int)) = true := by simp; omega
  have i2 : (0 : Int) < (n : Int) := by omega
  have i3 : ((p.1 : Int) != (s.next : Int)) = false := by simp; omega
  have i4 : 0 < n := by omega
  have hhp : PartsIs w (.slice (some ⟨g, off, none⟩) n c) (p :: l) := by rw [i0]; exact hpt
  have hmv : movesR s = { movK s (p.2 - s.next) with parts := l } := movK_end hp he hlt
  have hz : RsAt w b bm rv (.slice (some ⟨g, off, none⟩) n c) (movK s 0) := by rw [movK_zero]; exact h
  clear hcell hpt h
  have Hp := Lib.hid hp
  clear hp
  have He := Lib.hid he
  clear he
  have Hmv := Lib.hid hmv
  clear hmv
  have Hc2 := Lib.hid hc2
  clear hc2
  have Hnl := Lib.hid hnl
  clear hnl
  have I0 := Lib.hid i0
  clear i0
  have Hhp := Lib.hid hhp
  clear hhp
  have Hz := Lib.hid hz
  clear hz
  have Hall := Lib.hid hall
  clear hall
  go_enter Try.func15, Try.ntmps15
  go_wp2
  go_quiet (fail)
  have hz1 := Hz.out.drewN nq
  have ho1 : Out (OwnR b bm rv) w (w.drewN nq) := Out.of_below (below_n w nq)
  clear c1 c4 e0 e1 Hz
  have Hz1 := Lib.hid hz1
  clear hz1
  have Ho1 := Lib.hid ho1
  clear ho1
  go_wp2_with fail
  go_loopg [] (p.2 - s.next) (fun gk wr => ∃ k rk, k + gk = p.2 - s.next ∧ RsAt wr b bm rk (.slice (some ⟨g, off, none⟩) n c) (movK s k) ∧ Out (OwnR b bm rv) w wr ∧ (rk.ownBlock = rv.ownBlock ∨ ∃ g, w.heap.size ≤ g ∧ rk.ownBlock = some g))
  case atStart => exact ⟨0, rv, by omega, Hz1.out, Ho1.out, .inl rfl⟩
  case round =>
    clear Hz1 Ho1
    obtain ⟨k, rk, hkg, hR, hO, hrk⟩ := hrel
    have hpt := hR.parts
    have hrow := hpt.prow.2.2.2
    clear hpt
    have hpk : (movK s k).parts = p :: l := Hp.out
    rw [hpk] at hrow
    clear hpk
    rcases hrow with h0 | ⟨g', off', hA, hg', hcell⟩
    · cases h0
    injection hA with hA
    injection hA with hA1 hA2
    subst hA1 hA2
    obtain ⟨e0, e1⟩ := hcell 0 p rfl
    obtain ⟨A0, c0, hrv, hrc, hrm⟩ := own_slice0 hR.row
    obtain ⟨m, hme⟩ : ∃ m, m = s.next + k := ⟨_, rfl⟩
    have hmn : (movK s k).next = m := hme.symm
    have c1 := hR.blk.cell 1
    have c2 := hR.blk.cell 2
    have c3 := hR.blk.cell 3
    have c4 := hR.blk.cell 4
    have hbl' := hR.blk.lt
    rw [hmn] at c1
    simp at c1 c2 c3 c4 e0 e1
    subst hrv
    obtain ⟨L, hL⟩ : ∃ L, L = (movK s k).ready.length := ⟨_, rfl⟩
    have hL2 : L ≤ 1000000 := by
      rw [hL]
      show (s.ready ++ farL s.far s.next k).length ≤ _
      rw [List.length_append, farL_len]
      omega
    rw [← hL] at hR c2 hrc hrk
    by_cases hk : 0 < gk
    · have q1 : (m : Int) < (p.2 : Int) := by omega
      obtain ⟨nm, hfar, hnm0⟩ := hR.far
      have hnm : nm ≤ s.got := hnm0
      clear hnm0
      have hfm : (movK s k).far m = s.far m := by
        show (if s.next ≤ m ∧ m < s.next + k then none else s.far m) = _
        rw [if_neg (by omega)]
      obtain ⟨x, hx⟩ := Option.isSome_iff_exists.1 (Hall.out m (by omega) (by omega))
      have hgx : (s.far m).getD 0 = x := by rw [hx]; rfl
      obtain ⟨xv, hxv⟩ : ∃ xv : Int, Value.int .u8 xv = byteV x := ⟨_, rfl⟩
      have hrn := hR.row_ne
      have hrm2 := hR.row_map
      have hbm := hR.map_ne
      have hky := keyU64 (n := m) (by omega)
      have hS0 : ∀ q, Out (fun i => (Value.slice A0 L c0).ownBlock = some i) wr (wr.drewN q) := fun q => Out.of_below (below_n wr q)
      have kc : ∀ W, Out (fun i => (Value.slice A0 L c0).ownBlock = some i) wr W → ∀ i, W.cell? ⟨b, i, none⟩ = wr.cell? ⟨b, i, none⟩ := fun W hW i => World.cell?_of_block (hW.block b hR.blk.lt hrn)
      have hml : ∀ W, Out (fun i => (Value.slice A0 L c0).ownBlock = some i) wr W → MapIs Try.prog 28 W bm nm (farM (movK s k).far) := fun W hW => hfar.of_eq (hW.block bm hfar.lt hrm2)
      have hlk : ∀ W, Out (fun i => (Value.slice A0 L c0).ownBlock = some i) wr W → (Instr.lookup 46 (.map (some bm)) (.int .u64 (m : Int)) false).run Try.prog W = .ok (.int .u8 xv) W := fun W hW => by
        have := (hml W hW).look lawU64 Try.underlying46 (zeroU8 W) hky
        rw [farM_at, hfm, hx] at this
        rw [hxv]
        exact this
      have HR := Lib.hid hR
      clear hR
      have HO := Lib.hid hO
      clear hO
      have Hrk := Lib.hid hrk
      clear hrk
      have Hfar := Lib.hid hfar
      clear hfar
      have Hnm := Lib.hid hnm
      clear hnm
      have Hfm := Lib.hid hfm
      clear hfm
      have Hx := Lib.hid hx
      clear hx
      have Hgx := Lib.hid hgx
      clear hgx
      have Hxv := Lib.hid hxv
      clear hxv
      have Hrn := Lib.hid hrn
      clear hrn
      have Hrm2 := Lib.hid hrm2
      clear hrm2
      have Hbm := Lib.hid hbm
      clear hbm
      have Hky := Lib.hid hky
      clear hky
      have HS0 := Lib.hid hS0
      clear hS0
      have Kc := Lib.hid kc
      clear kc
      have Hml := Lib.hid hml
      clear hml
      have Hlk := Lib.hid hlk
      clear hlk
      have Hme := Lib.hid hme
      clear hme
      have Hmn := Lib.hid hmn
      clear hmn
      have HL := Lib.hid hL
      clear hL
      have Hrc := Lib.hid hrc
      clear hrc
      have Hrm := Lib.hid hrm
      clear hrm
      clear hcell
      go_upto_region 1 with fail
      go_quiet (fail)
      go_upto_region 3 with fail
      have hSd := HS0.out (nq + 1)
      have ne : Nonempty (Cls (fun W => Out (fun i => (Value.slice A0 L c0).ownBlock = some i) wr W)) := ⟨⟨_, hSd⟩⟩
      have d1 : ∀ y : Cls (fun W => Out (fun i => (Value.slice A0 L c0).ownBlock = some i) wr W), y.w.cell? ⟨b, 1, none⟩ = some (.int .u64 (m : Int)) := fun y => (Kc.out _ y.h 1).trans c1
      have d2 : ∀ y : Cls (fun W => Out (fun i => (Value.slice A0 L c0).ownBlock = some i) wr W), y.w.cell? ⟨b, 2, none⟩ = some (.slice A0 L c0) := fun y => (Kc.out _ y.h 2).trans c2
      have d3 : ∀ y : Cls (fun W => Out (fun i => (Value.slice A0 L c0).ownBlock = some i) wr W), y.w.cell? ⟨b, 3, none⟩ = some (.map (some bm)) := fun y => (Kc.out _ y.h 3).trans c3
      have d4 : ∀ y : Cls (fun W => Out (fun i => (Value.slice A0 L c0).ownBlock = some i) wr W), (Instr.lookup 46 (.map (some bm)) (.int .u64 (m : Int)) false).run Try.prog y.w = .ok (.int .u8 xv) y.w := fun y => Hlk.out _ y.h
      have hU0 : ∀ q ∈ ([(15, fun W => W.ownsRow 0 5 1 (.slice A0 L c0) L ((movK s k).ready.map byteV))] : List (Nat × (World → Prop))), q.2 (wr.drewN (nq + 1)) := by
        intro q hq
        obtain rfl := List.mem_singleton.1 hq
        have := (HR.out.drewN (nq + 1)).row
        rw [← HL.out] at this
        exact this
      have hUs : ∀ q ∈ ([(15, fun W => W.ownsRow 0 5 1 (.slice A0 L c0) L ((movK s k).ready.map byteV))] : List (Nat × (World → Prop))), ∀ i w w', i ≠ q.1 → RApp 15 (Value.slice A0 L c0).ownBlock i w w' → q.2 w → q.2 w' := by
        intro q hq i w w' hi hr hw
        obtain rfl := List.mem_singleton.1 hq
        exact hw.kept (only_of_below (hr.below hi) none) (by cases (Value.slice A0 L c0).ownBlock <;> simp)
      have rb : ∀ w : World, (Instr.buildSlice 42 1 #[(0, .int .u8 xv)]).run Try.prog w = .ok (.slice (some ⟨w.heap.size, 0, none⟩) 1 1) (w.alloc (.cells #[.int .u8 xv] 5)) := fun _ => by kernel_rfl
      have hrl : ∀ q, (Value.slice A0 L c0).ownBlock = some q → q < wr.heap.size := fun q hq => (HR.out.row.lt q hq).2
      obtain ⟨j0, hj, hj0, hj1, hj2⟩ := info_parts infoU8
      clear c1 c2 c3 c4 e0 e1
      have HSd := Lib.hid hSd
      clear hSd
      have HU0 := Lib.hid hU0
      clear hU0
      have HUs := Lib.hid hUs
      clear hUs
      have Rb := Lib.hid rb
      clear rb
      have Hrl := Lib.hid hrl
      clear hrl
      have Hj := Lib.hid hj
      clear hj
      have Hj0 := Lib.hid hj0
      clear hj0
      have Hj1 := Lib.hid hj1
      clear hj1
      have Hj2 := Lib.hid hj2
      clear hj2
      refine wp_region_flowu 18 (fun W => Out (fun i => (Value.slice A0 L c0).ownBlock = some i) wr W) (RApp 15 (Value.slice A0 L c0).ownBlock) [(15, fun W => W.ownsRow 0 5 1 (.slice A0 L c0) L ((movK s k).ready.map byteV))] (by kernel_rfl) (by kernel_rfl) (by kernel_rfl) RApp.refl HUs.out HU0.out HSd.out ?_
      simp only [List.take_succ_cons, List.take_zero, List.drop_succ_cons, List.drop_zero]
      repeat (first
        | (refine flowu_quiet RApp.refl rfl rfl rfl rfl ?_; intro K hK; go_big_quiet_op; go_big_quiet_on)
        | (refine flowu_nilCheck ⟨b, 0, none⟩ rfl RApp.refl rfl rfl rfl wr ?_; intro K hK; go_big_quiet_op; go_big_quiet_on))
      refine flowx_build wr.heap.size (E := 5) #[(0, .int .u8 xv)] ?_ #[.int .u8 xv] Rb.out (fun w w' h hb => Out.trans h (Out.of_below (O := fun _ => False) hb) (fun _ _ e => e.elim)) (fun w h => h.size) Hrl.out rfl rfl rfl wr ?_
      focus (simp only [List.map_toArray, List.map_cons, List.map_nil]; rfl)
      intro K hK; go_big_quiet_op; go_big_quiet_on
      refine flowx_append wr.heap.size 0 j0 _ 1 1 Try.underlying42 Hj.out Hj0.out Hj1.out Hj2.out rfl (by decide) (.slice A0 L c0) L ((movK s k).ready.map byteV) 1 #[.int .u8 xv] 0 rfl rfl rfl (of_decide_eq_true rfl) (fun f => rfl) rfl rfl (fun w hw hut => hut _ List.mem_cons_self rfl) rfl (by intro u hu; simp at hu; subst hu; rfl) (by simp only [maxLen]; omega) (by omega) (fun w _ => Nat.zero_le _) (fun w h => h.size) (fun w w' h hg => Out.trans h (Out.mono (O := fun i => (Value.slice A0 L c0).ownBlock = some i) ⟨hg.os, hg.tape, hg.output, hg.size, fun i hi hn => hg.block i hi (fun e => hn e.symm)⟩ (fun _ _ e => e)) (fun _ _ e => e)) rfl rfl wr ?_
      intro K hK; go_big_quiet_op; go_big_quiet_on
      repeat (first
        | (refine flowu_quiet RApp.refl rfl rfl rfl rfl ?_; intro K hK; go_big_quiet_op; go_big_quiet_on)
        | (refine flowu_nilCheck ⟨b, 0, none⟩ rfl RApp.refl rfl rfl rfl wr ?_; intro K hK; go_big_quiet_op; go_big_quiet_on))
      refine flowu_nil ?_
      intro W3 f hW hF
      obtain ⟨v', hv', hrow', hvb⟩ := hF _ (List.mem_cons_self)
      clear hF
      have hgh := HR.out.blk
      have hb3 := (hW.block b HR.out.blk.lt Hrn.out).trans HR.out.blk
      have f2 := Blk.frozen hb3 2
      have k2 := (Kc.out _ hW 2)
      have k2' := Blk.cell hb3 2
      simp at k2'
      injection hv' with hv'
      simp only [fillW, Act.put, List.setIfInBounds_toArray, List.set_cons_succ, List.set_cons_zero]
      rw [hv']
      generalize f 47 = v47
      obtain ⟨A1, k1, hv1, hrc1, hrm1⟩ := own_slice0 hrow'
      subst hv1
      clear hv' k2 hgh
      have hky2 := Hky.out
      have hml3 : MapIs Try.prog 28 (W3.setCell ⟨b, 2, none⟩ (.slice A1 (L + 1) k1)) bm nm (farM (movK s k).far) := (Hml.out _ hW).setCell (fun e => Hbm.out e.symm) _
      have hk3 : Blk (W3.setCell ⟨b, 2, none⟩ (.slice A1 (L + 1) k1)) b 48 #[.int .i64 ((movK s k).most : Int), .int .u64 (m : Int), .slice A1 (L + 1) k1, .map (some bm), .slice (some ⟨g, off, none⟩) n c] := by
        have := Blk.set_ hb3 2 (.slice A1 (L + 1) k1)
        rw [Hmn.out] at this
        simpa using this
      have z1 := hk3.cell 1
      have z3 := hk3.cell 3
      simp at z1 z3
      have hbl3 := hk3.lt
      have hst : ∀ W5 n5, n5 ≤ s.got → MapIs Try.prog 28 W5 bm n5 (updM (farM (movK s k).far) (.int .u64 (m : Int)) none) → (W3.setCell ⟨b, 2, none⟩ (.slice A1 (L + 1) k1)).grownBy W5 (some bm) → _ := fun W5 n5 h5 hm5 hg5 =>
        mov_step (v' := .slice A1 (L + 1) k1) Hme.out HR.out HO.out Hrk.out hW (by rw [Hgx.out, ← HL.out, ← Hxv.out]; exact hrow') hvb h5 hm5 hg5
      have hbm5 : ∀ W5, (W3.setCell ⟨b, 2, none⟩ (.slice A1 (L + 1) k1)).grownBy W5 (some bm) → Blk W5 b 48 #[.int .i64 ((movK s k).most : Int), .int .u64 (m : Int), .slice A1 (L + 1) k1, .map (some bm), .slice (some ⟨g, off, none⟩) n c] := fun W5 hg5 => hk3.grown hg5 (fun e => Hbm.out (Option.some.inj e))
      have Hrow' := Lib.hid hrow'
      clear hrow'
      have Hvb := Lib.hid hvb
      clear hvb
      have Hb3 := Lib.hid hb3
      clear hb3
      have HW := Lib.hid hW
      clear hW
      have Hml3 := Lib.hid hml3
      clear hml3
      have Hk3 := Lib.hid hk3
      clear hk3
      have Hrc1 := Lib.hid hrc1
      clear hrc1
      have Hrm1 := Lib.hid hrm1
      clear hrm1
      have Hst := Lib.hid hst
      clear hst
      have Hbm5 := Lib.hid hbm5
      clear hbm5
      go_upto_region 4 with fail
      generalize W3.setCell _ _ = W4 at *
      go_still_tail 8, (by kernel_rfl)
      refine wpList_delete_is _ rfl _ _ _ _ rfl 5 lawU64 Try.underlying46 bm nm _ rfl Hml3.out.drew _ _ rfl hky2 ?_
      intro W5 h5 ht5
      have hg5 : W4.grownBy W5 (some bm) := grown_undrew ht5.grown
      have hn5 := Hst.out W5 _ (by split <;> (have := Hnm.out; omega)) h5 hg5
      have hb5 := Hbm5.out W5 hg5
      have y1 := hb5.cell 1
      have fr := hb5.frozen 1
      have hbl5 := hb5.lt
      simp at y1
      clear h5 ht5 hg5 z1 z3
      have Hn5 := Lib.hid hn5
      clear hn5
      have Hb5 := Lib.hid hb5
      clear hb5
      go_wp2
      go_roundg (gk - 1)
      case rel => exact ⟨k + 1, .slice A1 (L + 1) k1, by omega, Hn5.out.1, Hn5.out.2.1, Hn5.out.2.2⟩
      case measure => omega
    · obtain rfl : gk = 0 := by omega
      obtain rfl : k = p.2 - s.next := by omega
      have hps := He.out
      have q1 : ¬ (m : Int) < (p.2 : Int) := by omega
      go_upto_region 1 with fail
      go_quiet (fail)
      have hn1 : n = l.length + 1 := I0.out
      have f4 := hR.blk.frozen 4
      have hend : ∀ (W : World) (pv' : Value), (∀ j : Nat, W.heap[j]? = wr.heap[j]?) → W.heap.size = wr.heap.size → W.os = wr.os → W.tape = wr.tape → W.output = wr.output → PartsIs wr pv' l → MovesPost b bm rv (.slice (some ⟨g, off, none⟩) n c) s w (.returned (.tuple #[])) (W.setCell ⟨b, 4, none⟩ pv') := by
        intro W pv' hh h1 h2 h3 h4 hP
        have hRW : RsAt W b bm (.slice A0 L c0) (.slice (some ⟨g, off, none⟩) n c) (movK s (p.2 - s.next)) := hR.keep (fun i _ _ => hh i)
        have hoW : Out (OwnR b bm rv) w W := Out.trans hO (⟨h2, h3, h4, by omega, fun i _ _ => hh i⟩ : Out (fun _ => False) wr W) (fun _ _ e => e.elim)
        have hPW : PartsIs W pv' l := hP.keep (fun g cs _ => hh g)
        refine ⟨.slice A0 L c0, pv', rfl, ?_, Out.set_ hoW (.inl rfl) 4 pv', hrk⟩
        rw [Hmv.out]
        have hne := hRW.row_ne
        have hbm := hRW.map_ne
        refine ⟨by simpa using Blk.set_ hRW.blk 4 pv', own_row_eq hRW.row (fun i hi => Below.heap_setCell W ⟨b, 4, none⟩ _ i (fun e => hne (by rw [← (show i = b from e)]; exact hi))), ?_, hPW.keep (fun g cs hg => Below.heap_setCell W ⟨b, 4, none⟩ _ g (fun e => Blk.ne_ hg hRW.blk (by decide) e))⟩
        obtain ⟨nm, q2, q3⟩ := hRW.far
        exact ⟨nm, q2.setCell (fun e => hbm e.symm) _, q3⟩
      have hpt2 : PartsIs wr (.slice (some ⟨g, off, none⟩) (l.length + 1) c) (p :: l) := by
        have := hR.parts
        rw [show (movK s (p.2 - s.next)).parts = p :: l from Hp.out, I0.out] at this
        exact this
      obtain ⟨ht1, g2, off2, hg2, ht2⟩ := hpt2.tail
      injection hg2 with hg2
      injection hg2 with hg3 hg4
      subst hg3 hg4
      have hnl1 : n - 1 = l.length := by omega
      rw [← hnl1] at ht1 ht2
      have i5 : (1 : Int) ≤ (n : Int) := by omega
      have i6 : (n : Int) ≤ (c : Int) := by omega
      have i7 : (c : Int) ≤ 9223372036854775807 := by have := Hc2.out; unfold maxLen at this; omega
      clear hn1 hnl1 hR hO hrk c1 c2 c3 e0 e1 hcell hpt2
      have Hend := Lib.hid hend
      clear hend
      have Ht2 := Lib.hid ht2
      clear ht2
      have Ht1 := Lib.hid ht1
      clear ht1
      by_cases hcc : c = 1
      · have hq := Ht1.out hcc
        subst hcc
        have Hq := Lib.hid hq
        clear hq
        clear Ht1 Ht2
        go_wp2
        go_end0
        exact Hend.out (wr.drewN _) _ (fun _ => rfl) rfl rfl rfl rfl Hq.out
      · go_wp2
        go_end0
        exact Hend.out (wr.drewN _) _ (fun _ => rfl) rfl rfl rfl rfl Ht2.out
end Go.Proofs.Ytbiaphichaomaaa
