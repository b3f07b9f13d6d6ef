/- Layer 31 (trace): the contracts of the closures that tell what may happen, for each end, each way. -/
import Derived.Test.YtcdbbdjabccjdaaTrace
import Derived.IntWalk
set_option linter.unusedVariables false
set_option linter.unusedSimpArgs false
namespace Go.Proofs.Ytcdbbdjabccjdaa
open Go.RowKit Go.BigFrame

theorem rule1_yes_0 (w : World) (b go ga : Nat) (t : Tr) (s : ByteArray) (h : TrAt w b t) (ho : Blk w go 88 #[.func (.func 39) #[] #[]]) (ha : Blk w ga 36 #[.int .i64 0, .int .u8 1, .string s]) (h0 : t.s0.opn = false) :
    Calls Try.prog 40 #[.pointer (some ⟨b, 0, none⟩), .pointer (some ⟨b, 6, none⟩), .pointer (some ⟨go, 0, none⟩), .pointer (some ⟨ga, 0, none⟩)] w (Lets w b true { t with s0 := { t.s0 with opn := true } }) := by
  have c0 := h.cell 0
  have c1 := h.cell 1
  have c2 := h.cell 2
  have c3 := h.cell 3
  have c4 := h.cell 4
  have c5 := h.cell 5
  have c6 := h.cell 6
  have c7 := h.cell 7
  have c8 := h.cell 8
  have c9 := h.cell 9
  have c10 := h.cell 10
  have c11 := h.cell 11
  have c12 := h.cell 12
  have c13 := h.cell 13
  simp [trC] at c0 c1 c2 c3 c4 c5 c6 c7 c8 c9 c10 c11 c12 c13
  have hfr := fun i => Blk.frozen h i
  rw [h0] at c0
  have o0 := ho.cell 0
  simp at o0
  have a0 := ha.cell 0
  have a1 := ha.cell 1
  have a2 := ha.cell 2
  simp at a0 a1 a2
  have hgr : w.grownBy w (some b) := World.grownBy.refl w (some b)
  have H := Lib.hid h
  clear h
  have Hfr := Lib.hid hfr
  clear hfr
  have Hgr := Lib.hid hgr
  clear hgr
  go_enter Try.func40, Try.ntmps40
  go_wp2
  go_still_tail 7, (by kernel_rfl)
  have hc := once_yes w.drew b 0 c0 (Hfr.out 0)
  go_wp2_with fail
  with_reducible refine hc.mono ?_
  rintro e w' ⟨rfl, rfl⟩
  go_wp2
  go_ret
  exact ⟨rfl, TrAt.set (Blk.drew H.out) 0 _ _ rfl, only_set (only_drew Hgr.out) 0 _⟩

theorem rule1_no_0 (w : World) (b go ga : Nat) (t : Tr) (s : ByteArray) (h : TrAt w b t) (ho : Blk w go 88 #[.func (.func 39) #[] #[]]) (ha : Blk w ga 36 #[.int .i64 0, .int .u8 1, .string s]) (h0 : t.s0.opn = true) :
    Calls Try.prog 40 #[.pointer (some ⟨b, 0, none⟩), .pointer (some ⟨b, 6, none⟩), .pointer (some ⟨go, 0, none⟩), .pointer (some ⟨ga, 0, none⟩)] w (Lets w b false t) := by
  have c0 := h.cell 0
  have c1 := h.cell 1
  have c2 := h.cell 2
  have c3 := h.cell 3
  have c4 := h.cell 4
  have c5 := h.cell 5
  have c6 := h.cell 6
  have c7 := h.cell 7
  have c8 := h.cell 8
  have c9 := h.cell 9
  have c10 := h.cell 10
  have c11 := h.cell 11
  have c12 := h.cell 12
  have c13 := h.cell 13
  simp [trC] at c0 c1 c2 c3 c4 c5 c6 c7 c8 c9 c10 c11 c12 c13
  have hfr := fun i => Blk.frozen h i
  rw [h0] at c0
  have o0 := ho.cell 0
  simp at o0
  have a0 := ha.cell 0
  have a1 := ha.cell 1
  have a2 := ha.cell 2
  simp at a0 a1 a2
  have hgr : w.grownBy w (some b) := World.grownBy.refl w (some b)
  have H := Lib.hid h
  clear h
  have Hfr := Lib.hid hfr
  clear hfr
  have Hgr := Lib.hid hgr
  clear hgr
  go_enter Try.func40, Try.ntmps40
  go_wp2
  go_still_tail 7, (by kernel_rfl)
  have hc := once_no w.drew b 0 true true c0 rfl
  go_wp2_with fail
  with_reducible refine hc.mono ?_
  rintro e w' ⟨rfl, rfl⟩
  go_wp2
  go_ret
  exact ⟨rfl, Blk.drew H.out, only_drew Hgr.out⟩

theorem rule2_no_0 (w : World) (b go ga : Nat) (t : Tr) (s : ByteArray) (h : TrAt w b t) (ho : Blk w go 88 #[.func (.func 39) #[] #[]]) (ha : Blk w ga 36 #[.int .i64 0, .int .u8 2, .string s]) :
    Calls Try.prog 41 #[.pointer (some ⟨b, 0, none⟩), .pointer (some ⟨b, 6, none⟩), .pointer (some ⟨go, 0, none⟩), .pointer (some ⟨ga, 0, none⟩)] w (Lets w b false t) := by
  have c0 := h.cell 0
  have c1 := h.cell 1
  have c2 := h.cell 2
  have c3 := h.cell 3
  have c4 := h.cell 4
  have c5 := h.cell 5
  have c6 := h.cell 6
  have c7 := h.cell 7
  have c8 := h.cell 8
  have c9 := h.cell 9
  have c10 := h.cell 10
  have c11 := h.cell 11
  have c12 := h.cell 12
  have c13 := h.cell 13
  simp [trC] at c0 c1 c2 c3 c4 c5 c6 c7 c8 c9 c10 c11 c12 c13
  have hfr := fun i => Blk.frozen h i
  have o0 := ho.cell 0
  simp at o0
  have a0 := ha.cell 0
  have a1 := ha.cell 1
  have a2 := ha.cell 2
  simp at a0 a1 a2
  have hgr : w.grownBy w (some b) := World.grownBy.refl w (some b)
  have H := Lib.hid h
  clear h
  have Hfr := Lib.hid hfr
  clear hfr
  have Hgr := Lib.hid hgr
  clear hgr
  go_enter Try.func41, Try.ntmps41
  go_wp2
  go_still_tail 13, (by kernel_rfl)
  have hc := once_no w.drew b 0 false _ c0 rfl
  go_wp2_with fail
  with_reducible refine hc.mono ?_
  rintro e w' ⟨rfl, rfl⟩
  go_wp2
  go_ret
  exact ⟨rfl, Blk.drew H.out, only_drew Hgr.out⟩

theorem rule3_yes_0 (w : World) (b ga : Nat) (t : Tr) (s : ByteArray) (h : TrAt w b t) (ha : Blk w ga 36 #[.int .i64 0, .int .u8 3, .string s]) (h0 : t.s0.cl = false) (hz : t.s0.wr.size + s.size ≤ 9223372036854775807) :
    Calls Try.prog 42 #[.pointer (some ⟨b, 0, none⟩), .pointer (some ⟨b, 6, none⟩), .pointer (some ⟨ga, 0, none⟩)] w (Lets w b true { t with s0 := { t.s0 with wr := t.s0.wr ++ s } }) := by
  have c0 := h.cell 0
  have c1 := h.cell 1
  have c2 := h.cell 2
  have c3 := h.cell 3
  have c4 := h.cell 4
  have c5 := h.cell 5
  have c6 := h.cell 6
  have c7 := h.cell 7
  have c8 := h.cell 8
  have c9 := h.cell 9
  have c10 := h.cell 10
  have c11 := h.cell 11
  have c12 := h.cell 12
  have c13 := h.cell 13
  simp [trC] at c0 c1 c2 c3 c4 c5 c6 c7 c8 c9 c10 c11 c12 c13
  have hfr := fun i => Blk.frozen h i
  rw [h0] at c3
  have f1 := hfr 1
  have hadd := fun W : World => run_string_add_sum (P := Try.prog) W t.s0.wr s hz
  have a0 := ha.cell 0
  have a1 := ha.cell 1
  have a2 := ha.cell 2
  simp at a0 a1 a2
  have hgr : w.grownBy w (some b) := World.grownBy.refl w (some b)
  have H := Lib.hid h
  clear h
  have Hfr := Lib.hid hfr
  clear hfr
  have Hgr := Lib.hid hgr
  clear hgr
  go_enter Try.func42, Try.ntmps42
  go_wp2
  go_still_tail 9, (by kernel_rfl)
  go_wp2
  go_ret
  exact ⟨rfl, TrAt.set (Blk.drew H.out) 1 _ _ rfl, only_set (only_drew Hgr.out) 1 _⟩

theorem rule3_no_0 (w : World) (b ga : Nat) (t : Tr) (s : ByteArray) (h : TrAt w b t) (ha : Blk w ga 36 #[.int .i64 0, .int .u8 3, .string s]) (h0 : t.s0.cl = true) :
    Calls Try.prog 42 #[.pointer (some ⟨b, 0, none⟩), .pointer (some ⟨b, 6, none⟩), .pointer (some ⟨ga, 0, none⟩)] w (Lets w b false t) := by
  have c0 := h.cell 0
  have c1 := h.cell 1
  have c2 := h.cell 2
  have c3 := h.cell 3
  have c4 := h.cell 4
  have c5 := h.cell 5
  have c6 := h.cell 6
  have c7 := h.cell 7
  have c8 := h.cell 8
  have c9 := h.cell 9
  have c10 := h.cell 10
  have c11 := h.cell 11
  have c12 := h.cell 12
  have c13 := h.cell 13
  simp [trC] at c0 c1 c2 c3 c4 c5 c6 c7 c8 c9 c10 c11 c12 c13
  have hfr := fun i => Blk.frozen h i
  rw [h0] at c3
  have a0 := ha.cell 0
  have a1 := ha.cell 1
  have a2 := ha.cell 2
  simp at a0 a1 a2
  have hgr : w.grownBy w (some b) := World.grownBy.refl w (some b)
  have H := Lib.hid h
  clear h
  have Hfr := Lib.hid hfr
  clear hfr
  have Hgr := Lib.hid hgr
  clear hgr
  go_enter Try.func42, Try.ntmps42
  go_wp2
  go_ret
  exact ⟨rfl, H.out, Hgr.out⟩

theorem rule4_eof_0 (w : World) (b ga : Nat) (t : Tr) (s : ByteArray) (h : TrAt w b t) (ha : Blk w ga 36 #[.int .i64 0, .int .u8 4, .string s]) (h0 : t.s0.eof = true) :
    Calls Try.prog 43 #[.pointer (some ⟨b, 0, none⟩), .pointer (some ⟨b, 6, none⟩), .pointer (some ⟨ga, 0, none⟩)] w (Lets w b false t) := by
  have c0 := h.cell 0
  have c1 := h.cell 1
  have c2 := h.cell 2
  have c3 := h.cell 3
  have c4 := h.cell 4
  have c5 := h.cell 5
  have c6 := h.cell 6
  have c7 := h.cell 7
  have c8 := h.cell 8
  have c9 := h.cell 9
  have c10 := h.cell 10
  have c11 := h.cell 11
  have c12 := h.cell 12
  have c13 := h.cell 13
  simp [trC] at c0 c1 c2 c3 c4 c5 c6 c7 c8 c9 c10 c11 c12 c13
  have hfr := fun i => Blk.frozen h i
  rw [h0] at c4
  have a0 := ha.cell 0
  have a1 := ha.cell 1
  have a2 := ha.cell 2
  simp at a0 a1 a2
  have hgr : w.grownBy w (some b) := World.grownBy.refl w (some b)
  have H := Lib.hid h
  clear h
  have Hfr := Lib.hid hfr
  clear hfr
  have Hgr := Lib.hid hgr
  clear hgr
  go_enter Try.func43, Try.ntmps43
  go_wp2
  go_quiet (fail)
  go_wp2
  go_ret
  exact ⟨rfl, Blk.drewN H.out _, only_drewN Hgr.out _⟩

theorem rule4_yes_0 (w : World) (b ga : Nat) (t : Tr) (s : ByteArray) (h : TrAt w b t) (ha : Blk w ga 36 #[.int .i64 0, .int .u8 4, .string s]) (hr : t.s0.rd ≤ t.s1.wr.size) (hs1 : t.s1.wr.size ≤ 9223372036854775807) (hs2 : s.size ≤ 4611686018427387903) (hrd : t.s0.rd ≤ 4611686018427387903) (h0 : t.s0.eof = false) (h1 : prefixB t.s1.wr t.s0.rd s = true) :
    Calls Try.prog 43 #[.pointer (some ⟨b, 0, none⟩), .pointer (some ⟨b, 6, none⟩), .pointer (some ⟨ga, 0, none⟩)] w (Lets w b true { t with s0 := { t.s0 with rd := t.s0.rd + s.size } }) := by
  have c0 := h.cell 0
  have c1 := h.cell 1
  have c2 := h.cell 2
  have c3 := h.cell 3
  have c4 := h.cell 4
  have c5 := h.cell 5
  have c6 := h.cell 6
  have c7 := h.cell 7
  have c8 := h.cell 8
  have c9 := h.cell 9
  have c10 := h.cell 10
  have c11 := h.cell 11
  have c12 := h.cell 12
  have c13 := h.cell 13
  simp [trC] at c0 c1 c2 c3 c4 c5 c6 c7 c8 c9 c10 c11 c12 c13
  have hfr := fun i => Blk.frozen h i
  rw [h0] at c4
  have f2 := hfr 2
  have a0 := ha.cell 0
  have a1 := ha.cell 1
  have a2 := ha.cell 2
  simp at a0 a1 a2
  have hp := fun W => has_prefix2 W (t.s1.wr.extract t.s0.rd t.s1.wr.size) s (by simp; omega) (by omega)
  rw [show decide _ = _ from h1] at hp
  have hr' : (t.s0.rd : Int) ≤ t.s1.wr.size := by omega
  have hr0 : (0 : Int) ≤ t.s0.rd := by omega
  have Hp := Lib.hid hp
  clear hp
  clear h1
  have hgr : w.grownBy w (some b) := World.grownBy.refl w (some b)
  have H := Lib.hid h
  clear h
  have Hfr := Lib.hid hfr
  clear hfr
  have Hgr := Lib.hid hgr
  clear hgr
  go_enter Try.func43, Try.ntmps43
  go_wp2
  go_quiet ((go_at_call 44; exact quiet_left (Hp.out _)))
  go_wp2
  have hW := Blk.drewN H.out nq
  have hG := only_drewN Hgr.out nq
  have hA := Blk.drewN ha nq
  have HW := Lib.hid hW
  clear hW
  have HG := Lib.hid hG
  clear hG
  have HA := Lib.hid hA
  clear hA
  generalize w.drewN nq = W at *
  have d2 := HW.out.cell 2
  have f2 := Blk.frozen HW.out 2
  have q2 := HA.out.cell 2
  simp [trC] at d2 q2
  clear c0 c1 c2 c3 c4 c5 c6 c7 c8 c9 c10 c11 c12 c13 a0 a1 a2 hr' hr0
  have hsum : IntKind.i64.wrap ((t.s0.rd : Int) + (s.size : Int)) = (t.s0.rd : Int) + (s.size : Int) := IntWalk.i64_in _ (by omega)
  clear hr hs1
  go_still_tail 10, (by kernel_rfl)
  go_wp2
  go_ret
  exact ⟨rfl, TrAt.set (Blk.drew HW.out) 2 _ _ rfl, only_set (only_drew HG.out) 2 _⟩

theorem rule4_no_0 (w : World) (b ga : Nat) (t : Tr) (s : ByteArray) (h : TrAt w b t) (ha : Blk w ga 36 #[.int .i64 0, .int .u8 4, .string s]) (hr : t.s0.rd ≤ t.s1.wr.size) (hs1 : t.s1.wr.size ≤ 9223372036854775807) (hs2 : s.size ≤ 4611686018427387903) (hrd : t.s0.rd ≤ 4611686018427387903) (h0 : t.s0.eof = false) (h1 : prefixB t.s1.wr t.s0.rd s = false) :
    Calls Try.prog 43 #[.pointer (some ⟨b, 0, none⟩), .pointer (some ⟨b, 6, none⟩), .pointer (some ⟨ga, 0, none⟩)] w (Lets w b false t) := by
  have c0 := h.cell 0
  have c1 := h.cell 1
  have c2 := h.cell 2
  have c3 := h.cell 3
  have c4 := h.cell 4
  have c5 := h.cell 5
  have c6 := h.cell 6
  have c7 := h.cell 7
  have c8 := h.cell 8
  have c9 := h.cell 9
  have c10 := h.cell 10
  have c11 := h.cell 11
  have c12 := h.cell 12
  have c13 := h.cell 13
  simp [trC] at c0 c1 c2 c3 c4 c5 c6 c7 c8 c9 c10 c11 c12 c13
  have hfr := fun i => Blk.frozen h i
  rw [h0] at c4
  have f2 := hfr 2
  have a0 := ha.cell 0
  have a1 := ha.cell 1
  have a2 := ha.cell 2
  simp at a0 a1 a2
  have hp := fun W => has_prefix2 W (t.s1.wr.extract t.s0.rd t.s1.wr.size) s (by simp; omega) (by omega)
  rw [show decide _ = _ from h1] at hp
  have hr' : (t.s0.rd : Int) ≤ t.s1.wr.size := by omega
  have hr0 : (0 : Int) ≤ t.s0.rd := by omega
  have Hp := Lib.hid hp
  clear hp
  clear h1
  have hgr : w.grownBy w (some b) := World.grownBy.refl w (some b)
  have H := Lib.hid h
  clear h
  have Hfr := Lib.hid hfr
  clear hfr
  have Hgr := Lib.hid hgr
  clear hgr
  go_enter Try.func43, Try.ntmps43
  go_wp2
  go_quiet ((go_at_call 44; exact quiet_left (Hp.out _)))
  go_wp2
  go_ret
  exact ⟨rfl, Blk.drewN H.out _, only_drewN Hgr.out _⟩

theorem rule5_yes_0 (w : World) (b go : Nat) (t : Tr) (s : ByteArray) (h : TrAt w b t) (ho : Blk w go 88 #[.func (.func 39) #[] #[]]) (h0 : t.s0.cl = false) :
    Calls Try.prog 45 #[.pointer (some ⟨b, 0, none⟩), .pointer (some ⟨b, 6, none⟩), .pointer (some ⟨go, 0, none⟩)] w (Lets w b true { t with s0 := { t.s0 with cl := true } }) := by
  have c0 := h.cell 0
  have c1 := h.cell 1
  have c2 := h.cell 2
  have c3 := h.cell 3
  have c4 := h.cell 4
  have c5 := h.cell 5
  have c6 := h.cell 6
  have c7 := h.cell 7
  have c8 := h.cell 8
  have c9 := h.cell 9
  have c10 := h.cell 10
  have c11 := h.cell 11
  have c12 := h.cell 12
  have c13 := h.cell 13
  simp [trC] at c0 c1 c2 c3 c4 c5 c6 c7 c8 c9 c10 c11 c12 c13
  have hfr := fun i => Blk.frozen h i
  rw [h0] at c3
  have o0 := ho.cell 0
  simp at o0
  have hgr : w.grownBy w (some b) := World.grownBy.refl w (some b)
  have H := Lib.hid h
  clear h
  have Hfr := Lib.hid hfr
  clear hfr
  have Hgr := Lib.hid hgr
  clear hgr
  go_enter Try.func45, Try.ntmps45
  go_wp2
  go_still_tail 4, (by kernel_rfl)
  have hc := once_yes w.drew b 3 c3 (Hfr.out 3)
  go_wp2_with fail
  with_reducible refine hc.mono ?_
  rintro e w' ⟨rfl, rfl⟩
  go_wp2
  go_ret
  exact ⟨rfl, TrAt.set (Blk.drew H.out) 3 _ _ rfl, only_set (only_drew Hgr.out) 3 _⟩

theorem rule5_no_0 (w : World) (b go : Nat) (t : Tr) (s : ByteArray) (h : TrAt w b t) (ho : Blk w go 88 #[.func (.func 39) #[] #[]]) (h0 : t.s0.cl = true) :
    Calls Try.prog 45 #[.pointer (some ⟨b, 0, none⟩), .pointer (some ⟨b, 6, none⟩), .pointer (some ⟨go, 0, none⟩)] w (Lets w b false t) := by
  have c0 := h.cell 0
  have c1 := h.cell 1
  have c2 := h.cell 2
  have c3 := h.cell 3
  have c4 := h.cell 4
  have c5 := h.cell 5
  have c6 := h.cell 6
  have c7 := h.cell 7
  have c8 := h.cell 8
  have c9 := h.cell 9
  have c10 := h.cell 10
  have c11 := h.cell 11
  have c12 := h.cell 12
  have c13 := h.cell 13
  simp [trC] at c0 c1 c2 c3 c4 c5 c6 c7 c8 c9 c10 c11 c12 c13
  have hfr := fun i => Blk.frozen h i
  rw [h0] at c3
  have o0 := ho.cell 0
  simp at o0
  have hgr : w.grownBy w (some b) := World.grownBy.refl w (some b)
  have H := Lib.hid h
  clear h
  have Hfr := Lib.hid hfr
  clear hfr
  have Hgr := Lib.hid hgr
  clear hgr
  go_enter Try.func45, Try.ntmps45
  go_wp2
  go_still_tail 4, (by kernel_rfl)
  have hc := once_no w.drew b 3 true true c3 rfl
  go_wp2_with fail
  with_reducible refine hc.mono ?_
  rintro e w' ⟨rfl, rfl⟩
  go_wp2
  go_ret
  exact ⟨rfl, Blk.drew H.out, only_drew Hgr.out⟩

theorem rule6_yes_0 (w : World) (b go : Nat) (t : Tr) (s : ByteArray) (h : TrAt w b t) (ho : Blk w go 88 #[.func (.func 39) #[] #[]]) (h0 : t.s1.cl = true) (h1 : t.s0.rd = t.s1.wr.size) (h2 : t.s0.eof = false) :
    Calls Try.prog 46 #[.pointer (some ⟨b, 0, none⟩), .pointer (some ⟨b, 6, none⟩), .pointer (some ⟨go, 0, none⟩)] w (Lets w b true { t with s0 := { t.s0 with eof := true } }) := by
  have c0 := h.cell 0
  have c1 := h.cell 1
  have c2 := h.cell 2
  have c3 := h.cell 3
  have c4 := h.cell 4
  have c5 := h.cell 5
  have c6 := h.cell 6
  have c7 := h.cell 7
  have c8 := h.cell 8
  have c9 := h.cell 9
  have c10 := h.cell 10
  have c11 := h.cell 11
  have c12 := h.cell 12
  have c13 := h.cell 13
  simp [trC] at c0 c1 c2 c3 c4 c5 c6 c7 c8 c9 c10 c11 c12 c13
  have hfr := fun i => Blk.frozen h i
  rw [h0] at c9
  rw [h2] at c4
  rw [h1] at c2
  have o0 := ho.cell 0
  simp at o0
  have hgr : w.grownBy w (some b) := World.grownBy.refl w (some b)
  have H := Lib.hid h
  clear h
  have Hfr := Lib.hid hfr
  clear hfr
  have Hgr := Lib.hid hgr
  clear hgr
  go_enter Try.func46, Try.ntmps46
  go_wp2
  go_still_tail 20, (by kernel_rfl)
  have hc := once_yes w.drew b 4 c4 (Hfr.out 4)
  go_wp2_with fail
  with_reducible refine hc.mono ?_
  rintro e w' ⟨rfl, rfl⟩
  go_wp2
  go_ret
  exact ⟨rfl, TrAt.set (Blk.drew H.out) 4 _ _ rfl, only_set (only_drew Hgr.out) 4 _⟩

theorem rule6_open_0 (w : World) (b go : Nat) (t : Tr) (s : ByteArray) (h : TrAt w b t) (ho : Blk w go 88 #[.func (.func 39) #[] #[]]) (h0 : t.s1.cl = false) :
    Calls Try.prog 46 #[.pointer (some ⟨b, 0, none⟩), .pointer (some ⟨b, 6, none⟩), .pointer (some ⟨go, 0, none⟩)] w (Lets w b false t) := by
  have c0 := h.cell 0
  have c1 := h.cell 1
  have c2 := h.cell 2
  have c3 := h.cell 3
  have c4 := h.cell 4
  have c5 := h.cell 5
  have c6 := h.cell 6
  have c7 := h.cell 7
  have c8 := h.cell 8
  have c9 := h.cell 9
  have c10 := h.cell 10
  have c11 := h.cell 11
  have c12 := h.cell 12
  have c13 := h.cell 13
  simp [trC] at c0 c1 c2 c3 c4 c5 c6 c7 c8 c9 c10 c11 c12 c13
  have hfr := fun i => Blk.frozen h i
  rw [h0] at c9
  have o0 := ho.cell 0
  simp at o0
  have hgr : w.grownBy w (some b) := World.grownBy.refl w (some b)
  have H := Lib.hid h
  clear h
  have Hfr := Lib.hid hfr
  clear hfr
  have Hgr := Lib.hid hgr
  clear hgr
  go_enter Try.func46, Try.ntmps46
  go_wp2
  go_quiet ((go_at_call 39; exact quiet_left (once_no _ b 4 false _ c4 rfl)))
  go_wp2
  go_ret
  exact ⟨rfl, Blk.drewN H.out _, only_drewN Hgr.out _⟩

theorem rule6_less_0 (w : World) (b go : Nat) (t : Tr) (s : ByteArray) (h : TrAt w b t) (ho : Blk w go 88 #[.func (.func 39) #[] #[]]) (h0 : t.s1.cl = true) (h1 : t.s0.rd ≠ t.s1.wr.size) :
    Calls Try.prog 46 #[.pointer (some ⟨b, 0, none⟩), .pointer (some ⟨b, 6, none⟩), .pointer (some ⟨go, 0, none⟩)] w (Lets w b false t) := by
  have c0 := h.cell 0
  have c1 := h.cell 1
  have c2 := h.cell 2
  have c3 := h.cell 3
  have c4 := h.cell 4
  have c5 := h.cell 5
  have c6 := h.cell 6
  have c7 := h.cell 7
  have c8 := h.cell 8
  have c9 := h.cell 9
  have c10 := h.cell 10
  have c11 := h.cell 11
  have c12 := h.cell 12
  have c13 := h.cell 13
  simp [trC] at c0 c1 c2 c3 c4 c5 c6 c7 c8 c9 c10 c11 c12 c13
  have hfr := fun i => Blk.frozen h i
  rw [h0] at c9
  have h1b : ((t.s0.rd : Int) == (t.s1.wr.size : Int)) = false := by simp; omega
  have o0 := ho.cell 0
  simp at o0
  have hgr : w.grownBy w (some b) := World.grownBy.refl w (some b)
  have H := Lib.hid h
  clear h
  have Hfr := Lib.hid hfr
  clear hfr
  have Hgr := Lib.hid hgr
  clear hgr
  go_enter Try.func46, Try.ntmps46
  go_wp2
  go_still_tail 20, (by kernel_rfl)
  have hc := once_no w.drew b 4 false _ c4 rfl
  go_wp2_with fail
  with_reducible refine hc.mono ?_
  rintro e w' ⟨rfl, rfl⟩
  go_wp2
  go_ret
  exact ⟨rfl, Blk.drew H.out, only_drew Hgr.out⟩

theorem rule6_eof_0 (w : World) (b go : Nat) (t : Tr) (s : ByteArray) (h : TrAt w b t) (ho : Blk w go 88 #[.func (.func 39) #[] #[]]) (h0 : t.s1.cl = true) (h1 : t.s0.rd = t.s1.wr.size) (h2 : t.s0.eof = true) :
    Calls Try.prog 46 #[.pointer (some ⟨b, 0, none⟩), .pointer (some ⟨b, 6, none⟩), .pointer (some ⟨go, 0, none⟩)] w (Lets w b false t) := by
  have c0 := h.cell 0
  have c1 := h.cell 1
  have c2 := h.cell 2
  have c3 := h.cell 3
  have c4 := h.cell 4
  have c5 := h.cell 5
  have c6 := h.cell 6
  have c7 := h.cell 7
  have c8 := h.cell 8
  have c9 := h.cell 9
  have c10 := h.cell 10
  have c11 := h.cell 11
  have c12 := h.cell 12
  have c13 := h.cell 13
  simp [trC] at c0 c1 c2 c3 c4 c5 c6 c7 c8 c9 c10 c11 c12 c13
  have hfr := fun i => Blk.frozen h i
  rw [h0] at c9
  rw [h2] at c4
  rw [h1] at c2
  have o0 := ho.cell 0
  simp at o0
  have hgr : w.grownBy w (some b) := World.grownBy.refl w (some b)
  have H := Lib.hid h
  clear h
  have Hfr := Lib.hid hfr
  clear hfr
  have Hgr := Lib.hid hgr
  clear hgr
  go_enter Try.func46, Try.ntmps46
  go_wp2
  go_still_tail 20, (by kernel_rfl)
  have hc := once_no w.drew b 4 true true c4 rfl
  go_wp2_with fail
  with_reducible refine hc.mono ?_
  rintro e w' ⟨rfl, rfl⟩
  go_wp2
  go_ret
  exact ⟨rfl, Blk.drew H.out, only_drew Hgr.out⟩

theorem rule7_yes_0 (w : World) (b gt go : Nat) (t : Tr) (s : ByteArray) (h : TrAt w b t) (ho : Blk w go 88 #[.func (.func 39) #[] #[]]) (ht : Blk w gt 25 #[.pointer (some ⟨b, 0, none⟩)]) (h0 : t.s0.dd = false) (hgb : go ≠ b) (hgt : gt ≠ b) :
    Calls Try.prog 47 #[.pointer (some ⟨b, 0, none⟩), .pointer (some ⟨b, 6, none⟩), .pointer (some ⟨gt, 0, none⟩), .pointer (some ⟨go, 0, none⟩)] w (Lets w b true { t with s0 := { t.s0 with dd := true }, cause := true }) := by
  have c0 := h.cell 0
  have c1 := h.cell 1
  have c2 := h.cell 2
  have c3 := h.cell 3
  have c4 := h.cell 4
  have c5 := h.cell 5
  have c6 := h.cell 6
  have c7 := h.cell 7
  have c8 := h.cell 8
  have c9 := h.cell 9
  have c10 := h.cell 10
  have c11 := h.cell 11
  have c12 := h.cell 12
  have c13 := h.cell 13
  simp [trC] at c0 c1 c2 c3 c4 c5 c6 c7 c8 c9 c10 c11 c12 c13
  have hfr := fun i => Blk.frozen h i
  have f12 := hfr 12
  have o0 := ho.cell 0
  simp at o0
  have t0 := ht.cell 0
  simp at t0
  have hgr : w.grownBy w (some b) := World.grownBy.refl w (some b)
  have H := Lib.hid h
  clear h
  have Hfr := Lib.hid hfr
  clear hfr
  have Hgr := Lib.hid hgr
  clear hgr
  go_enter Try.func47, Try.ntmps47
  have hA : TrAt (w.setCell ⟨b, 12, none⟩ (.bool true)) b { t with cause := true } := TrAt.set H.out 12 _ _ rfl
  have hG := only_set Hgr.out 12 (.bool true)
  have hO := Blk.far ho (p := ⟨b, 12, none⟩) hgb (.bool true)
  go_upto_region 2 with fail
  have HA := Lib.hid hA
  clear hA
  have HG := Lib.hid hG
  clear hG
  have HO := Lib.hid hO
  clear hO
  generalize w.setCell ⟨b, 12, none⟩ (.bool true) = W at *
  have d5 := HA.out.cell 5
  have f5 := Blk.frozen HA.out 5
  simp [trC, h0] at d5
  have q0 := HO.out.cell 0
  simp at q0
  clear c0 c1 c2 c3 c4 c5 c6 c7 c8 c9 c10 c11 c12 c13
  go_still_tail 4, (by kernel_rfl)
  have hc := once_yes W.drew b 5 d5 f5
  go_wp2_with fail
  with_reducible refine hc.mono ?_
  rintro e w' ⟨rfl, rfl⟩
  go_wp2
  go_ret
  exact ⟨rfl, TrAt.set (Blk.drew HA.out) 5 _ _ rfl, only_set (only_drew HG.out) 5 _⟩

theorem rule8_yes_0 (w : World) (b go gt : Nat) (t : Tr) (s : ByteArray) (h : TrAt w b t) (ho : Blk w go 88 #[.func (.func 39) #[] #[]]) (ht : Blk w gt 25 #[.pointer (some ⟨b, 0, none⟩)]) (h0 : t.s0.dd = false) (h1 : t.cause = true) :
    Calls Try.prog 48 #[.pointer (some ⟨b, 0, none⟩), .pointer (some ⟨b, 6, none⟩), .pointer (some ⟨go, 0, none⟩), .pointer (some ⟨gt, 0, none⟩)] w (Lets w b true { t with s0 := { t.s0 with dd := true } }) := by
  have c0 := h.cell 0
  have c1 := h.cell 1
  have c2 := h.cell 2
  have c3 := h.cell 3
  have c4 := h.cell 4
  have c5 := h.cell 5
  have c6 := h.cell 6
  have c7 := h.cell 7
  have c8 := h.cell 8
  have c9 := h.cell 9
  have c10 := h.cell 10
  have c11 := h.cell 11
  have c12 := h.cell 12
  have c13 := h.cell 13
  simp [trC] at c0 c1 c2 c3 c4 c5 c6 c7 c8 c9 c10 c11 c12 c13
  have hfr := fun i => Blk.frozen h i
  rw [h0] at c5
  rw [h1] at c12
  have o0 := ho.cell 0
  simp at o0
  have t0 := ht.cell 0
  simp at t0
  have hgr : w.grownBy w (some b) := World.grownBy.refl w (some b)
  have H := Lib.hid h
  clear h
  have Hfr := Lib.hid hfr
  clear hfr
  have Hgr := Lib.hid hgr
  clear hgr
  go_enter Try.func48, Try.ntmps48
  go_wp2
  go_still_tail 8, (by kernel_rfl)
  have hc := once_yes w.drew b 5 c5 (Hfr.out 5)
  go_wp2_with fail
  with_reducible refine hc.mono ?_
  rintro e w' ⟨rfl, rfl⟩
  go_wp2
  go_ret
  exact ⟨rfl, TrAt.set (Blk.drew H.out) 5 _ _ rfl, only_set (only_drew Hgr.out) 5 _⟩

theorem rule8_no_0 (w : World) (b go gt : Nat) (t : Tr) (s : ByteArray) (h : TrAt w b t) (ho : Blk w go 88 #[.func (.func 39) #[] #[]]) (ht : Blk w gt 25 #[.pointer (some ⟨b, 0, none⟩)]) (h1 : t.cause = false) :
    Calls Try.prog 48 #[.pointer (some ⟨b, 0, none⟩), .pointer (some ⟨b, 6, none⟩), .pointer (some ⟨go, 0, none⟩), .pointer (some ⟨gt, 0, none⟩)] w (Lets w b false t) := by
  have c0 := h.cell 0
  have c1 := h.cell 1
  have c2 := h.cell 2
  have c3 := h.cell 3
  have c4 := h.cell 4
  have c5 := h.cell 5
  have c6 := h.cell 6
  have c7 := h.cell 7
  have c8 := h.cell 8
  have c9 := h.cell 9
  have c10 := h.cell 10
  have c11 := h.cell 11
  have c12 := h.cell 12
  have c13 := h.cell 13
  simp [trC] at c0 c1 c2 c3 c4 c5 c6 c7 c8 c9 c10 c11 c12 c13
  have hfr := fun i => Blk.frozen h i
  rw [h1] at c12
  have o0 := ho.cell 0
  simp at o0
  have t0 := ht.cell 0
  simp at t0
  have hgr : w.grownBy w (some b) := World.grownBy.refl w (some b)
  have H := Lib.hid h
  clear h
  have Hfr := Lib.hid hfr
  clear hfr
  have Hgr := Lib.hid hgr
  clear hgr
  go_enter Try.func48, Try.ntmps48
  go_wp2
  go_still_tail 8, (by kernel_rfl)
  have hc := once_no w.drew b 5 false _ c5 rfl
  go_wp2_with fail
  with_reducible refine hc.mono ?_
  rintro e w' ⟨rfl, rfl⟩
  go_wp2
  go_ret
  exact ⟨rfl, Blk.drew H.out, only_drew Hgr.out⟩

theorem rule9_yes_0 (w : World) (b gt : Nat) (t : Tr) (s : ByteArray) (h : TrAt w b t) (ht : Blk w gt 25 #[.pointer (some ⟨b, 0, none⟩)]) :
    Calls Try.prog 49 #[.pointer (some ⟨b, 0, none⟩), .pointer (some ⟨b, 6, none⟩), .pointer (some ⟨gt, 0, none⟩)] w (Lets w b true { t with cause := true }) := by
  have c0 := h.cell 0
  have c1 := h.cell 1
  have c2 := h.cell 2
  have c3 := h.cell 3
  have c4 := h.cell 4
  have c5 := h.cell 5
  have c6 := h.cell 6
  have c7 := h.cell 7
  have c8 := h.cell 8
  have c9 := h.cell 9
  have c10 := h.cell 10
  have c11 := h.cell 11
  have c12 := h.cell 12
  have c13 := h.cell 13
  simp [trC] at c0 c1 c2 c3 c4 c5 c6 c7 c8 c9 c10 c11 c12 c13
  have hfr := fun i => Blk.frozen h i
  have f12 := hfr 12
  have t0 := ht.cell 0
  simp at t0
  have hgr : w.grownBy w (some b) := World.grownBy.refl w (some b)
  have H := Lib.hid h
  clear h
  have Hfr := Lib.hid hfr
  clear hfr
  have Hgr := Lib.hid hgr
  clear hgr
  go_enter Try.func49, Try.ntmps49
  go_wp2
  go_ret
  exact ⟨rfl, TrAt.set H.out 12 _ _ rfl, only_set Hgr.out 12 _⟩

theorem rule1_no_1 (w : World) (b go ga : Nat) (t : Tr) (s : ByteArray) (h : TrAt w b t) (ho : Blk w go 88 #[.func (.func 39) #[] #[]]) (ha : Blk w ga 36 #[.int .i64 1, .int .u8 1, .string s]) :
    Calls Try.prog 40 #[.pointer (some ⟨b, 6, none⟩), .pointer (some ⟨b, 0, none⟩), .pointer (some ⟨go, 0, none⟩), .pointer (some ⟨ga, 0, none⟩)] w (Lets w b false t) := by
  have c0 := h.cell 0
  have c1 := h.cell 1
  have c2 := h.cell 2
  have c3 := h.cell 3
  have c4 := h.cell 4
  have c5 := h.cell 5
  have c6 := h.cell 6
  have c7 := h.cell 7
  have c8 := h.cell 8
  have c9 := h.cell 9
  have c10 := h.cell 10
  have c11 := h.cell 11
  have c12 := h.cell 12
  have c13 := h.cell 13
  simp [trC] at c0 c1 c2 c3 c4 c5 c6 c7 c8 c9 c10 c11 c12 c13
  have hfr := fun i => Blk.frozen h i
  have o0 := ho.cell 0
  simp at o0
  have a0 := ha.cell 0
  have a1 := ha.cell 1
  have a2 := ha.cell 2
  simp at a0 a1 a2
  have hgr : w.grownBy w (some b) := World.grownBy.refl w (some b)
  have H := Lib.hid h
  clear h
  have Hfr := Lib.hid hfr
  clear hfr
  have Hgr := Lib.hid hgr
  clear hgr
  go_enter Try.func40, Try.ntmps40
  go_wp2
  go_still_tail 7, (by kernel_rfl)
  have hc := once_no w.drew b 6 false _ c6 rfl
  go_wp2_with fail
  with_reducible refine hc.mono ?_
  rintro e w' ⟨rfl, rfl⟩
  go_wp2
  go_ret
  exact ⟨rfl, Blk.drew H.out, only_drew Hgr.out⟩

theorem rule2_yes_1 (w : World) (b go ga : Nat) (t : Tr) (s : ByteArray) (h : TrAt w b t) (ho : Blk w go 88 #[.func (.func 39) #[] #[]]) (ha : Blk w ga 36 #[.int .i64 1, .int .u8 2, .string s]) (h0 : t.s0.opn = true) (h1 : t.s1.opn = false) :
    Calls Try.prog 41 #[.pointer (some ⟨b, 6, none⟩), .pointer (some ⟨b, 0, none⟩), .pointer (some ⟨go, 0, none⟩), .pointer (some ⟨ga, 0, none⟩)] w (Lets w b true { t with s1 := { t.s1 with opn := true } }) := by
  have c0 := h.cell 0
  have c1 := h.cell 1
  have c2 := h.cell 2
  have c3 := h.cell 3
  have c4 := h.cell 4
  have c5 := h.cell 5
  have c6 := h.cell 6
  have c7 := h.cell 7
  have c8 := h.cell 8
  have c9 := h.cell 9
  have c10 := h.cell 10
  have c11 := h.cell 11
  have c12 := h.cell 12
  have c13 := h.cell 13
  simp [trC] at c0 c1 c2 c3 c4 c5 c6 c7 c8 c9 c10 c11 c12 c13
  have hfr := fun i => Blk.frozen h i
  rw [h0] at c0
  rw [h1] at c6
  have o0 := ho.cell 0
  simp at o0
  have a0 := ha.cell 0
  have a1 := ha.cell 1
  have a2 := ha.cell 2
  simp at a0 a1 a2
  have hgr : w.grownBy w (some b) := World.grownBy.refl w (some b)
  have H := Lib.hid h
  clear h
  have Hfr := Lib.hid hfr
  clear hfr
  have Hgr := Lib.hid hgr
  clear hgr
  go_enter Try.func41, Try.ntmps41
  go_wp2
  go_still_tail 13, (by kernel_rfl)
  have hc := once_yes w.drew b 6 c6 (Hfr.out 6)
  go_wp2_with fail
  with_reducible refine hc.mono ?_
  rintro e w' ⟨rfl, rfl⟩
  go_wp2
  go_ret
  exact ⟨rfl, TrAt.set (Blk.drew H.out) 6 _ _ rfl, only_set (only_drew Hgr.out) 6 _⟩

theorem rule2_no_1 (w : World) (b go ga : Nat) (t : Tr) (s : ByteArray) (h : TrAt w b t) (ho : Blk w go 88 #[.func (.func 39) #[] #[]]) (ha : Blk w ga 36 #[.int .i64 1, .int .u8 2, .string s]) (h1 : (t.s0.opn && !t.s1.opn) = false) :
    Calls Try.prog 41 #[.pointer (some ⟨b, 6, none⟩), .pointer (some ⟨b, 0, none⟩), .pointer (some ⟨go, 0, none⟩), .pointer (some ⟨ga, 0, none⟩)] w (Lets w b false t) := by
  have c0 := h.cell 0
  have c1 := h.cell 1
  have c2 := h.cell 2
  have c3 := h.cell 3
  have c4 := h.cell 4
  have c5 := h.cell 5
  have c6 := h.cell 6
  have c7 := h.cell 7
  have c8 := h.cell 8
  have c9 := h.cell 9
  have c10 := h.cell 10
  have c11 := h.cell 11
  have c12 := h.cell 12
  have c13 := h.cell 13
  simp [trC] at c0 c1 c2 c3 c4 c5 c6 c7 c8 c9 c10 c11 c12 c13
  have hfr := fun i => Blk.frozen h i
  have o0 := ho.cell 0
  simp at o0
  have a0 := ha.cell 0
  have a1 := ha.cell 1
  have a2 := ha.cell 2
  simp at a0 a1 a2
  have hgr : w.grownBy w (some b) := World.grownBy.refl w (some b)
  have H := Lib.hid h
  clear h
  have Hfr := Lib.hid hfr
  clear hfr
  have Hgr := Lib.hid hgr
  clear hgr
  go_enter Try.func41, Try.ntmps41
  go_wp2
  go_still_tail 13, (by kernel_rfl)
  have hc := once_no w.drew b 6 t.s0.opn _ c6 h1
  go_wp2_with fail
  with_reducible refine hc.mono ?_
  rintro e w' ⟨rfl, rfl⟩
  go_wp2
  go_ret
  exact ⟨rfl, Blk.drew H.out, only_drew Hgr.out⟩

theorem rule3_yes_1 (w : World) (b ga : Nat) (t : Tr) (s : ByteArray) (h : TrAt w b t) (ha : Blk w ga 36 #[.int .i64 1, .int .u8 3, .string s]) (h0 : t.s1.cl = false) (hz : t.s1.wr.size + s.size ≤ 9223372036854775807) :
    Calls Try.prog 42 #[.pointer (some ⟨b, 6, none⟩), .pointer (some ⟨b, 0, none⟩), .pointer (some ⟨ga, 0, none⟩)] w (Lets w b true { t with s1 := { t.s1 with wr := t.s1.wr ++ s } }) := by
  have c0 := h.cell 0
  have c1 := h.cell 1
  have c2 := h.cell 2
  have c3 := h.cell 3
  have c4 := h.cell 4
  have c5 := h.cell 5
  have c6 := h.cell 6
  have c7 := h.cell 7
  have c8 := h.cell 8
  have c9 := h.cell 9
  have c10 := h.cell 10
  have c11 := h.cell 11
  have c12 := h.cell 12
  have c13 := h.cell 13
  simp [trC] at c0 c1 c2 c3 c4 c5 c6 c7 c8 c9 c10 c11 c12 c13
  have hfr := fun i => Blk.frozen h i
  rw [h0] at c9
  have f7 := hfr 7
  have hadd := fun W : World => run_string_add_sum (P := Try.prog) W t.s1.wr s hz
  have a0 := ha.cell 0
  have a1 := ha.cell 1
  have a2 := ha.cell 2
  simp at a0 a1 a2
  have hgr : w.grownBy w (some b) := World.grownBy.refl w (some b)
  have H := Lib.hid h
  clear h
  have Hfr := Lib.hid hfr
  clear hfr
  have Hgr := Lib.hid hgr
  clear hgr
  go_enter Try.func42, Try.ntmps42
  go_wp2
  go_still_tail 9, (by kernel_rfl)
  go_wp2
  go_ret
  exact ⟨rfl, TrAt.set (Blk.drew H.out) 7 _ _ rfl, only_set (only_drew Hgr.out) 7 _⟩

theorem rule3_no_1 (w : World) (b ga : Nat) (t : Tr) (s : ByteArray) (h : TrAt w b t) (ha : Blk w ga 36 #[.int .i64 1, .int .u8 3, .string s]) (h0 : t.s1.cl = true) :
    Calls Try.prog 42 #[.pointer (some ⟨b, 6, none⟩), .pointer (some ⟨b, 0, none⟩), .pointer (some ⟨ga, 0, none⟩)] w (Lets w b false t) := by
  have c0 := h.cell 0
  have c1 := h.cell 1
  have c2 := h.cell 2
  have c3 := h.cell 3
  have c4 := h.cell 4
  have c5 := h.cell 5
  have c6 := h.cell 6
  have c7 := h.cell 7
  have c8 := h.cell 8
  have c9 := h.cell 9
  have c10 := h.cell 10
  have c11 := h.cell 11
  have c12 := h.cell 12
  have c13 := h.cell 13
  simp [trC] at c0 c1 c2 c3 c4 c5 c6 c7 c8 c9 c10 c11 c12 c13
  have hfr := fun i => Blk.frozen h i
  rw [h0] at c9
  have a0 := ha.cell 0
  have a1 := ha.cell 1
  have a2 := ha.cell 2
  simp at a0 a1 a2
  have hgr : w.grownBy w (some b) := World.grownBy.refl w (some b)
  have H := Lib.hid h
  clear h
  have Hfr := Lib.hid hfr
  clear hfr
  have Hgr := Lib.hid hgr
  clear hgr
  go_enter Try.func42, Try.ntmps42
  go_wp2
  go_ret
  exact ⟨rfl, H.out, Hgr.out⟩

theorem rule4_eof_1 (w : World) (b ga : Nat) (t : Tr) (s : ByteArray) (h : TrAt w b t) (ha : Blk w ga 36 #[.int .i64 1, .int .u8 4, .string s]) (h0 : t.s1.eof = true) :
    Calls Try.prog 43 #[.pointer (some ⟨b, 6, none⟩), .pointer (some ⟨b, 0, none⟩), .pointer (some ⟨ga, 0, none⟩)] w (Lets w b false t) := by
  have c0 := h.cell 0
  have c1 := h.cell 1
  have c2 := h.cell 2
  have c3 := h.cell 3
  have c4 := h.cell 4
  have c5 := h.cell 5
  have c6 := h.cell 6
  have c7 := h.cell 7
  have c8 := h.cell 8
  have c9 := h.cell 9
  have c10 := h.cell 10
  have c11 := h.cell 11
  have c12 := h.cell 12
  have c13 := h.cell 13
  simp [trC] at c0 c1 c2 c3 c4 c5 c6 c7 c8 c9 c10 c11 c12 c13
  have hfr := fun i => Blk.frozen h i
  rw [h0] at c10
  have a0 := ha.cell 0
  have a1 := ha.cell 1
  have a2 := ha.cell 2
  simp at a0 a1 a2
  have hgr : w.grownBy w (some b) := World.grownBy.refl w (some b)
  have H := Lib.hid h
  clear h
  have Hfr := Lib.hid hfr
  clear hfr
  have Hgr := Lib.hid hgr
  clear hgr
  go_enter Try.func43, Try.ntmps43
  go_wp2
  go_quiet (fail)
  go_wp2
  go_ret
  exact ⟨rfl, Blk.drewN H.out _, only_drewN Hgr.out _⟩

theorem rule4_yes_1 (w : World) (b ga : Nat) (t : Tr) (s : ByteArray) (h : TrAt w b t) (ha : Blk w ga 36 #[.int .i64 1, .int .u8 4, .string s]) (hr : t.s1.rd ≤ t.s0.wr.size) (hs1 : t.s0.wr.size ≤ 9223372036854775807) (hs2 : s.size ≤ 4611686018427387903) (hrd : t.s1.rd ≤ 4611686018427387903) (h0 : t.s1.eof = false) (h1 : prefixB t.s0.wr t.s1.rd s = true) :
    Calls Try.prog 43 #[.pointer (some ⟨b, 6, none⟩), .pointer (some ⟨b, 0, none⟩), .pointer (some ⟨ga, 0, none⟩)] w (Lets w b true { t with s1 := { t.s1 with rd := t.s1.rd + s.size } }) := by
  have c0 := h.cell 0
  have c1 := h.cell 1
  have c2 := h.cell 2
  have c3 := h.cell 3
  have c4 := h.cell 4
  have c5 := h.cell 5
  have c6 := h.cell 6
  have c7 := h.cell 7
  have c8 := h.cell 8
  have c9 := h.cell 9
  have c10 := h.cell 10
  have c11 := h.cell 11
  have c12 := h.cell 12
  have c13 := h.cell 13
  simp [trC] at c0 c1 c2 c3 c4 c5 c6 c7 c8 c9 c10 c11 c12 c13
  have hfr := fun i => Blk.frozen h i
  rw [h0] at c10
  have f8 := hfr 8
  have a0 := ha.cell 0
  have a1 := ha.cell 1
  have a2 := ha.cell 2
  simp at a0 a1 a2
  have hp := fun W => has_prefix2 W (t.s0.wr.extract t.s1.rd t.s0.wr.size) s (by simp; omega) (by omega)
  rw [show decide _ = _ from h1] at hp
  have hr' : (t.s1.rd : Int) ≤ t.s0.wr.size := by omega
  have hr0 : (0 : Int) ≤ t.s1.rd := by omega
  have Hp := Lib.hid hp
  clear hp
  clear h1
  have hgr : w.grownBy w (some b) := World.grownBy.refl w (some b)
  have H := Lib.hid h
  clear h
  have Hfr := Lib.hid hfr
  clear hfr
  have Hgr := Lib.hid hgr
  clear hgr
  go_enter Try.func43, Try.ntmps43
  go_wp2
  go_quiet ((go_at_call 44; exact quiet_left (Hp.out _)))
  go_wp2
  have hW := Blk.drewN H.out nq
  have hG := only_drewN Hgr.out nq
  have hA := Blk.drewN ha nq
  have HW := Lib.hid hW
  clear hW
  have HG := Lib.hid hG
  clear hG
  have HA := Lib.hid hA
  clear hA
  generalize w.drewN nq = W at *
  have d2 := HW.out.cell 8
  have f2 := Blk.frozen HW.out 8
  have q2 := HA.out.cell 2
  simp [trC] at d2 q2
  clear c0 c1 c2 c3 c4 c5 c6 c7 c8 c9 c10 c11 c12 c13 a0 a1 a2 hr' hr0
  have hsum : IntKind.i64.wrap ((t.s1.rd : Int) + (s.size : Int)) = (t.s1.rd : Int) + (s.size : Int) := IntWalk.i64_in _ (by omega)
  clear hr hs1
  go_still_tail 10, (by kernel_rfl)
  go_wp2
  go_ret
  exact ⟨rfl, TrAt.set (Blk.drew HW.out) 8 _ _ rfl, only_set (only_drew HG.out) 8 _⟩

theorem rule4_no_1 (w : World) (b ga : Nat) (t : Tr) (s : ByteArray) (h : TrAt w b t) (ha : Blk w ga 36 #[.int .i64 1, .int .u8 4, .string s]) (hr : t.s1.rd ≤ t.s0.wr.size) (hs1 : t.s0.wr.size ≤ 9223372036854775807) (hs2 : s.size ≤ 4611686018427387903) (hrd : t.s1.rd ≤ 4611686018427387903) (h0 : t.s1.eof = false) (h1 : prefixB t.s0.wr t.s1.rd s = false) :
    Calls Try.prog 43 #[.pointer (some ⟨b, 6, none⟩), .pointer (some ⟨b, 0, none⟩), .pointer (some ⟨ga, 0, none⟩)] w (Lets w b false t) := by
  have c0 := h.cell 0
  have c1 := h.cell 1
  have c2 := h.cell 2
  have c3 := h.cell 3
  have c4 := h.cell 4
  have c5 := h.cell 5
  have c6 := h.cell 6
  have c7 := h.cell 7
  have c8 := h.cell 8
  have c9 := h.cell 9
  have c10 := h.cell 10
  have c11 := h.cell 11
  have c12 := h.cell 12
  have c13 := h.cell 13
  simp [trC] at c0 c1 c2 c3 c4 c5 c6 c7 c8 c9 c10 c11 c12 c13
  have hfr := fun i => Blk.frozen h i
  rw [h0] at c10
  have f8 := hfr 8
  have a0 := ha.cell 0
  have a1 := ha.cell 1
  have a2 := ha.cell 2
  simp at a0 a1 a2
  have hp := fun W => has_prefix2 W (t.s0.wr.extract t.s1.rd t.s0.wr.size) s (by simp; omega) (by omega)
  rw [show decide _ = _ from h1] at hp
  have hr' : (t.s1.rd : Int) ≤ t.s0.wr.size := by omega
  have hr0 : (0 : Int) ≤ t.s1.rd := by omega
  have Hp := Lib.hid hp
  clear hp
  clear h1
  have hgr : w.grownBy w (some b) := World.grownBy.refl w (some b)
  have H := Lib.hid h
  clear h
  have Hfr := Lib.hid hfr
  clear hfr
  have Hgr := Lib.hid hgr
  clear hgr
  go_enter Try.func43, Try.ntmps43
  go_wp2
  go_quiet ((go_at_call 44; exact quiet_left (Hp.out _)))
  go_wp2
  go_ret
  exact ⟨rfl, Blk.drewN H.out _, only_drewN Hgr.out _⟩

theorem rule5_yes_1 (w : World) (b go : Nat) (t : Tr) (s : ByteArray) (h : TrAt w b t) (ho : Blk w go 88 #[.func (.func 39) #[] #[]]) (h0 : t.s1.cl = false) :
    Calls Try.prog 45 #[.pointer (some ⟨b, 6, none⟩), .pointer (some ⟨b, 0, none⟩), .pointer (some ⟨go, 0, none⟩)] w (Lets w b true { t with s1 := { t.s1 with cl := true } }) := by
  have c0 := h.cell 0
  have c1 := h.cell 1
  have c2 := h.cell 2
  have c3 := h.cell 3
  have c4 := h.cell 4
  have c5 := h.cell 5
  have c6 := h.cell 6
  have c7 := h.cell 7
  have c8 := h.cell 8
  have c9 := h.cell 9
  have c10 := h.cell 10
  have c11 := h.cell 11
  have c12 := h.cell 12
  have c13 := h.cell 13
  simp [trC] at c0 c1 c2 c3 c4 c5 c6 c7 c8 c9 c10 c11 c12 c13
  have hfr := fun i => Blk.frozen h i
  rw [h0] at c9
  have o0 := ho.cell 0
  simp at o0
  have hgr : w.grownBy w (some b) := World.grownBy.refl w (some b)
  have H := Lib.hid h
  clear h
  have Hfr := Lib.hid hfr
  clear hfr
  have Hgr := Lib.hid hgr
  clear hgr
  go_enter Try.func45, Try.ntmps45
  go_wp2
  go_still_tail 4, (by kernel_rfl)
  have hc := once_yes w.drew b 9 c9 (Hfr.out 9)
  go_wp2_with fail
  with_reducible refine hc.mono ?_
  rintro e w' ⟨rfl, rfl⟩
  go_wp2
  go_ret
  exact ⟨rfl, TrAt.set (Blk.drew H.out) 9 _ _ rfl, only_set (only_drew Hgr.out) 9 _⟩

theorem rule5_no_1 (w : World) (b go : Nat) (t : Tr) (s : ByteArray) (h : TrAt w b t) (ho : Blk w go 88 #[.func (.func 39) #[] #[]]) (h0 : t.s1.cl = true) :
    Calls Try.prog 45 #[.pointer (some ⟨b, 6, none⟩), .pointer (some ⟨b, 0, none⟩), .pointer (some ⟨go, 0, none⟩)] w (Lets w b false t) := by
  have c0 := h.cell 0
  have c1 := h.cell 1
  have c2 := h.cell 2
  have c3 := h.cell 3
  have c4 := h.cell 4
  have c5 := h.cell 5
  have c6 := h.cell 6
  have c7 := h.cell 7
  have c8 := h.cell 8
  have c9 := h.cell 9
  have c10 := h.cell 10
  have c11 := h.cell 11
  have c12 := h.cell 12
  have c13 := h.cell 13
  simp [trC] at c0 c1 c2 c3 c4 c5 c6 c7 c8 c9 c10 c11 c12 c13
  have hfr := fun i => Blk.frozen h i
  rw [h0] at c9
  have o0 := ho.cell 0
  simp at o0
  have hgr : w.grownBy w (some b) := World.grownBy.refl w (some b)
  have H := Lib.hid h
  clear h
  have Hfr := Lib.hid hfr
  clear hfr
  have Hgr := Lib.hid hgr
  clear hgr
  go_enter Try.func45, Try.ntmps45
  go_wp2
  go_still_tail 4, (by kernel_rfl)
  have hc := once_no w.drew b 9 true true c9 rfl
  go_wp2_with fail
  with_reducible refine hc.mono ?_
  rintro e w' ⟨rfl, rfl⟩
  go_wp2
  go_ret
  exact ⟨rfl, Blk.drew H.out, only_drew Hgr.out⟩

theorem rule6_yes_1 (w : World) (b go : Nat) (t : Tr) (s : ByteArray) (h : TrAt w b t) (ho : Blk w go 88 #[.func (.func 39) #[] #[]]) (h0 : t.s0.cl = true) (h1 : t.s1.rd = t.s0.wr.size) (h2 : t.s1.eof = false) :
    Calls Try.prog 46 #[.pointer (some ⟨b, 6, none⟩), .pointer (some ⟨b, 0, none⟩), .pointer (some ⟨go, 0, none⟩)] w (Lets w b true { t with s1 := { t.s1 with eof := true } }) := by
  have c0 := h.cell 0
  have c1 := h.cell 1
  have c2 := h.cell 2
  have c3 := h.cell 3
  have c4 := h.cell 4
  have c5 := h.cell 5
  have c6 := h.cell 6
  have c7 := h.cell 7
  have c8 := h.cell 8
  have c9 := h.cell 9
  have c10 := h.cell 10
  have c11 := h.cell 11
  have c12 := h.cell 12
  have c13 := h.cell 13
  simp [trC] at c0 c1 c2 c3 c4 c5 c6 c7 c8 c9 c10 c11 c12 c13
  have hfr := fun i => Blk.frozen h i
  rw [h0] at c3
  rw [h2] at c10
  rw [h1] at c8
  have o0 := ho.cell 0
  simp at o0
  have hgr : w.grownBy w (some b) := World.grownBy.refl w (some b)
  have H := Lib.hid h
  clear h
  have Hfr := Lib.hid hfr
  clear hfr
  have Hgr := Lib.hid hgr
  clear hgr
  go_enter Try.func46, Try.ntmps46
  go_wp2
  go_still_tail 20, (by kernel_rfl)
  have hc := once_yes w.drew b 10 c10 (Hfr.out 10)
  go_wp2_with fail
  with_reducible refine hc.mono ?_
  rintro e w' ⟨rfl, rfl⟩
  go_wp2
  go_ret
  exact ⟨rfl, TrAt.set (Blk.drew H.out) 10 _ _ rfl, only_set (only_drew Hgr.out) 10 _⟩

theorem rule6_open_1 (w : World) (b go : Nat) (t : Tr) (s : ByteArray) (h : TrAt w b t) (ho : Blk w go 88 #[.func (.func 39) #[] #[]]) (h0 : t.s0.cl = false) :
    Calls Try.prog 46 #[.pointer (some ⟨b, 6, none⟩), .pointer (some ⟨b, 0, none⟩), .pointer (some ⟨go, 0, none⟩)] w (Lets w b false t) := by
  have c0 := h.cell 0
  have c1 := h.cell 1
  have c2 := h.cell 2
  have c3 := h.cell 3
  have c4 := h.cell 4
  have c5 := h.cell 5
  have c6 := h.cell 6
  have c7 := h.cell 7
  have c8 := h.cell 8
  have c9 := h.cell 9
  have c10 := h.cell 10
  have c11 := h.cell 11
  have c12 := h.cell 12
  have c13 := h.cell 13
  simp [trC] at c0 c1 c2 c3 c4 c5 c6 c7 c8 c9 c10 c11 c12 c13
  have hfr := fun i => Blk.frozen h i
  rw [h0] at c3
  have o0 := ho.cell 0
  simp at o0
  have hgr : w.grownBy w (some b) := World.grownBy.refl w (some b)
  have H := Lib.hid h
  clear h
  have Hfr := Lib.hid hfr
  clear hfr
  have Hgr := Lib.hid hgr
  clear hgr
  go_enter Try.func46, Try.ntmps46
  go_wp2
  go_quiet ((go_at_call 39; exact quiet_left (once_no _ b 10 false _ c10 rfl)))
  go_wp2
  go_ret
  exact ⟨rfl, Blk.drewN H.out _, only_drewN Hgr.out _⟩

theorem rule6_less_1 (w : World) (b go : Nat) (t : Tr) (s : ByteArray) (h : TrAt w b t) (ho : Blk w go 88 #[.func (.func 39) #[] #[]]) (h0 : t.s0.cl = true) (h1 : t.s1.rd ≠ t.s0.wr.size) :
    Calls Try.prog 46 #[.pointer (some ⟨b, 6, none⟩), .pointer (some ⟨b, 0, none⟩), .pointer (some ⟨go, 0, none⟩)] w (Lets w b false t) := by
  have c0 := h.cell 0
  have c1 := h.cell 1
  have c2 := h.cell 2
  have c3 := h.cell 3
  have c4 := h.cell 4
  have c5 := h.cell 5
  have c6 := h.cell 6
  have c7 := h.cell 7
  have c8 := h.cell 8
  have c9 := h.cell 9
  have c10 := h.cell 10
  have c11 := h.cell 11
  have c12 := h.cell 12
  have c13 := h.cell 13
  simp [trC] at c0 c1 c2 c3 c4 c5 c6 c7 c8 c9 c10 c11 c12 c13
  have hfr := fun i => Blk.frozen h i
  rw [h0] at c3
  have h1b : ((t.s1.rd : Int) == (t.s0.wr.size : Int)) = false := by simp; omega
  have o0 := ho.cell 0
  simp at o0
  have hgr : w.grownBy w (some b) := World.grownBy.refl w (some b)
  have H := Lib.hid h
  clear h
  have Hfr := Lib.hid hfr
  clear hfr
  have Hgr := Lib.hid hgr
  clear hgr
  go_enter Try.func46, Try.ntmps46
  go_wp2
  go_still_tail 20, (by kernel_rfl)
  have hc := once_no w.drew b 10 false _ c10 rfl
  go_wp2_with fail
  with_reducible refine hc.mono ?_
  rintro e w' ⟨rfl, rfl⟩
  go_wp2
  go_ret
  exact ⟨rfl, Blk.drew H.out, only_drew Hgr.out⟩

theorem rule6_eof_1 (w : World) (b go : Nat) (t : Tr) (s : ByteArray) (h : TrAt w b t) (ho : Blk w go 88 #[.func (.func 39) #[] #[]]) (h0 : t.s0.cl = true) (h1 : t.s1.rd = t.s0.wr.size) (h2 : t.s1.eof = true) :
    Calls Try.prog 46 #[.pointer (some ⟨b, 6, none⟩), .pointer (some ⟨b, 0, none⟩), .pointer (some ⟨go, 0, none⟩)] w (Lets w b false t) := by
  have c0 := h.cell 0
  have c1 := h.cell 1
  have c2 := h.cell 2
  have c3 := h.cell 3
  have c4 := h.cell 4
  have c5 := h.cell 5
  have c6 := h.cell 6
  have c7 := h.cell 7
  have c8 := h.cell 8
  have c9 := h.cell 9
  have c10 := h.cell 10
  have c11 := h.cell 11
  have c12 := h.cell 12
  have c13 := h.cell 13
  simp [trC] at c0 c1 c2 c3 c4 c5 c6 c7 c8 c9 c10 c11 c12 c13
  have hfr := fun i => Blk.frozen h i
  rw [h0] at c3
  rw [h2] at c10
  rw [h1] at c8
  have o0 := ho.cell 0
  simp at o0
  have hgr : w.grownBy w (some b) := World.grownBy.refl w (some b)
  have H := Lib.hid h
  clear h
  have Hfr := Lib.hid hfr
  clear hfr
  have Hgr := Lib.hid hgr
  clear hgr
  go_enter Try.func46, Try.ntmps46
  go_wp2
  go_still_tail 20, (by kernel_rfl)
  have hc := once_no w.drew b 10 true true c10 rfl
  go_wp2_with fail
  with_reducible refine hc.mono ?_
  rintro e w' ⟨rfl, rfl⟩
  go_wp2
  go_ret
  exact ⟨rfl, Blk.drew H.out, only_drew Hgr.out⟩

theorem rule7_yes_1 (w : World) (b gt go : Nat) (t : Tr) (s : ByteArray) (h : TrAt w b t) (ho : Blk w go 88 #[.func (.func 39) #[] #[]]) (ht : Blk w gt 25 #[.pointer (some ⟨b, 0, none⟩)]) (h0 : t.s1.dd = false) (hgb : go ≠ b) (hgt : gt ≠ b) :
    Calls Try.prog 47 #[.pointer (some ⟨b, 6, none⟩), .pointer (some ⟨b, 0, none⟩), .pointer (some ⟨gt, 0, none⟩), .pointer (some ⟨go, 0, none⟩)] w (Lets w b true { t with s1 := { t.s1 with dd := true }, cause := true }) := by
  have c0 := h.cell 0
  have c1 := h.cell 1
  have c2 := h.cell 2
  have c3 := h.cell 3
  have c4 := h.cell 4
  have c5 := h.cell 5
  have c6 := h.cell 6
  have c7 := h.cell 7
  have c8 := h.cell 8
  have c9 := h.cell 9
  have c10 := h.cell 10
  have c11 := h.cell 11
  have c12 := h.cell 12
  have c13 := h.cell 13
  simp [trC] at c0 c1 c2 c3 c4 c5 c6 c7 c8 c9 c10 c11 c12 c13
  have hfr := fun i => Blk.frozen h i
  have f12 := hfr 12
  have o0 := ho.cell 0
  simp at o0
  have t0 := ht.cell 0
  simp at t0
  have hgr : w.grownBy w (some b) := World.grownBy.refl w (some b)
  have H := Lib.hid h
  clear h
  have Hfr := Lib.hid hfr
  clear hfr
  have Hgr := Lib.hid hgr
  clear hgr
  go_enter Try.func47, Try.ntmps47
  have hA : TrAt (w.setCell ⟨b, 12, none⟩ (.bool true)) b { t with cause := true } := TrAt.set H.out 12 _ _ rfl
  have hG := only_set Hgr.out 12 (.bool true)
  have hO := Blk.far ho (p := ⟨b, 12, none⟩) hgb (.bool true)
  go_upto_region 2 with fail
  have HA := Lib.hid hA
  clear hA
  have HG := Lib.hid hG
  clear hG
  have HO := Lib.hid hO
  clear hO
  generalize w.setCell ⟨b, 12, none⟩ (.bool true) = W at *
  have d5 := HA.out.cell 11
  have f5 := Blk.frozen HA.out 11
  simp [trC, h0] at d5
  have q0 := HO.out.cell 0
  simp at q0
  clear c0 c1 c2 c3 c4 c5 c6 c7 c8 c9 c10 c11 c12 c13
  go_still_tail 4, (by kernel_rfl)
  have hc := once_yes W.drew b 11 d5 f5
  go_wp2_with fail
  with_reducible refine hc.mono ?_
  rintro e w' ⟨rfl, rfl⟩
  go_wp2
  go_ret
  exact ⟨rfl, TrAt.set (Blk.drew HA.out) 11 _ _ rfl, only_set (only_drew HG.out) 11 _⟩

theorem rule8_yes_1 (w : World) (b go gt : Nat) (t : Tr) (s : ByteArray) (h : TrAt w b t) (ho : Blk w go 88 #[.func (.func 39) #[] #[]]) (ht : Blk w gt 25 #[.pointer (some ⟨b, 0, none⟩)]) (h0 : t.s1.dd = false) (h1 : t.cause = true) :
    Calls Try.prog 48 #[.pointer (some ⟨b, 6, none⟩), .pointer (some ⟨b, 0, none⟩), .pointer (some ⟨go, 0, none⟩), .pointer (some ⟨gt, 0, none⟩)] w (Lets w b true { t with s1 := { t.s1 with dd := true } }) := by
  have c0 := h.cell 0
  have c1 := h.cell 1
  have c2 := h.cell 2
  have c3 := h.cell 3
  have c4 := h.cell 4
  have c5 := h.cell 5
  have c6 := h.cell 6
  have c7 := h.cell 7
  have c8 := h.cell 8
  have c9 := h.cell 9
  have c10 := h.cell 10
  have c11 := h.cell 11
  have c12 := h.cell 12
  have c13 := h.cell 13
  simp [trC] at c0 c1 c2 c3 c4 c5 c6 c7 c8 c9 c10 c11 c12 c13
  have hfr := fun i => Blk.frozen h i
  rw [h0] at c11
  rw [h1] at c12
  have o0 := ho.cell 0
  simp at o0
  have t0 := ht.cell 0
  simp at t0
  have hgr : w.grownBy w (some b) := World.grownBy.refl w (some b)
  have H := Lib.hid h
  clear h
  have Hfr := Lib.hid hfr
  clear hfr
  have Hgr := Lib.hid hgr
  clear hgr
  go_enter Try.func48, Try.ntmps48
  go_wp2
  go_still_tail 8, (by kernel_rfl)
  have hc := once_yes w.drew b 11 c11 (Hfr.out 11)
  go_wp2_with fail
  with_reducible refine hc.mono ?_
  rintro e w' ⟨rfl, rfl⟩
  go_wp2
  go_ret
  exact ⟨rfl, TrAt.set (Blk.drew H.out) 11 _ _ rfl, only_set (only_drew Hgr.out) 11 _⟩

theorem rule8_no_1 (w : World) (b go gt : Nat) (t : Tr) (s : ByteArray) (h : TrAt w b t) (ho : Blk w go 88 #[.func (.func 39) #[] #[]]) (ht : Blk w gt 25 #[.pointer (some ⟨b, 0, none⟩)]) (h1 : t.cause = false) :
    Calls Try.prog 48 #[.pointer (some ⟨b, 6, none⟩), .pointer (some ⟨b, 0, none⟩), .pointer (some ⟨go, 0, none⟩), .pointer (some ⟨gt, 0, none⟩)] w (Lets w b false t) := by
  have c0 := h.cell 0
  have c1 := h.cell 1
  have c2 := h.cell 2
  have c3 := h.cell 3
  have c4 := h.cell 4
  have c5 := h.cell 5
  have c6 := h.cell 6
  have c7 := h.cell 7
  have c8 := h.cell 8
  have c9 := h.cell 9
  have c10 := h.cell 10
  have c11 := h.cell 11
  have c12 := h.cell 12
  have c13 := h.cell 13
  simp [trC] at c0 c1 c2 c3 c4 c5 c6 c7 c8 c9 c10 c11 c12 c13
  have hfr := fun i => Blk.frozen h i
  rw [h1] at c12
  have o0 := ho.cell 0
  simp at o0
  have t0 := ht.cell 0
  simp at t0
  have hgr : w.grownBy w (some b) := World.grownBy.refl w (some b)
  have H := Lib.hid h
  clear h
  have Hfr := Lib.hid hfr
  clear hfr
  have Hgr := Lib.hid hgr
  clear hgr
  go_enter Try.func48, Try.ntmps48
  go_wp2
  go_still_tail 8, (by kernel_rfl)
  have hc := once_no w.drew b 11 false _ c11 rfl
  go_wp2_with fail
  with_reducible refine hc.mono ?_
  rintro e w' ⟨rfl, rfl⟩
  go_wp2
  go_ret
  exact ⟨rfl, Blk.drew H.out, only_drew Hgr.out⟩

theorem rule9_yes_1 (w : World) (b gt : Nat) (t : Tr) (s : ByteArray) (h : TrAt w b t) (ht : Blk w gt 25 #[.pointer (some ⟨b, 0, none⟩)]) :
    Calls Try.prog 49 #[.pointer (some ⟨b, 6, none⟩), .pointer (some ⟨b, 0, none⟩), .pointer (some ⟨gt, 0, none⟩)] w (Lets w b true { t with cause := true }) := by
  have c0 := h.cell 0
  have c1 := h.cell 1
  have c2 := h.cell 2
  have c3 := h.cell 3
  have c4 := h.cell 4
  have c5 := h.cell 5
  have c6 := h.cell 6
  have c7 := h.cell 7
  have c8 := h.cell 8
  have c9 := h.cell 9
  have c10 := h.cell 10
  have c11 := h.cell 11
  have c12 := h.cell 12
  have c13 := h.cell 13
  simp [trC] at c0 c1 c2 c3 c4 c5 c6 c7 c8 c9 c10 c11 c12 c13
  have hfr := fun i => Blk.frozen h i
  have f12 := hfr 12
  have t0 := ht.cell 0
  simp at t0
  have hgr : w.grownBy w (some b) := World.grownBy.refl w (some b)
  have H := Lib.hid h
  clear h
  have Hfr := Lib.hid hfr
  clear hfr
  have Hgr := Lib.hid hgr
  clear hgr
  go_enter Try.func49, Try.ntmps49
  go_wp2
  go_ret
  exact ⟨rfl, TrAt.set H.out 12 _ _ rfl, only_set Hgr.out 12 _⟩
end Go.Proofs.Ytcdbbdjabccjdaa
