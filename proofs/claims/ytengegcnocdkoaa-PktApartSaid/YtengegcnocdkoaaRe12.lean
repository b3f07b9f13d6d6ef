/- Contracts and plain lemmas: PktSameA, PktEnc, PktSeg, PktNext, PktAlive, OptOpen, SegOpen. -/
import Derived.Laws.Strings
import Derived.Deep.DeepCutAuto
import Derived.Test.YtengegcnocdkoaaRe11
import Derived.Test.YtengegcnocdkoaaRe8
import Derived.Test.YtengegcnocdkoaaRe6
import Derived.Test.YtengegcnocdkoaaRe7
set_option linter.unusedVariables false
set_option linter.unusedSimpArgs false
set_option linter.unusedSectionVars false
section
set_option maxRecDepth 20000
namespace Go.Proofs.Ytengegcnocdkoaa
open Go.RowKit Go.BigFrame
def sameS (s t : Sg) : Bool := (decide ((s.s0 : Int) = (t.s0 : Int)) && decide ((s.s1 : Int) = (t.s1 : Int))) && ((decide ((s.s2 : Int) = (t.s2 : Int)) && decide ((s.s3 : Int) = (t.s3 : Int))) && (((s.s4 : Int) == (t.s4 : Int)) && (((s.s5 : Int) == (t.s5 : Int)) && (((s.f : Int) == (t.f : Int)) && (((s.s7 : Int) == (t.s7 : Int)) && (sameB s.o t.o && (s.d.toList == t.d.toList)))))))
theorem bytes_inj {a b : ByteArray} (h : a.toList = b.toList) : a = b := by
  rw [ByteArray.toList_eq, ByteArray.toList_eq] at h
  cases a
  cases b
  congr 1
  exact Array.toList_inj.1 h
theorem sameS_iff (s t : Sg) : sameS s t = true ↔ s = t := by
  unfold sameS
  simp only [Bool.and_eq_true, beq_iff_eq, decide_eq_true_eq, Int.natCast_inj, sameB_iff]
  constructor
  · rintro ⟨⟨h1, h2⟩, ⟨h3, h4⟩, h5, h6, h7, h8, h9, h10⟩
    replace h10 := bytes_inj h10
    cases s
    cases t
    simp only at h1 h2 h3 h4 h5 h6 h7 h8 h9 h10
    subst h1 h2 h3 h4 h5 h6 h7 h8 h9 h10
    rfl
  · rintro rfl
    exact ⟨⟨rfl, rfl⟩, ⟨rfl, rfl⟩, rfl, rfl, rfl, rfl, rfl, rfl⟩
theorem sameS_self (s : Sg) : sameS s s = true := (sameS_iff s s).2 rfl
theorem psame_any (w : World) (s t : Sg) (A B : Option Addr) (c e : Nat) (hl : BlR w A s.o.bl) (hm : BlR w B t.o.bl) (hn : s.o.bl.length ≤ maxLen) (hn2 : t.o.bl.length ≤ maxLen) :
    Calls Try.prog 15 #[.agg (s.c A c), .agg (t.c B e)] w fun en w' => en = .returned (.bool (sameS s t)) ∧ Below w.heap.size w w' :=
  psame_raw w _ _ _ _ _ _ _ _ _ _ _ _ _ _ _ _ _ _ _ _ _ _ _ _ _ _ _ _ A B c e s.o.bl t.o.bl s.d t.d hl hm hn hn2
end Go.Proofs.Ytengegcnocdkoaa
end
section
namespace Go.Proofs.Ytengegcnocdkoaa
open Go.RowKit Go.BigFrame
set_option maxHeartbeats 4000000 in
theorem penc_any (w : World) (s : Sg) (A : Option Addr) (c : Nat) (hs : s.wf) (hr : BlR w A s.o.bl) (hn : s.o.bl.length ≤ 1000) (hd : s.d.size ≤ maxLen) :
    Calls Try.prog 11 #[.agg (s.c A c)] w fun e w' => e = .returned (.tuple #[.string (pencR s).1, .int .i64 (pencR s).2]) ∧ Below w.heap.size w w' := by
  have hmy := fun W (h : BlR W A s.o.bl) => pmay_any W s.s0 s.s1 s.s2 s.s3 s.s4 s.s5 s.f s.s7 s.o A c s.d hs.o h hn hs.f hd
  have hop := fun (h : s.may = true) W (h2 : BlR W A s.o.bl) => enc_any W s.o A c hs.o h2 hn
  have hle : s.may = true → s.d.size ≤ 1460 ∧ s.th.opts.size ≤ 131072 ∧ (⟨s.tl.toArray⟩ : ByteArray).size ≤ 131072 := by
    intro h
    have hl := Sg.len hs h
    have : (⟨s.tl.toArray⟩ : ByteArray).size = s.tl.length := by
      show s.tl.toArray.size = _
      simp
    exact ⟨by omega, by omega, by omega⟩
  have htc := fun (h : s.may = true) W => T.enc_all s.s0 s.s2 s.th s.d W hs.b0 hs.b2 (Sg.th_ok hs) (hle h).2.1 (by have := (hle h).1; omega)
  have hip := fun (h : s.may = true) W => I.enc_all s.ih ⟨s.tl.toArray⟩ W (Sg.ih_ok hs) (hle h).2.2
  have hE : pencR s = if s.may = true then (⟨s.pl.toArray⟩, 0) else (⟨#[]⟩, 2) := rfl
  have ho2 : s.may = true → encR s.o = (⟨(rawL s.o).toArray⟩, 0) := Sg.enc_o
  have ht2 := fun h => Sg.enc_t (s := s) hs h
  have hi2 := fun h => Sg.enc_i (s := s) hs h
  have hth : s.th.cells = #[.int .u16 (s.s1 : Int), .int .u16 (s.s3 : Int), .int .u32 (s.s4 : Int), .int .u32 (s.s5 : Int), .int .u8 (s.f : Int), .int .u16 (s.s7 : Int), .int .u16 0, .string ⟨(rawL s.o).toArray⟩] := by
    have := Sg.th_flags hs
    unfold T.TCPh.cells
    rw [this]
    rfl
  have hih : s.ih.cells = #[.int .u32 (s.s0 : Int), .int .u32 (s.s2 : Int), .int .u8 6, .int .u8 64, .int .u8 0, .int .u16 0, .bool true] := rfl
  rw [hth] at htc
  rw [hih] at hip
  have hseg : s.c A c = #[.int .u32 s.s0, .int .u16 s.s1, .int .u32 s.s2, .int .u16 s.s3, .int .u32 s.s4, .int .u32 s.s5, .int .u8 (s.f : Int), .int .u16 s.s7, .int .u16 (s.o.mss : Int), .int .i64 s.o.scale, .bool s.o.sack, .slice A s.o.bl.length c, .bool s.o.time, .int .u32 (s.o.val : Int), .int .u32 (s.o.echo : Int), .string s.d] := rfl
  rw [hseg]
  have hmy2 : ∀ W, BlR W A s.o.bl → Calls Try.prog 13 #[.agg #[.int .u32 s.s0, .int .u16 s.s1, .int .u32 s.s2, .int .u16 s.s3, .int .u32 s.s4, .int .u32 s.s5, .int .u8 (s.f : Int), .int .u16 s.s7, .int .u16 (s.o.mss : Int), .int .i64 s.o.scale, .bool s.o.sack, .slice A s.o.bl.length c, .bool s.o.time, .int .u32 (s.o.val : Int), .int .u32 (s.o.echo : Int), .string s.d]] W fun e w' => e = .returned (.bool s.may) ∧ Below W.heap.size W w' := hmy
  have hop2 : s.may = true → ∀ W, BlR W A s.o.bl → Calls Try.prog 27 #[.agg #[.int .u16 (s.o.mss : Int), .int .i64 s.o.scale, .bool s.o.sack, .slice A s.o.bl.length c, .bool s.o.time, .int .u32 (s.o.val : Int), .int .u32 (s.o.echo : Int)]] W fun e w' => e = .returned (.tuple #[.string ⟨(rawL s.o).toArray⟩, .int .i64 0]) ∧ Below W.heap.size W w' := fun h => by
    have := hop h
    rw [ho2 h] at this
    exact this
  have htc2 : s.may = true → ∀ W, Calls Try.prog 28 #[.int .u32 (s.s0 : Int), .int .u32 (s.s2 : Int), .agg #[.int .u16 (s.s1 : Int), .int .u16 (s.s3 : Int), .int .u32 (s.s4 : Int), .int .u32 (s.s5 : Int), .int .u8 (s.f : Int), .int .u16 (s.s7 : Int), .int .u16 0, .string ⟨(rawL s.o).toArray⟩], .string s.d] W fun e w' => e = .returned (.tuple #[.string ⟨s.tl.toArray⟩, .int .i64 0]) ∧ Below W.heap.size W w' := fun h => by
    have := htc h
    rw [ht2 h] at this
    exact this
  have hip2 : s.may = true → ∀ W, Calls Try.prog 29 #[.agg #[.int .u32 (s.s0 : Int), .int .u32 (s.s2 : Int), .int .u8 6, .int .u8 64, .int .u8 0, .int .u16 0, .bool true], .string ⟨s.tl.toArray⟩] W fun e w' => e = .returned (.tuple #[.string ⟨s.pl.toArray⟩, .int .i64 0]) ∧ Below W.heap.size W w' := fun h => by
    have := hip h
    rw [hi2 h] at this
    exact this
  clear hmy hop htc hip hth hih hseg ho2 ht2 hi2 hle
  have hb0 : Below w.heap.size w w := Below.refl _ _
  have HB := Lib.hid hb0
  clear hb0
  generalize pencR s = E at *
  generalize s.may = mb at *
  generalize (⟨s.pl.toArray⟩ : ByteArray) = PL at *
  generalize (⟨s.tl.toArray⟩ : ByteArray) = TL at *
  generalize (⟨(rawL s.o).toArray⟩ : ByteArray) = RL at *
  generalize hs0 : (s.s0 : Int) = s0 at *
  generalize hs1 : (s.s1 : Int) = s1 at *
  generalize hs2 : (s.s2 : Int) = s2 at *
  generalize hs3 : (s.s3 : Int) = s3 at *
  generalize hs4 : (s.s4 : Int) = s4 at *
  generalize hs5 : (s.s5 : Int) = s5 at *
  generalize hs6 : (s.f : Int) = s6 at *
  generalize hs7 : (s.s7 : Int) = s7 at *
  generalize (s.o.mss : Int) = m at *
  generalize (s.o.val : Int) = vl at *
  generalize (s.o.echo : Int) = ec at *
  generalize s.o.scale = sc at *
  generalize s.o.sack = sk at *
  generalize s.o.time = tm at *
  generalize hl : s.o.bl = l at *
  generalize l.length = n at *
  generalize s.d = d at *
  clear hl hs0 hs1 hs2 hs3 hs4 hs5 hs6 hs7 hs hn hd
  have Hmy2 := Lib.hid hmy2
  clear hmy2
  have Hop2 := Lib.hid hop2
  clear hop2
  have Htc2 := Lib.hid htc2
  clear htc2
  have Hip2 := Lib.hid hip2
  clear hip2
  have HE := Lib.hid hE
  clear hE
  have Hr := Lib.hid hr
  clear hr
  go_enter Try.func11, Try.ntmps11
  go_upto_region 1 with fail
  have hq := Blk.new w 30 #[.int .u32 s0, .int .u16 s1, .int .u32 s2, .int .u16 s3, .int .u32 s4, .int .u32 s5, .int .u8 s6, .int .u16 s7, .int .u16 m, .int .i64 sc, .bool sk, .slice A n c, .bool tm, .int .u32 vl, .int .u32 ec, .string d]
  have hB := HB.out.alloc HB.out.size (.cells #[.int .u32 s0, .int .u16 s1, .int .u32 s2, .int .u16 s3, .int .u32 s4, .int .u32 s5, .int .u8 s6, .int .u16 s7, .int .u16 m, .int .i64 sc, .bool sk, .slice A n c, .bool tm, .int .u32 vl, .int .u32 ec, .string d] 30)
  clear HB
  obtain ⟨gq, hge⟩ : ∃ g, g = w.heap.size := ⟨_, rfl⟩
  rw [← hge] at hq ⊢
  clear hge
  generalize w.alloc _ = w1 at *
  have Hq := Lib.hid hq
  clear hq
  have HB := Lib.hid hB
  clear hB
  go_wp2_with (first | (refine wpl_load Hq.out segU segI rfl _ rfl rfl ?_))
  go_wp2_with fail
  (with_reducible refine (Hmy2.out _ (Hr.out.below HB.out)).mono ?_)
  rintro e w2 ⟨rfl, hbq⟩
  have hq := Hq.out.below hbq Hq.out.lt
  clear Hq
  have Hq := Lib.hid hq
  clear hq
  have hB := HB.out.trans (hbq.mono HB.out.size)
  clear HB
  have HB := Lib.hid hB
  clear hB
  clear hbq
  cases mb with
  | false =>
    go_wp2
    go_ret2
    have e : E = (⟨#[]⟩, 2) := HE.out
    rw [e]
    exact ⟨rfl, HB.out⟩
  | true =>
    have c0 := Hq.out.cell 0
    have c1 := Hq.out.cell 1
    have c2 := Hq.out.cell 2
    have c3 := Hq.out.cell 3
    have c4 := Hq.out.cell 4
    have c5 := Hq.out.cell 5
    have c6 := Hq.out.cell 6
    have c7 := Hq.out.cell 7
    have c8 := Hq.out.cell 8
    have c9 := Hq.out.cell 9
    have c10 := Hq.out.cell 10
    have c11 := Hq.out.cell 11
    have c12 := Hq.out.cell 12
    have c13 := Hq.out.cell 13
    have c14 := Hq.out.cell 14
    have c15 := Hq.out.cell 15
    simp at c0 c1 c2 c3 c4 c5 c6 c7 c8 c9 c10 c11 c12 c13 c14 c15
    go_wp2_with fail
    (with_reducible refine (Hop2.out trivial _ (Hr.out.below HB.out)).mono ?_)
    rintro e w3 ⟨rfl, hbq⟩
    have hq := Hq.out.below hbq Hq.out.lt
    clear Hq
    have Hq := Lib.hid hq
    clear hq
    have hB := HB.out.trans (hbq.mono HB.out.size)
    clear HB
    have HB := Lib.hid hB
    clear hB
    clear hbq
    clear c0 c1 c2 c3 c4 c5 c6 c7 c8 c9 c10 c11 c12 c13 c14 c15
    have d0 := Hq.out.cell 0
    have d1 := Hq.out.cell 1
    have d2 := Hq.out.cell 2
    have d3 := Hq.out.cell 3
    have d4 := Hq.out.cell 4
    have d5 := Hq.out.cell 5
    have d6 := Hq.out.cell 6
    have d7 := Hq.out.cell 7
    have d8 := Hq.out.cell 8
    have d9 := Hq.out.cell 9
    have d10 := Hq.out.cell 10
    have d11 := Hq.out.cell 11
    have d12 := Hq.out.cell 12
    have d13 := Hq.out.cell 13
    have d14 := Hq.out.cell 14
    have d15 := Hq.out.cell 15
    simp at d0 d1 d2 d3 d4 d5 d6 d7 d8 d9 d10 d11 d12 d13 d14 d15
    go_wp2_with fail
    (with_reducible refine (Htc2.out trivial _).mono ?_)
    rintro e w4 ⟨rfl, hbq⟩
    have hq := Hq.out.below hbq Hq.out.lt
    clear Hq
    have Hq := Lib.hid hq
    clear hq
    have hB := HB.out.trans (hbq.mono HB.out.size)
    clear HB
    have HB := Lib.hid hB
    clear hB
    clear hbq
    clear d0 d1 d2 d3 d4 d5 d6 d7 d8 d9 d10 d11 d12 d13 d14 d15
    have e0 := Hq.out.cell 0
    have e1 := Hq.out.cell 1
    have e2 := Hq.out.cell 2
    have e3 := Hq.out.cell 3
    have e4 := Hq.out.cell 4
    have e5 := Hq.out.cell 5
    have e6 := Hq.out.cell 6
    have e7 := Hq.out.cell 7
    have e8 := Hq.out.cell 8
    have e9 := Hq.out.cell 9
    have e10 := Hq.out.cell 10
    have e11 := Hq.out.cell 11
    have e12 := Hq.out.cell 12
    have e13 := Hq.out.cell 13
    have e14 := Hq.out.cell 14
    have e15 := Hq.out.cell 15
    simp at e0 e1 e2 e3 e4 e5 e6 e7 e8 e9 e10 e11 e12 e13 e14 e15
    go_wp2_with fail
    (with_reducible refine (Hip2.out trivial _).mono ?_)
    rintro e w5 ⟨rfl, hbq⟩
    have hq := Hq.out.below hbq Hq.out.lt
    clear Hq
    have Hq := Lib.hid hq
    clear hq
    have hB := HB.out.trans (hbq.mono HB.out.size)
    clear HB
    have HB := Lib.hid hB
    clear hB
    clear hbq
    go_wp2
    go_ret2
    have e : E = (PL, 0) := HE.out
    rw [e]
    exact ⟨rfl, HB.out⟩
end Go.Proofs.Ytengegcnocdkoaa
end
section
set_option maxRecDepth 20000
namespace Go.Proofs.Ytengegcnocdkoaa
open Go.RowKit Go.BigFrame
def exSg : Sg := ⟨167772161, 4000, 167772162, 80, 7, 0, 2, 100, ⟨1460, -1, false, [], false, 0, 0⟩, ⟨#[]⟩⟩
theorem exSg_wf : exSg.wf := ⟨by decide, by decide, by decide, by decide, by decide, by decide, by decide, by decide, by decide, by decide, by decide, by decide, fun p hp => by cases hp⟩
set_option maxHeartbeats 4000000 in
theorem seg_any (w : World) : Calls Try.prog 25 #[] w fun e w' => e = .returned (.agg (exSg.c none 0)) ∧ Below w.heap.size w w' := by
  have hb0 : Below w.heap.size w w := Below.refl _ _
  have HB := Lib.hid hb0
  clear hb0
  go_enter Try.func25, Try.ntmps25
  go_upto_region 1 with fail
  have hr := Blk.new w 30 #[.int .u32 0, .int .u16 0, .int .u32 0, .int .u16 0, .int .u32 0, .int .u32 0, .int .u8 0, .int .u16 0, .int .u16 0, .int .i64 0, .bool false, .slice none 0 0, .bool false, .int .u32 0, .int .u32 0, .string ⟨#[]⟩]
  have hB := HB.out.alloc HB.out.size (.cells #[.int .u32 0, .int .u16 0, .int .u32 0, .int .u16 0, .int .u32 0, .int .u32 0, .int .u8 0, .int .u16 0, .int .u16 0, .int .i64 0, .bool false, .slice none 0 0, .bool false, .int .u32 0, .int .u32 0, .string ⟨#[]⟩] 30)
  clear HB
  obtain ⟨gr, hge⟩ : ∃ g, g = w.heap.size := ⟨_, rfl⟩
  rw [← hge] at hr ⊢
  have hle_r : w.heap.size ≤ gr := by omega
  clear hge
  generalize w.alloc _ = w1 at *
  have Hr := Lib.hid hr
  clear hr
  have HB := Lib.hid hB
  clear hB
  have hle := HB.out
  go_wp2_with (first | (refine wpl_put Hr.out #[.int .u32 167772161, .int .u16 4000, .int .u32 167772162, .int .u16 80, .int .u32 7, .int .u32 0, .int .u8 2, .int .u16 100, .int .u16 1460, .int .i64 (-1), .bool false, .slice none 0 0, .bool false, .int .u32 0, .int .u32 0, .string ⟨#[]⟩] segI_ rfl (by kernel_rfl) rfl _ _ rfl rfl rfl rfl ?_))
  have hz := Hr.out.row #[.int .u32 167772161, .int .u16 4000, .int .u32 167772162, .int .u16 80, .int .u32 7, .int .u32 0, .int .u8 2, .int .u16 100, .int .u16 1460, .int .i64 (-1), .bool false, .slice none 0 0, .bool false, .int .u32 0, .int .u32 0, .string ⟨#[]⟩]
  have hbz : Below w.heap.size w (w1.setRow gr #[.int .u32 167772161, .int .u16 4000, .int .u32 167772162, .int .u16 80, .int .u32 7, .int .u32 0, .int .u8 2, .int .u16 100, .int .u16 1460, .int .i64 (-1), .bool false, .slice none 0 0, .bool false, .int .u32 0, .int .u32 0, .string ⟨#[]⟩]) :=
    ⟨hle.os, hle.tape, hle.output, Nat.le_trans hle.size (Nat.le_of_eq (size_row _ _ _).symm), fun i hi => (heap_row w1 gr _ i (by omega)).trans (hle.block i hi)⟩
  generalize World.setRow _ _ _ = WZ at *
  have z0 := hz.cell 0
  have z1 := hz.cell 1
  have z2 := hz.cell 2
  have z3 := hz.cell 3
  have z4 := hz.cell 4
  have z5 := hz.cell 5
  have z6 := hz.cell 6
  have z7 := hz.cell 7
  have z8 := hz.cell 8
  have z9 := hz.cell 9
  have z10 := hz.cell 10
  have z11 := hz.cell 11
  have z12 := hz.cell 12
  have z13 := hz.cell 13
  have z14 := hz.cell 14
  have z15 := hz.cell 15
  simp at z0 z1 z2 z3 z4 z5 z6 z7 z8 z9 z10 z11 z12 z13 z14 z15
  exact bodyPost_ret (v := .agg #[.int .u32 167772161, .int .u16 4000, .int .u32 167772162, .int .u16 80, .int .u32 7, .int .u32 0, .int .u8 2, .int .u16 100, .int .u16 1460, .int .i64 (-1), .bool false, .slice none 0 0, .bool false, .int .u32 0, .int .u32 0, .string ⟨#[]⟩]) (by simp [results, Try.results25, go_sem, z0, z1, z2, z3, z4, z5, z6, z7, z8, z9, z10, z11, z12, z13, z14, z15]) rfl ⟨rfl, hbz⟩
end Go.Proofs.Ytengegcnocdkoaa
end
section
namespace Go.Proofs.Ytengegcnocdkoaa
open Go.RowKit Go.BigFrame
def nextV (s4 : Int) (f k : Nat) : Int := (s4 + (k : Int) + (ones3 (f % 4) : Int)) % 4294967296
set_option maxRecDepth 100000 in
set_option maxHeartbeats 4000000 in
theorem next_any (w : World) (s0 s1 s2 s3 s4 s5 : Int) (f : Nat) (s7 s8 s9 : Int) (s10 s12 : Bool) (A : Option Addr) (n c : Nat) (s13 s14 : Int) (d : ByteArray) (hf : f < 256) (hd : d.size ≤ maxLen) :
    Calls Try.prog 17 #[.agg #[.int .u32 s0, .int .u16 s1, .int .u32 s2, .int .u16 s3, .int .u32 s4, .int .u32 s5, .int .u8 (f : Int), .int .u16 s7, .int .u16 s8, .int .i64 s9, .bool s10, .slice A n c, .bool s12, .int .u32 s13, .int .u32 s14, .string d]] w fun e w' => e = .returned (.int .u32 (nextV s4 f d.size)) ∧ Below w.heap.size w w' := by
  have h3 : bits .and .u8 (f : Int) 3 = ((f % 4 : Nat) : Int) := by
    have := u8_and_nat f 3 hf (by decide)
    rw [Nat.and_two_pow_sub_one_eq_mod f 2] at this
    exact this
  have ho := fun W => bits_any (f % 4) (by omega) W
  obtain ⟨k, hk⟩ : ∃ k : Int, k = ((f % 4 : Nat) : Int) := ⟨_, rfl⟩
  obtain ⟨q, hq⟩ : ∃ q : Int, q = (ones3 (f % 4) : Int) := ⟨_, rfl⟩
  have hV : nextV s4 f d.size = ((s4 + (d.size : Int)) % 4294967296 + q % 4294967296) % 4294967296 := by
    unfold nextV
    rw [← hq]
    omega
  rw [← hk] at h3 ho
  rw [← hq] at ho
  rw [hV]
  have hz : (d.size : Int) ≤ 9223372036854775807 := by unfold maxLen at hd; omega
  have hz0 : (0 : Int) ≤ (d.size : Int) := by omega
  have Ho := Lib.hid ho
  have hb0 : Below w.heap.size w w := Below.refl _ _
  have HB := Lib.hid hb0
  clear ho hk hq hV hd hb0
  generalize (f : Int) = F at *
  clear hf
  go_enter Try.func17, Try.ntmps17
  go_upto_region 1 with fail
  have hs := Blk.new w 30 #[.int .u32 s0, .int .u16 s1, .int .u32 s2, .int .u16 s3, .int .u32 s4, .int .u32 s5, .int .u8 F, .int .u16 s7, .int .u16 s8, .int .i64 s9, .bool s10, .slice A n c, .bool s12, .int .u32 s13, .int .u32 s14, .string d]
  have hB := HB.out.alloc HB.out.size (.cells #[.int .u32 s0, .int .u16 s1, .int .u32 s2, .int .u16 s3, .int .u32 s4, .int .u32 s5, .int .u8 F, .int .u16 s7, .int .u16 s8, .int .i64 s9, .bool s10, .slice A n c, .bool s12, .int .u32 s13, .int .u32 s14, .string d] 30)
  clear HB
  obtain ⟨gs, hge⟩ : ∃ g, g = w.heap.size := ⟨_, rfl⟩
  rw [← hge] at hs ⊢
  clear hge
  generalize w.alloc _ = w1 at *
  have Hs := Lib.hid hs
  clear hs
  have HB := Lib.hid hB
  clear hB
  have c4 := Hs.out.cell 4
  have c6 := Hs.out.cell 6
  have c15 := Hs.out.cell 15
  simp at c4 c6 c15
  have hBn : ∀ m, Below w.heap.size w (w1.drewN m) := below_drewN HB.out
  have HBn := Lib.hid hBn
  clear hBn
  go_quiet (first | (go_at_call 39; exact quiet_left (Ho.out _)))
  go_wp2
  go_ret
  exact ⟨rfl, HBn.out _⟩
set_option maxHeartbeats 1000000 in
theorem heavy_any (w : World) (s0 s1 s2 s3 s4 s5 s6 s7 s8 s9 : Int) (s10 s12 : Bool) (A : Option Addr) (n c : Nat) (s13 s14 : Int) (d : ByteArray) (hn : n ≤ maxLen) (hd : d.size ≤ maxLen) :
    Calls Try.prog 9 #[.agg #[.int .u32 s0, .int .u16 s1, .int .u32 s2, .int .u16 s3, .int .u32 s4, .int .u32 s5, .int .u8 s6, .int .u16 s7, .int .u16 s8, .int .i64 s9, .bool s10, .slice A n c, .bool s12, .int .u32 s13, .int .u32 s14, .string d]] w fun e w' => e = .returned (.bool (decide ((d.size : Int) > 4096) || decide ((n : Int) > 100))) ∧ Below w.heap.size w w' := by
  have hz : (d.size : Int) ≤ 9223372036854775807 := by unfold maxLen at hd; omega
  have hm : (n : Int) ≤ 9223372036854775807 := by unfold maxLen at hn; omega
  have hb0 : Below w.heap.size w w := Below.refl _ _
  have HB := Lib.hid hb0
  clear hb0 hn hd
  go_enter Try.func9, Try.ntmps9
  go_upto_region 1 with fail
  have hs := Blk.new w 30 #[.int .u32 s0, .int .u16 s1, .int .u32 s2, .int .u16 s3, .int .u32 s4, .int .u32 s5, .int .u8 s6, .int .u16 s7, .int .u16 s8, .int .i64 s9, .bool s10, .slice A n c, .bool s12, .int .u32 s13, .int .u32 s14, .string d]
  have hB := HB.out.alloc HB.out.size (.cells #[.int .u32 s0, .int .u16 s1, .int .u32 s2, .int .u16 s3, .int .u32 s4, .int .u32 s5, .int .u8 s6, .int .u16 s7, .int .u16 s8, .int .i64 s9, .bool s10, .slice A n c, .bool s12, .int .u32 s13, .int .u32 s14, .string d] 30)
  clear HB
  obtain ⟨gs, hge⟩ : ∃ g, g = w.heap.size := ⟨_, rfl⟩
  rw [← hge] at hs ⊢
  clear hge
  generalize w.alloc _ = w1 at *
  have Hs := Lib.hid hs
  clear hs
  have HB := Lib.hid hB
  clear hB
  have c15 := Hs.out.cell 15
  have c11 := Hs.out.cell 11
  simp at c15 c11
  by_cases h : (d.size : Int) > 4096
  · go_wp2
    go_ret
    exact ⟨ret_bool (by simp; omega), HB.out⟩
  · go_wp2
    go_ret
    exact ⟨ret_bool (by simp; omega), HB.out⟩
end Go.Proofs.Ytengegcnocdkoaa
end
section
set_option maxRecDepth 20000
namespace Go.Proofs.Ytengegcnocdkoaa
open Go.RowKit Go.BigFrame
def exSh : Sh := ⟨1, 2, 3, 4, 5, 6, 0, 0, 1, 0⟩
theorem exSh_wf : exSh.wf := ⟨by decide, by decide, by decide, by decide, by decide, by decide, by decide, by decide⟩
def exTg : Sg := ⟨1, 2, 3, 4, 12, 0, 2, 200, ⟨1460, -1, false, [], false, 0, 0⟩, ⟨#[]⟩⟩
theorem exTg_of : turnS exSg exSh = exTg := by kernel_rfl
theorem exSg_may : exSg.may = true := by kernel_rfl
def badSg : Sg := ⟨0, 0, 0, 0, 0, 0, 3, 0, noneO, ⟨#[]⟩⟩
theorem badSg_wf : badSg.wf := ⟨by decide, by decide, by decide, by decide, by decide, by decide, by decide, by decide, by decide, by decide, by decide, by decide, fun p hp => by cases hp⟩
theorem badSg_enc : pencR badSg = (⟨#[]⟩, 2) := by kernel_rfl
theorem none_dec : pdecR [] = (zeroSg, 50) := by kernel_rfl
/-- how Decode ends where it is known what the bytes say -/
def PDecIs (s : Sg) (code : Int) (w : World) (e : Ending) (w' : World) : Prop := ∃ (A : Option Addr) (c : Nat), e = .returned (.tuple #[.agg (s.c A c), .int .i64 code]) ∧ BlR w' A s.o.bl ∧ Below w.heap.size w w'
theorem pdec_is {x : ByteArray} {L : List UInt8} {s : Sg} {code : Int} (hL : x.data.toList = L) (hx : L.length ≤ 131072) (h : pdecR L = (s, code)) (w : World) : Calls Try.prog 19 #[.string x] w (PDecIs s code w) := by
  refine (pdec_any x L hL hx w).mono ?_
  rintro e w' ⟨s', A, c, code', rfl, hb, hw, hr⟩
  rw [h] at hr
  injection hr with h1 h2
  subst h1 h2
  exact ⟨A, c, rfl, hb, hw⟩
theorem pnext_any (w : World) (s : Sg) (A : Option Addr) (c : Nat) (hs : s.wf) (hd : s.d.size ≤ maxLen) : Calls Try.prog 17 #[.agg (s.c A c)] w fun e w' => e = .returned (.int .u32 (nextV s.s4 s.f s.d.size)) ∧ Below w.heap.size w w' :=
  next_any w _ _ _ _ _ _ _ _ _ _ _ _ A _ c _ _ s.d hs.f hd
theorem smay_any (w : World) (s : Sg) (A : Option Addr) (c : Nat) (hs : s.wf) (hr : BlR w A s.o.bl) (hn : s.o.bl.length ≤ 1000) (hd : s.d.size ≤ maxLen) : Calls Try.prog 13 #[.agg (s.c A c)] w fun e w' => e = .returned (.bool s.may) ∧ Below w.heap.size w w' :=
  pmay_any w _ _ _ _ _ _ s.f _ s.o A c s.d hs.o hr hn hs.f hd
theorem psame_eq (w : World) (s : Sg) (A B : Option Addr) (c e : Nat) (hl : BlR w A s.o.bl) (hm : BlR w B s.o.bl) (hn : s.o.bl.length ≤ maxLen) : Calls Try.prog 15 #[.agg (s.c A c), .agg (s.c B e)] w fun en w' => en = .returned (.bool true) ∧ Below w.heap.size w w' := by
  have := psame_any w s s A B c e hl hm hn hn
  rw [sameS_self] at this
  exact this
theorem may_pdec {s : Sg} (w : s.wf) (h : s.may = true) : pdecR s.pl = (s, 0) := by
  obtain ⟨h1, h2⟩ := own_fine w h
  unfold pdecR
  rw [if_pos (Fine.zero h1), h2]
theorem rew_pdec {L : List UInt8} {x : Sh} {s : Sg} (h : pdecR L = (s, 0)) (hx : x.wf) : pdecR (rewL L x) = (turnS s x, 0) ∧ rewR L x = (⟨(rewL L x).toArray⟩, 0) ∧ (rewL L x).length = L.length := by
  have hE : pdecE L = 0 := by rw [← pdecR_snd, h]
  have hs : s = sgL L := by unfold pdecR at h; rw [if_pos hE] at h; injection h with h; exact h.symm
  obtain ⟨r1, r2, r3⟩ := rew_read (x := x) hE hx
  refine ⟨?_, ?_, r3⟩
  · unfold pdecR
    rw [if_pos r1, r2, hs]
  · unfold rewR
    rw [if_pos hE]
/-- what is told of a segment that a call answered -/
def segT (s : Sg) (l : List Value) (W : World) : Prop := ∃ A c, l = [.agg (s.c A c)] ∧ BlR W A s.o.bl
theorem segT.of {s : Sg} (l : List Value) (w w' : World) (hb : Below w.heap.size w w') (h : segT s l w) : segT s l w' := by
  obtain ⟨A, c, h1, h2⟩ := h
  exact ⟨A, c, h1, h2.below hb⟩
set_option maxRecDepth 100000 in
set_option maxHeartbeats 4000000 in
theorem alive08 (w : World) : Calls Try.prog 10 #[] w fun e w' => e = .returned (.bool true) ∧ Below w.heap.size w w' := by
  have hb0 : Below w.heap.size w w := Below.refl _ _
  have HB := Lib.hid hb0
  clear hb0
  have hp := may_pdec exSg_wf exSg_may
  have hlen := (Sg.len exSg_wf exSg_may).2.2.2
  obtain ⟨X, hX⟩ : ∃ X : ByteArray, X = ⟨exSg.pl.toArray⟩ := ⟨_, rfl⟩
  have hXL : X.data.toList = exSg.pl := by rw [hX]
  have hpl : exSg.pl.length = 44 := hlen
  have hXs : (X.size : Int) = 44 := by
    have : X.size = exSg.pl.length := by rw [← hXL]; rfl
    omega
  obtain ⟨r1, r2, r3⟩ := rew_pdec (x := exSh) hp exSh_wf
  rw [exTg_of] at r1
  obtain ⟨Y, hY⟩ : ∃ X : ByteArray, X = ⟨(rewL exSg.pl exSh).toArray⟩ := ⟨_, rfl⟩
  have hYL : Y.data.toList = rewL exSg.pl exSh := by rw [hY]
  have ke : ∀ W, Calls Try.prog 11 #[.agg (exSg.c none 0)] W fun e w' => e = .returned (.tuple #[.string X, .int .i64 0]) ∧ Below W.heap.size W w' := fun W => by
    have := penc_any W exSg none 0 exSg_wf (.inl rfl) (by decide) (by decide)
    unfold pencR at this
    rw [if_pos exSg_may, ← hX] at this
    exact this
  have kb : ∀ W, Calls Try.prog 11 #[.agg #[.int .u32 0, .int .u16 0, .int .u32 0, .int .u16 0, .int .u32 0, .int .u32 0, .int .u8 3, .int .u16 0, .int .u16 0, .int .i64 (-1), .bool false, .slice none 0 0, .bool false, .int .u32 0, .int .u32 0, .string ⟨#[]⟩]] W fun e w' => e = .returned (.tuple #[.string ⟨#[]⟩, .int .i64 2]) ∧ Below W.heap.size W w' := fun W => by
    have := penc_any W badSg none 0 badSg_wf (.inl rfl) (by decide) (by decide)
    rw [badSg_enc] at this
    exact this
  have kd := fun W => pdec_is hXL (by omega) hp W
  have kn := fun W => pdec_is (x := ⟨#[]⟩) (L := []) rfl (by decide) none_dec W
  have kt := fun W => pdec_is hYL (by omega) r1 W
  have kr : ∀ W, Calls Try.prog 21 #[.string X, .agg #[.int .u32 1, .int .u16 2, .int .u32 3, .int .u16 4, .int .u32 5, .int .u32 6, .int .u32 0, .int .u32 0, .int .i64 1, .int .i64 0]] W fun e w' => e = .returned (.tuple #[.string Y, .int .i64 0]) ∧ Below W.heap.size W w' := fun W => by
    have := rew_any X exSg.pl hXL (by omega) exSh exSh_wf W
    rw [r2, ← hY] at this
    exact this
  have ks : ∀ W A c, Calls Try.prog 15 #[.agg (exSg.c A c), .agg (exSg.c none 0)] W fun e w' => e = .returned (.bool true) ∧ Below W.heap.size W w' := fun W A c => psame_eq W exSg A none c 0 (.inl rfl) (.inl rfl) (by decide)
  have kq : ∀ W A c B d, Calls Try.prog 15 #[.agg (exTg.c A c), .agg (exTg.c B d)] W fun e w' => e = .returned (.bool true) ∧ Below W.heap.size W w' := fun W A c B d => psame_eq W exTg A B c d (.inl rfl) (.inl rfl) (by decide)
  have ku : ∀ W, Calls Try.prog 23 #[.agg (exSg.c none 0), .agg #[.int .u32 1, .int .u16 2, .int .u32 3, .int .u16 4, .int .u32 5, .int .u32 6, .int .u32 0, .int .u32 0, .int .i64 1, .int .i64 0]] W (TurnSP exSg exSh W) := fun W => pturned_any W exSg exSh none 0 exSg_wf (.inl rfl) (by decide)
  unfold TurnSP at ku
  rw [exTg_of] at ku
  have kx : ∀ W, Calls Try.prog 17 #[.agg (exSg.c none 0)] W fun e w' => e = .returned (.int .u32 8) ∧ Below W.heap.size W w' := fun W => pnext_any W exSg none 0 exSg_wf (by decide)
  have km : ∀ W, Calls Try.prog 13 #[.agg (exSg.c none 0)] W fun e w' => e = .returned (.bool true) ∧ Below W.heap.size W w' := fun W => by
    have := smay_any W exSg none 0 exSg_wf (.inl rfl) (by decide) (by decide)
    rw [exSg_may] at this
    exact this
  clear hp hlen hX hXL hpl r1 r2 r3 hY hYL
  have Ke := Lib.hid ke
  clear ke
  have Kb := Lib.hid kb
  clear kb
  have Kd := Lib.hid kd
  clear kd
  have Kn := Lib.hid kn
  clear kn
  have Kt := Lib.hid kt
  clear kt
  have Kr := Lib.hid kr
  clear kr
  have Ks := Lib.hid ks
  clear ks
  have Kq := Lib.hid kq
  clear kq
  have Ku := Lib.hid ku
  clear ku
  have Kx := Lib.hid kx
  clear kx
  have Km := Lib.hid km
  clear km
  go_enter Try.func10, Try.ntmps10
  go_wp2_with fail
  (with_reducible refine (seg_any _).mono ?_)
  rintro e w1 ⟨rfl, hbq⟩
  have hB := HB.out.trans (hbq.mono HB.out.size)
  clear HB
  have HB := Lib.hid hB
  clear hB
  clear hbq
  go_wp2_with fail
  (with_reducible refine (Ke.out _).mono ?_)
  rintro e w2 ⟨rfl, hbq⟩
  have hB := HB.out.trans (hbq.mono HB.out.size)
  clear HB
  have HB := Lib.hid hB
  clear hB
  clear hbq
  go_wp2_with fail
  with_reducible refine (Kd.out _).mono ?_
  rintro e w3 ⟨A, c, rfl, _, hbq⟩
  have hB := HB.out.trans (hbq.mono HB.out.size)
  clear HB
  have HB := Lib.hid hB
  clear hB
  clear hbq
  go_upto_region 3 with (first | (refine wpl_put_new rfl (exSg.c A c) segI_ rfl (by kernel_rfl) rfl _ _ rfl rfl rfl rfl ?_))
  have hg := Blk.new w3 30 (exSg.c A c)
  have hB := HB.out.alloc HB.out.size (.cells (exSg.c A c) 30)
  clear HB
  obtain ⟨gg, hge⟩ : ∃ g, g = w3.heap.size := ⟨_, rfl⟩
  rw [← hge] at hg ⊢
  have hle_g : w3.heap.size ≤ gg := by omega
  clear hge
  generalize w3.alloc _ = wn3 at *
  have Hg := Lib.hid hg
  clear hg
  have HB := Lib.hid hB
  clear hB
  go_wp2_with fail
  with_reducible refine (Kn.out _).mono ?_
  rintro e w4 ⟨A2, c2, rfl, _, hbq⟩
  have hg := Hg.out.below hbq Hg.out.lt
  clear Hg
  have Hg := Lib.hid hg
  clear hg
  have hB := HB.out.trans (hbq.mono HB.out.size)
  clear HB
  have HB := Lib.hid hB
  clear hB
  clear hbq
  go_upto_region 4 with (first | (refine wpl_put_new rfl (zeroSg.c A2 c2) segI_ rfl (by kernel_rfl) rfl _ _ rfl rfl rfl rfl ?_))
  have hz := Blk.new w4 30 (zeroSg.c A2 c2)
  have hg := Blk.alloc Hg.out (.cells (zeroSg.c A2 c2) 30)
  clear Hg
  have hB := HB.out.alloc HB.out.size (.cells (zeroSg.c A2 c2) 30)
  clear HB
  obtain ⟨gz, hge⟩ : ∃ g, g = w4.heap.size := ⟨_, rfl⟩
  rw [← hge] at hz ⊢
  have hle_z : w4.heap.size ≤ gz := by omega
  clear hge
  generalize w4.alloc _ = wn4 at *
  have Hg := Lib.hid hg
  clear hg
  have Hz := Lib.hid hz
  clear hz
  have HB := Lib.hid hB
  clear hB
  go_wp2_with fail
  (with_reducible refine (none_any _).mono ?_)
  rintro e w5 ⟨rfl, hbq⟩
  have hg := Hg.out.below hbq Hg.out.lt
  clear Hg
  have Hg := Lib.hid hg
  clear hg
  have hz := Hz.out.below hbq Hz.out.lt
  clear Hz
  have Hz := Lib.hid hz
  clear hz
  have hB := HB.out.trans (hbq.mono HB.out.size)
  clear HB
  have HB := Lib.hid hB
  clear hB
  clear hbq
  go_wp2_with fail
  (with_reducible refine (Kb.out _).mono ?_)
  rintro e w6 ⟨rfl, hbq⟩
  have hg := Hg.out.below hbq Hg.out.lt
  clear Hg
  have Hg := Lib.hid hg
  clear hg
  have hz := Hz.out.below hbq Hz.out.lt
  clear Hz
  have Hz := Lib.hid hz
  clear hz
  have hB := HB.out.trans (hbq.mono HB.out.size)
  clear HB
  have HB := Lib.hid hB
  clear hB
  clear hbq
  go_upto_region 6 with (first | (refine wpl_put_new rfl #[.int .u32 1, .int .u16 2, .int .u32 3, .int .u16 4, .int .u32 5, .int .u32 6, .int .u32 0, .int .u32 0, .int .i64 1, .int .i64 0] shI rfl (by kernel_rfl) rfl _ _ rfl rfl rfl rfl ?_))
  have hx := Blk.new w6 46 #[.int .u32 1, .int .u16 2, .int .u32 3, .int .u16 4, .int .u32 5, .int .u32 6, .int .u32 0, .int .u32 0, .int .i64 1, .int .i64 0]
  have hg := Blk.alloc Hg.out (.cells #[.int .u32 1, .int .u16 2, .int .u32 3, .int .u16 4, .int .u32 5, .int .u32 6, .int .u32 0, .int .u32 0, .int .i64 1, .int .i64 0] 46)
  clear Hg
  have hz := Blk.alloc Hz.out (.cells #[.int .u32 1, .int .u16 2, .int .u32 3, .int .u16 4, .int .u32 5, .int .u32 6, .int .u32 0, .int .u32 0, .int .i64 1, .int .i64 0] 46)
  clear Hz
  have hB := HB.out.alloc HB.out.size (.cells #[.int .u32 1, .int .u16 2, .int .u32 3, .int .u16 4, .int .u32 5, .int .u32 6, .int .u32 0, .int .u32 0, .int .i64 1, .int .i64 0] 46)
  clear HB
  obtain ⟨gx, hge⟩ : ∃ g, g = w6.heap.size := ⟨_, rfl⟩
  rw [← hge] at hx ⊢
  have hle_x : w6.heap.size ≤ gx := by omega
  clear hge
  generalize w6.alloc _ = wn7 at *
  have Hg := Lib.hid hg
  clear hg
  have Hz := Lib.hid hz
  clear hz
  have Hx := Lib.hid hx
  clear hx
  have HB := Lib.hid hB
  clear hB
  obtain ⟨w7, hwnw7⟩ : ∃ W, W = wn7 := ⟨_, rfl⟩
  rw [← hwnw7] at Hg Hz Hx HB ⊢
  clear hwnw7
  go_wp2_with (first | (refine wpl_load Hx.out shU shI rfl _ rfl rfl ?_))
  with_reducible refine (Kr.out _).mono ?_
  rintro e w8 ⟨rfl, hbq⟩
  have hg := Hg.out.below hbq Hg.out.lt
  clear Hg
  have Hg := Lib.hid hg
  clear hg
  have hz := Hz.out.below hbq Hz.out.lt
  clear Hz
  have Hz := Lib.hid hz
  clear hz
  have hx := Hx.out.below hbq Hx.out.lt
  clear Hx
  have Hx := Lib.hid hx
  clear hx
  have hB := HB.out.trans (hbq.mono HB.out.size)
  clear HB
  have HB := Lib.hid hB
  clear hB
  clear hbq
  go_wp2_with fail
  with_reducible refine (Kt.out _).mono ?_
  rintro e w9 ⟨A3, c3, rfl, _, hbq⟩
  have hg := Hg.out.below hbq Hg.out.lt
  clear Hg
  have Hg := Lib.hid hg
  clear hg
  have hz := Hz.out.below hbq Hz.out.lt
  clear Hz
  have Hz := Lib.hid hz
  clear hz
  have hx := Hx.out.below hbq Hx.out.lt
  clear Hx
  have Hx := Lib.hid hx
  clear hx
  have hB := HB.out.trans (hbq.mono HB.out.size)
  clear HB
  have HB := Lib.hid hB
  clear hB
  clear hbq
  go_upto_region 8 with (first | (refine wpl_put_new rfl (exTg.c A3 c3) segI_ rfl (by kernel_rfl) rfl _ _ rfl rfl rfl rfl ?_))
  have hu := Blk.new w9 30 (exTg.c A3 c3)
  have hg := Blk.alloc Hg.out (.cells (exTg.c A3 c3) 30)
  clear Hg
  have hz := Blk.alloc Hz.out (.cells (exTg.c A3 c3) 30)
  clear Hz
  have hx := Blk.alloc Hx.out (.cells (exTg.c A3 c3) 30)
  clear Hx
  have hB := HB.out.alloc HB.out.size (.cells (exTg.c A3 c3) 30)
  clear HB
  obtain ⟨gu, hge⟩ : ∃ g, g = w9.heap.size := ⟨_, rfl⟩
  rw [← hge] at hu ⊢
  have hle_u : w9.heap.size ≤ gu := by omega
  clear hge
  generalize w9.alloc _ = wn8 at *
  have Hg := Lib.hid hg
  clear hg
  have Hz := Lib.hid hz
  clear hz
  have Hx := Lib.hid hx
  clear hx
  have Hu := Lib.hid hu
  clear hu
  have HB := Lib.hid hB
  clear hB
  obtain ⟨w10, hwnw10⟩ : ∃ W, W = wn8 := ⟨_, rfl⟩
  rw [← hwnw10] at Hg Hz Hx Hu HB ⊢
  clear hwnw10
  have hS0 : Fresh w10 w10 := Below.refl _ _
  have ne : Nonempty (Cls (Fresh w10)) := ⟨⟨w10, hS0⟩⟩
  have qg : ∀ y : Cls (Fresh w10), Blk y.w gg 30 (exSg.c A c) := fun y => Hg.out.below y.h Hg.out.lt
  have qu : ∀ y : Cls (Fresh w10), Blk y.w gu 30 (exTg.c A3 c3) := fun y => Hu.out.below y.h Hu.out.lt
  have qx : ∀ y : Cls (Fresh w10), Blk y.w gx 46 #[.int .u32 1, .int .u16 2, .int .u32 3, .int .u16 4, .int .u32 5, .int .u32 6, .int .u32 0, .int .u32 0, .int .i64 1, .int .i64 0] := fun y => Hx.out.below y.h Hx.out.lt
  have k4 : ∀ y : Cls (Fresh w10), y.w.cell? ⟨gu, 4, none⟩ = some (.int .u32 12) := fun y => (qu y).cell 4
  have k5 : ∀ y : Cls (Fresh w10), y.w.cell? ⟨gu, 5, none⟩ = some (.int .u32 0) := fun y => (qu y).cell 5
  have k7 : ∀ y : Cls (Fresh w10), y.w.cell? ⟨gu, 7, none⟩ = some (.int .u16 200) := fun y => (qu y).cell 7
  have k3 : ∀ y : Cls (Fresh w10), y.w.cell? ⟨gu, 3, none⟩ = some (.int .u16 4) := fun y => (qu y).cell 3
  have c1 : ∀ y : Cls (Fresh w10), _ := fun y => (seg_any y.w).mono fun e1 w1 ⟨he, hb⟩ => (⟨he, Fresh.below y.h hb, hb⟩ : e1 = _ ∧ Fresh w10 w1 ∧ Below y.w.heap.size y.w w1)
  have c2 : ∀ y : Cls (Fresh w10), _ := fun y => (Ks.out y.w A c).mono fun e1 w1 ⟨he, hb⟩ => (⟨he, Fresh.below y.h hb, hb⟩ : e1 = _ ∧ Fresh w10 w1 ∧ Below y.w.heap.size y.w w1)
  have c3_ : ∀ y : Cls (Fresh w10), Calls Try.prog 23 #[.agg (exSg.c none 0), .agg #[.int .u32 1, .int .u16 2, .int .u32 3, .int .u16 4, .int .u32 5, .int .u32 6, .int .u32 0, .int .u32 0, .int .i64 1, .int .i64 0]] y.w fun e w'' => ∃ v, e = .returned v ∧ segT exTg [v] w'' ∧ Fresh w10 w'' ∧ Below y.w.heap.size y.w w'' := fun y => (Ku.out y.w).mono fun e1 w1 ⟨A', c', he, hr, hb⟩ => ⟨_, he, ⟨A', c', rfl, hr⟩, Fresh.below y.h hb, hb⟩
  have c4 : ∀ (y : Cls (Fresh w10)) (v : Value), segT exTg [v] y.w → Calls Try.prog 15 #[.agg (exTg.c A3 c3), v] y.w fun e w'' => e = .returned (.bool true) ∧ Fresh w10 w'' ∧ Below y.w.heap.size y.w w'' := by
    rintro y v ⟨A', c', hu, _⟩
    injection hu with hu
    subst hu
    exact (Kq.out y.w A3 c3 A' c').mono fun e1 w1 ⟨he, hb⟩ => ⟨he, Fresh.below y.h hb, hb⟩
  have c5 : ∀ y : Cls (Fresh w10), _ := fun y => (Kx.out y.w).mono fun e1 w1 ⟨he, hb⟩ => (⟨he, Fresh.below y.h hb, hb⟩ : e1 = _ ∧ Fresh w10 w1 ∧ Below y.w.heap.size y.w w1)
  have c6 : ∀ y : Cls (Fresh w10), _ := fun y => (Km.out y.w).mono fun e1 w1 ⟨he, hb⟩ => (⟨he, Fresh.below y.h hb, hb⟩ : e1 = _ ∧ Fresh w10 w1 ∧ Below y.w.heap.size y.w w1)
  have f1 : ∀ (vals : Array Value) (w : World), (callFunc 25 vals).run Try.prog w = .ok (.enter 25 vals) w := fun _ _ => by kernel_rfl
  have f2 : ∀ (vals : Array Value) (w : World), (callFunc 15 vals).run Try.prog w = .ok (.enter 15 vals) w := fun _ _ => by kernel_rfl
  have f3 : ∀ (vals : Array Value) (w : World), (callFunc 23 vals).run Try.prog w = .ok (.enter 23 vals) w := fun _ _ => by kernel_rfl
  have f5 : ∀ (vals : Array Value) (w : World), (callFunc 17 vals).run Try.prog w = .ok (.enter 17 vals) w := fun _ _ => by kernel_rfl
  have f6 : ∀ (vals : Array Value) (w : World), (callFunc 13 vals).run Try.prog w = .ok (.enter 13 vals) w := fun _ _ => by kernel_rfl
  have Qg := Lib.hid qg
  clear qg
  have Qu := Lib.hid qu
  clear qu
  have Qx := Lib.hid qx
  clear qx
  have C1 := Lib.hid c1
  clear c1
  have C2 := Lib.hid c2
  clear c2
  have C3_ := Lib.hid c3_
  clear c3_
  have C4 := Lib.hid c4
  clear c4
  have C5 := Lib.hid c5
  clear c5
  have C6 := Lib.hid c6
  clear c6
  have F1 := Lib.hid f1
  clear f1
  have F2 := Lib.hid f2
  clear f2
  have F3 := Lib.hid f3
  clear f3
  have F5 := Lib.hid f5
  clear f5
  have F6 := Lib.hid f6
  clear f6
  simp only [List.append_eq, List.cons_append, List.nil_append]
  refine wp_region_flow 69 (Fresh w10) (fun w w' => Below w.heap.size w w') (by kernel_rfl) (by kernel_rfl) (by kernel_rfl) (fun w => Below.refl _ _) (Fresh.below hS0 (Below.drew (Below.refl _ _))) ?_
  simp only [List.take_succ_cons, List.take_zero, List.drop_succ_cons, List.drop_zero]
  repeat (first
    | (refine flow_load gg _ Qg.out segU segI rfl (fun w => Below.refl _ _) rfl rfl rfl w10 ?_; intro K hK; go_big_quiet_op; go_big_quiet_on)
    | (refine flow_load gu _ Qu.out segU segI rfl (fun w => Below.refl _ _) rfl rfl rfl w10 ?_; intro K hK; go_big_quiet_op; go_big_quiet_on)
    | (refine flow_load gx _ Qx.out shU shI rfl (fun w => Below.refl _ _) rfl rfl rfl w10 ?_; intro K hK; go_big_quiet_op; go_big_quiet_on)
    | (refine flow_quiet (fun w => Below.refl _ _) rfl rfl rfl rfl ?_; intro K hK; go_big_quiet_op; go_big_quiet_on)
    | (refine flow_call F1.out #[] (by simp only [List.map_toArray, List.map_nil]) rfl rfl rfl _ C1.out w10 ?_; intro K hK; go_big_quiet_op; go_big_quiet_on)
    | (refine flow_call F2.out _ ?_ rfl rfl rfl _ C2.out w10 ?_; (focus (simp only [List.map_toArray, List.map_cons, List.map_nil]; rfl)); intro K hK; go_big_quiet_op; go_big_quiet_on)
    | (refine flow_callF (segT exTg) segT.of F3.out _ ?_ rfl C3_.out rfl rfl w10 ?_; (focus (simp only [List.map_toArray, List.map_cons, List.map_nil]; rfl)); intro K hK; go_big_quiet_op; go_big_quiet_on)
    | (refine flow_callY F2.out (.bool true) (fun v => #[.agg (exTg.c A3 c3), v]) 0 rfl rfl (fun f => by rfl) C4.out rfl rfl w10 ?_; intro K hK; go_big_quiet_op; go_big_quiet_on)
    | (refine flow_call F5.out _ ?_ rfl rfl rfl _ C5.out w10 ?_; (focus (simp only [List.map_toArray, List.map_cons, List.map_nil]; rfl)); intro K hK; go_big_quiet_op; go_big_quiet_on)
    | (refine flow_call F6.out _ ?_ rfl rfl rfl _ C6.out w10 ?_; (focus (simp only [List.map_toArray, List.map_cons, List.map_nil]; rfl)); intro K hK; go_big_quiet_op; go_big_quiet_on))
  refine flow_nil ?_
  intro W11 f hW hF
  clear hF
  simp only [fillW, Act.put, List.setIfInBounds_toArray, List.set_cons_succ, List.set_cons_zero]
  generalize f 105 = v105
  have hB11 : Below w.heap.size w W11 := HB.out.trans (Below.mono hW HB.out.size)
  clear hW ne
  have HB11 := Lib.hid hB11
  clear hB11
  go_wp2
  go_ret
  exact ⟨rfl, HB11.out⟩
end Go.Proofs.Ytengegcnocdkoaa
end
section
namespace Go.Proofs.Ytengegcnocdkoaa
open Go.RowKit Go.ChangeShapes Go.WideShapes Go.Deep
section
variable {H : Type} {enc : TypeId × Value → H} {P : Program} {w : World} {base : Nat} {held : Bool}
theorem ReadsAs.structs {t e : TypeId} {fs : Array Field} {ks : List (Sum IntKind Bool)} {c : Value} (h : ReadsAs enc P w base (fun _ => true) held t [c]) (ht : P.underlying t = some (.slice e)) (he : P.underlying e = some (.struct fs))
    (hone : oneCellFields P fs = true) (hC : P.cellsOf e = fs.size) (hks : kindsOk P ks fs.toList = true) (h0 : 0 < fs.size) : ∃ A len cap, c = .slice A len cap ∧ StrRows w ks A len ∧ len ≤ cap ∧ cap ≤ maxLen := by
  obtain ⟨fuel, ⟨d, p⟩, hf⟩ := h
  rcases open_slice_fields ht he hone hC hf with ⟨hcs, _⟩ | ⟨x, l, cp, m, D, Pl, hcs, _, hle, hm, _⟩
  · injection hcs with hcs
    subst hcs
    exact ⟨none, 0, 0, rfl, str_rows (d := d) (p := p) ht he hone hC hks h0 ⟨fuel, hf⟩, Nat.le_refl _, Nat.zero_le _⟩
  · injection hcs with hcs
    subst hcs
    exact ⟨some x, l, cp, rfl, str_rows (d := d) (p := p) ht he hone hC hks h0 ⟨fuel, hf⟩, hle, hm⟩
end
theorem wf_u16 {a : Int} (h : (Lit.int .u16 a).wf = true) : ∃ n : Nat, a = (n : Int) ∧ n < 65536 := by
  simp [Lit.wf, IntKind.min, IntKind.max, IntKind.signed, IntKind.bits] at h
  exact ⟨a.toNat, by omega, by omega⟩
theorem wf_u32 {a : Int} (h : (Lit.int .u32 a).wf = true) : ∃ n : Nat, a = (n : Int) ∧ n < 4294967296 := by
  simp [Lit.wf, IntKind.min, IntKind.max, IntKind.signed, IntKind.bits] at h
  exact ⟨a.toNat, by omega, by omega⟩
theorem wf_u8 {a : Int} (h : (Lit.int .u8 a).wf = true) : ∃ n : Nat, a = (n : Int) ∧ n < 256 := by
  simp [Lit.wf, IntKind.min, IntKind.max, IntKind.signed, IntKind.bits] at h
  exact ⟨a.toNat, by omega, by omega⟩
theorem pick_blocks {P : Nat → Int × Int → Prop} : ∀ n : Nat, (∀ k, k < n → ∃ x, P k x) → ∃ l : List (Int × Int), l.length = n ∧ ∀ k p, l[k]? = some p → P k p
  | 0, _ => ⟨[], rfl, fun k p h => by simp at h⟩
  | n + 1, h => by
    obtain ⟨l, hl, hp⟩ := pick_blocks n fun k hk => h k (by omega)
    obtain ⟨x, hx⟩ := h n (by omega)
    refine ⟨l ++ [x], by simp [hl], fun k p hk => ?_⟩
    by_cases e : k < n
    · rw [List.getElem?_append_left (by omega)] at hk
      exact hp k p hk
    · have hlt := (List.getElem?_eq_some_iff.1 hk).1
      simp at hlt
      obtain rfl : k = n := by omega
      rw [List.getElem?_append_right (by omega), hl, Nat.sub_self] at hk
      simp at hk
      subst hk
      exact hx
/-- blocks that came in -/
theorem rows_blocks {w : World} {A : Option Addr} {n : Nat} (h : StrRows w [.inl .u32, .inl .u32] A n) : ∃ l : List (Int × Int), l.length = n ∧ BlR w A l ∧ ∀ p ∈ l, (0 ≤ p.1 ∧ p.1 ≤ 4294967295) ∧ 0 ≤ p.2 ∧ p.2 ≤ 4294967295 := by
  obtain ⟨l, hl, hp⟩ := pick_blocks (P := fun k p => (∃ r off, A = some ⟨r, off, none⟩ ∧ r < w.heap.size ∧ w.cell? ⟨r, off + k * 2, none⟩ = some (.int .u32 p.1) ∧ w.cell? ⟨r, off + k * 2 + 1, none⟩ = some (.int .u32 p.2)) ∧ (0 ≤ p.1 ∧ p.1 ≤ 4294967295) ∧ 0 ≤ p.2 ∧ p.2 ≤ 4294967295) n fun k hk => by
    obtain ⟨r, off, hr, hb, hc⟩ := h.2 k hk
    obtain ⟨v0, q0, e, rfl, he⟩ := hc 0 _ rfl
    obtain ⟨v1, q1, f, rfl, hf⟩ := hc 1 _ rfl
    obtain ⟨a, rfl, ha⟩ := wf_u32 he
    obtain ⟨b, rfl, hb2⟩ := wf_u32 hf
    exact ⟨⟨a, b⟩, ⟨r, off, hr, hb, q0, q1⟩, by simp only; omega⟩
  refine ⟨l, hl, ?_, fun p hm => ?_⟩
  · cases hc : l with
    | nil => exact .inl rfl
    | cons p0 lr =>
      right
      obtain ⟨⟨r, off, hA, hr, _⟩, _⟩ := hp 0 p0 (by rw [hc]; rfl)
      refine ⟨r, off, hA, hr, fun j p hj => ?_⟩
      obtain ⟨⟨r2, off2, hA2, _, h1, h2⟩, _⟩ := hp j p (by rw [hc]; exact hj)
      rw [hA] at hA2
      injection hA2 with hA2
      injection hA2 with e1 e2
      subst e1 e2
      exact ⟨h1, h2⟩
  · obtain ⟨k, hk⟩ := List.getElem?_of_mem hm
    exact (hp k p hk).2
theorem cellsOpts : Try.prog.cellsOf 28 = 7 := by kernel_rfl
theorem cellsU16 : Try.prog.cellsOf 23 = 1 := by kernel_rfl
theorem cellsU32 : Try.prog.cellsOf 22 = 1 := by kernel_rfl
theorem cellsInt : Try.prog.cellsOf 3 = 1 := by kernel_rfl
theorem cellsBool : Try.prog.cellsOf 4 = 1 := by kernel_rfl
theorem cellsBlks : Try.prog.cellsOf 26 = 1 := by kernel_rfl
/-- what is known of options that came in -/
def OptF (w : World) (o : Op) (A : Option Addr) (c : Nat) : Prop := o.wf ∧ BlR w A o.bl ∧ o.bl.length ≤ c ∧ c ≤ maxLen
section
variable {H : Type} {enc : TypeId × Value → H} {w : World} {base : Nat} {held : Bool}
theorem opts_cells {c0 c1 c2 c3 c4 c5 c6 : Value} (h0 : ReadsAs enc Try.prog w base (fun _ => true) held 28 [c0, c1, c2, c3, c4, c5, c6]) : ∃ (o : Op) (A : Option Addr) (c : Nat), [c0, c1, c2, c3, c4, c5, c6] = (optC o A c).toList ∧ OptF w o A c := by
  obtain ⟨mss, rfl, w0⟩ := (h0.part Try.underlying28 0 rfl cellsU16 (ds := [c0]) rfl).int Try.underlying23
  obtain ⟨sc, rfl, w1⟩ := (h0.part Try.underlying28 1 rfl cellsInt (ds := [c1]) rfl).int Try.underlying3
  obtain ⟨sk, rfl⟩ := (h0.part Try.underlying28 2 rfl cellsBool (ds := [c2]) rfl).bool Try.underlying4
  obtain ⟨A, n, c, rfl, w3, w3a, w3b⟩ := (h0.part Try.underlying28 3 rfl cellsBlks (ds := [c3]) rfl).structs (ks := [.inl .u32, .inl .u32]) Try.underlying26 Try.underlying92 (by kernel_rfl) (by kernel_rfl) (by kernel_rfl) (by decide)
  obtain ⟨tm, rfl⟩ := (h0.part Try.underlying28 4 rfl cellsBool (ds := [c4]) rfl).bool Try.underlying4
  obtain ⟨vl, rfl, w5⟩ := (h0.part Try.underlying28 5 rfl cellsU32 (ds := [c5]) rfl).int Try.underlying22
  obtain ⟨ec, rfl, w6⟩ := (h0.part Try.underlying28 6 rfl cellsU32 (ds := [c6]) rfl).int Try.underlying22
  obtain ⟨l, hl, hr, hb⟩ := rows_blocks w3
  obtain ⟨m', rfl, hm⟩ := wf_u16 w0
  obtain ⟨v', rfl, hv⟩ := wf_u32 w5
  obtain ⟨e', rfl, he⟩ := wf_u32 w6
  subst hl
  exact ⟨⟨m', sc, sk, l, tm, v', e'⟩, A, c, rfl, ⟨hm, w1, hv, he, hb⟩, hr, w3a, w3b⟩
end
end Go.Proofs.Ytengegcnocdkoaa
end
section
namespace Go.Proofs.Ytengegcnocdkoaa
open Go.RowKit Go.ChangeShapes Go.WideShapes Go.Deep
theorem cellsSeg : Try.prog.cellsOf 30 = 16 := by kernel_rfl
theorem cellsShift : Try.prog.cellsOf 46 = 10 := by kernel_rfl
theorem cellsAddr2 : Try.prog.cellsOf 25 = 2 := by kernel_rfl
theorem cellsU8 : Try.prog.cellsOf 5 = 1 := by kernel_rfl
theorem cellsStr : Try.prog.cellsOf 9 = 1 := by kernel_rfl
/-- what is known of a segment that came in -/
structure SegF (w : World) (s0 s1 s2 s3 s4 s5 : Int) (f : Nat) (s7 : Int) (o : Op) (A : Option Addr) (c : Nat) (d : ByteArray) : Prop where
  b0 : 0 ≤ s0 ∧ s0 < 4294967296
  b1 : 0 ≤ s1 ∧ s1 < 65536
  b2 : 0 ≤ s2 ∧ s2 < 4294967296
  b3 : 0 ≤ s3 ∧ s3 < 65536
  b4 : 0 ≤ s4 ∧ s4 < 4294967296
  b5 : 0 ≤ s5 ∧ s5 < 4294967296
  f : f < 256
  b7 : 0 ≤ s7 ∧ s7 < 65536
  o : OptF w o A c
  d : d.size ≤ maxLen
structure ShiftF (x0 x1 x2 x3 x4 x5 x6 x7 x8 x9 : Int) : Prop where
  b0 : 0 ≤ x0 ∧ x0 < 4294967296
  b1 : 0 ≤ x1 ∧ x1 < 65536
  b2 : 0 ≤ x2 ∧ x2 < 4294967296
  b3 : 0 ≤ x3 ∧ x3 < 65536
  b4 : 0 ≤ x4 ∧ x4 < 4294967296
  b5 : 0 ≤ x5 ∧ x5 < 4294967296
  b6 : 0 ≤ x6 ∧ x6 < 4294967296
  b7 : 0 ≤ x7 ∧ x7 < 4294967296
  b8 : (Lit.int .i64 x8).wf = true
  b9 : (Lit.int .i64 x9).wf = true
theorem wf_u16b {a : Int} (h : (Lit.int .u16 a).wf = true) : 0 ≤ a ∧ a < 65536 := by obtain ⟨n, rfl, hn⟩ := wf_u16 h; omega
theorem wf_u32b {a : Int} (h : (Lit.int .u32 a).wf = true) : 0 ≤ a ∧ a < 4294967296 := by obtain ⟨n, rfl, hn⟩ := wf_u32 h; omega
section
variable {H : Type} {enc : TypeId × Value → H} {w : World} {base : Nat} {held : Bool}
theorem addr_cells {c0 c1 : Value} (h : ReadsAs enc Try.prog w base (fun _ => true) held 25 [c0, c1]) : ∃ a b : Int, c0 = .int .u32 a ∧ c1 = .int .u16 b ∧ (0 ≤ a ∧ a < 4294967296) ∧ 0 ≤ b ∧ b < 65536 := by
  obtain ⟨a, rfl, wa⟩ := (h.part Try.underlying25 0 rfl cellsU32 (ds := [c0]) rfl).int Try.underlying22
  obtain ⟨b, rfl, wb⟩ := (h.part Try.underlying25 1 rfl cellsU16 (ds := [c1]) rfl).int Try.underlying23
  exact ⟨a, b, rfl, rfl, wf_u32b wa, wf_u16b wb⟩
set_option maxRecDepth 20000 in
theorem open_seg {r : Reach} {b0 : Nat} {v : Value} {d : DataW H} {p : List MemPlace} (hv : Value.okWide Try.prog w r b0 30 v) (h : DataW.Trod enc Try.prog w base (fun _ => true) held 30 v d p) :
    ∃ (s0 s1 s2 s3 s4 s5 : Int) (f : Nat) (s7 : Int) (o : Op) (A : Option Addr) (c : Nat) (d : ByteArray), v = .agg (segO s0 s1 s2 s3 s4 s5 f s7 o A c d) ∧ SegF w s0 s1 s2 s3 s4 s5 f s7 o A c d := by
  obtain ⟨cs, rfl, hsz⟩ := okWide_struct Try.underlying30 hv
  obtain ⟨l⟩ := cs
  match l, hsz.trans cellsSeg with
  | [c0, c1, c2, c3, c4, c5, c6, c7, d0, d1, d2, d3, d4, d5, d6, c15], _ =>
    have h0 := ReadsAs.of h
    obtain ⟨s0, s1, rfl, rfl, w0, w1⟩ := addr_cells (h0.part Try.underlying30 0 rfl cellsAddr2 (ds := [c0, c1]) rfl)
    obtain ⟨s2, s3, rfl, rfl, w2, w3⟩ := addr_cells (h0.part Try.underlying30 1 rfl cellsAddr2 (ds := [c2, c3]) rfl)
    obtain ⟨s4, rfl, w4⟩ := (h0.part Try.underlying30 2 rfl cellsU32 (ds := [c4]) rfl).int Try.underlying22
    obtain ⟨s5, rfl, w5⟩ := (h0.part Try.underlying30 3 rfl cellsU32 (ds := [c5]) rfl).int Try.underlying22
    obtain ⟨f0, rfl, w6⟩ := (h0.part Try.underlying30 4 rfl cellsU8 (ds := [c6]) rfl).int Try.underlying5
    obtain ⟨s7, rfl, w7⟩ := (h0.part Try.underlying30 5 rfl cellsU16 (ds := [c7]) rfl).int Try.underlying23
    obtain ⟨o, A, c, hc, hf⟩ := opts_cells (h0.part Try.underlying30 6 rfl cellsOpts (ds := [d0, d1, d2, d3, d4, d5, d6]) rfl)
    obtain ⟨dd, rfl, wd⟩ := (h0.part Try.underlying30 7 rfl cellsStr (ds := [c15]) rfl).string Try.underlying9
    obtain ⟨f, rfl, wf⟩ := wf_u8 w6
    simp only [optC, List.cons.injEq, and_true] at hc
    obtain ⟨rfl, rfl, rfl, rfl, rfl, rfl, rfl⟩ := hc
    exact ⟨s0, s1, s2, s3, s4, s5, f, s7, o, A, c, dd, rfl, ⟨w0, w1, w2, w3, wf_u32b w4, wf_u32b w5, wf, wf_u16b w7, hf, wd⟩⟩
set_option maxRecDepth 20000 in
theorem open_shift {r : Reach} {b0 : Nat} {v : Value} {d : DataW H} {p : List MemPlace} (hv : Value.okWide Try.prog w r b0 46 v) (h : DataW.Trod enc Try.prog w base (fun _ => true) held 46 v d p) :
    ∃ x0 x1 x2 x3 x4 x5 x6 x7 x8 x9 : Int, v = .agg #[.int .u32 x0, .int .u16 x1, .int .u32 x2, .int .u16 x3, .int .u32 x4, .int .u32 x5, .int .u32 x6, .int .u32 x7, .int .i64 x8, .int .i64 x9] ∧ ShiftF x0 x1 x2 x3 x4 x5 x6 x7 x8 x9 := by
  obtain ⟨cs, rfl, hsz⟩ := okWide_struct Try.underlying46 hv
  obtain ⟨l⟩ := cs
  match l, hsz.trans cellsShift with
  | [c0, c1, c2, c3, c4, c5, c6, c7, c8, c9], _ =>
    have h0 := ReadsAs.of h
    obtain ⟨s0, s1, rfl, rfl, w0, w1⟩ := addr_cells (h0.part Try.underlying46 0 rfl cellsAddr2 (ds := [c0, c1]) rfl)
    obtain ⟨s2, s3, rfl, rfl, w2, w3⟩ := addr_cells (h0.part Try.underlying46 1 rfl cellsAddr2 (ds := [c2, c3]) rfl)
    obtain ⟨s4, rfl, w4⟩ := (h0.part Try.underlying46 2 rfl cellsU32 (ds := [c4]) rfl).int Try.underlying22
    obtain ⟨s5, rfl, w5⟩ := (h0.part Try.underlying46 3 rfl cellsU32 (ds := [c5]) rfl).int Try.underlying22
    obtain ⟨s6, rfl, w6⟩ := (h0.part Try.underlying46 4 rfl cellsU32 (ds := [c6]) rfl).int Try.underlying22
    obtain ⟨s7, rfl, w7⟩ := (h0.part Try.underlying46 5 rfl cellsU32 (ds := [c7]) rfl).int Try.underlying22
    obtain ⟨s8, rfl, w8⟩ := (h0.part Try.underlying46 6 rfl cellsInt (ds := [c8]) rfl).int Try.underlying3
    obtain ⟨s9, rfl, w9⟩ := (h0.part Try.underlying46 7 rfl cellsInt (ds := [c9]) rfl).int Try.underlying3
    exact ⟨s0, s1, s2, s3, s4, s5, s6, s7, s8, s9, rfl, ⟨w0, w1, w2, w3, wf_u32b w4, wf_u32b w5, wf_u32b w6, wf_u32b w7, w8, w9⟩⟩
end
end Go.Proofs.Ytengegcnocdkoaa
end
