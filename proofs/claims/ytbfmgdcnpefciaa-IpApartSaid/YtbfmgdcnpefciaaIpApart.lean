/- The statement IpApart: packets whose heads, or loads, are not the same have bytes that are not; a packet's length is the head's and the load's; for any two heads and any two loads. -/
import Derived.Test.YtbfmgdcnpefciaaIpAlive
import Derived.Test.YtbfmgdcnpefciaaAggs
import Derived.Lib.SlicesS
set_option linter.unusedVariables false
set_option linter.unusedSimpArgs false
namespace Go.Proofs.Ytbfmgdcnpefciaa.ipApart
open Go.ChangeShapes Go.WideShapes Go.ChangeAt Go.RowKit
open Go.ChangeMaps (open_string shut_string)

theorem ofNat_inj {a b : Nat} (h : UInt8.ofNat a = UInt8.ofNat b) : a % 256 = b % 256 := by
  have := congrArg UInt8.toNat h
  rw [UInt8.toNat_ofNat', UInt8.toNat_ofNat'] at this
  exact this
theorem be2_inj {a b : Nat} (ha : a < 65536) (hb : b < 65536) (h0 : UInt8.ofNat (a / 256) = UInt8.ofNat (b / 256)) (h1 : UInt8.ofNat a = UInt8.ofNat b) : a = b := by
  have := ofNat_inj h0
  have := ofNat_inj h1
  omega
theorem be4_inj {a b : Nat} (ha : a < 4294967296) (hb : b < 4294967296) (h0 : UInt8.ofNat (a / 16777216) = UInt8.ofNat (b / 16777216)) (h1 : UInt8.ofNat (a / 65536) = UInt8.ofNat (b / 65536)) (h2 : UInt8.ofNat (a / 256) = UInt8.ofNat (b / 256)) (h3 : UInt8.ofNat a = UInt8.ofNat b) : a = b := by
  have := ofNat_inj h0
  have := ofNat_inj h1
  have := ofNat_inj h2
  have := ofNat_inj h3
  omega
theorem encL_length (h : IPh) (l : List UInt8) : (encL h l).length = 20 + l.length := by
  unfold encL
  rw [List.length_append, headL_length]
theorem encL_inj {g h : IPh} {a b : List UInt8} (hg : g.ok) (hh : h.ok) (e : encL g a = encL h b) : g = h ∧ a = b := by
  have hl := congrArg List.length e
  rw [encL_length, encL_length] at hl
  unfold encL at e
  obtain ⟨e1, e2⟩ := List.append_inj e (by rw [headL_length, headL_length])
  refine ⟨?_, e2⟩
  obtain ⟨g0, g1, g2, g3, g4, g5, g6⟩ := g
  obtain ⟨h0, h1, h2, h3, h4, h5, h6⟩ := h
  obtain ⟨p1, p2, p3⟩ := hg
  obtain ⟨q1, q2, q3⟩ := hh
  simp only at p1 p2 p3 q1 q2 q3
  simp only [headL, frontL, backL, be2, be4, List.cons_append, List.nil_append, List.cons.injEq] at e1
  obtain ⟨_, rfl, _, _, i0, i1, f0, _, rfl, rfl, _, _, s0, s1, s2, s3, d0, d1, d2, d3, _⟩ := e1
  obtain rfl := be2_inj p3 q3 i0 i1
  obtain rfl := be4_inj p1 q1 s0 s1 s2 s3
  obtain rfl := be4_inj p2 q2 d0 d1 d2 d3
  congr 1
  cases g6 <;> cases h6 <;> simp_all
theorem encB_inj {g h : IPh} {a b : ByteArray} (hg : g.ok) (hh : h.ok) (e : (⟨(encL g a.data.toList).toArray⟩ : ByteArray) = ⟨(encL h b.data.toList).toArray⟩) : g = h ∧ a = b := by
  have e1 := congrArg (fun x : ByteArray => x.data.toList) e
  simp only at e1
  obtain ⟨h1, h2⟩ := encL_inj hg hh (by simpa using e1)
  refine ⟨h1, ?_⟩
  apply ByteArray.ext
  apply Array.toList_inj.1
  exact h2

set_option maxRecDepth 100000 in
set_option maxHeartbeats 4000000 in
theorem walk (a0_0 a0_1 a0_2 a0_3 a0_4 a0_5 : Int) (a0_6 : Bool) (a1_0 a1_1 a1_2 a1_3 a1_4 a1_5 : Int) (a1_6 : Bool) (a2 a3 : ByteArray) (w : World)
    (w0_0 : (Lit.int .u32 a0_0).wf = true) (w0_1 : (Lit.int .u32 a0_1).wf = true) (w0_2 : (Lit.int .u8 a0_2).wf = true) (w0_3 : (Lit.int .u8 a0_3).wf = true) (w0_4 : (Lit.int .u8 a0_4).wf = true) (w0_5 : (Lit.int .u16 a0_5).wf = true)
    (w1_0 : (Lit.int .u32 a1_0).wf = true) (w1_1 : (Lit.int .u32 a1_1).wf = true) (w1_2 : (Lit.int .u8 a1_2).wf = true) (w1_3 : (Lit.int .u8 a1_3).wf = true) (w1_4 : (Lit.int .u8 a1_4).wf = true) (w1_5 : (Lit.int .u16 a1_5).wf = true) (w2 : a2.size ≤ maxLen) (w3 : a3.size ≤ maxLen) :
    Calls Try.prog 10 #[.agg #[.int .u32 a0_0, .int .u32 a0_1, .int .u8 a0_2, .int .u8 a0_3, .int .u8 a0_4, .int .u16 a0_5, .bool a0_6], .agg #[.int .u32 a1_0, .int .u32 a1_1, .int .u8 a1_2, .int .u8 a1_3, .int .u8 a1_4, .int .u16 a1_5, .bool a1_6], .string a2, .string a3] w fun e w' => e = .returned (.bool true) ∧ Below w.heap.size w w' := by
  unfold maxLen at w2 w3
  have hx := Blk.alloc (Blk.new w 48 #[.int .u32 a0_0, .int .u32 a0_1, .int .u8 a0_2, .int .u8 a0_3, .int .u8 a0_4, .int .u16 a0_5, .bool a0_6]) (.cells #[.int .u32 a1_0, .int .u32 a1_1, .int .u8 a1_2, .int .u8 a1_3, .int .u8 a1_4, .int .u16 a1_5, .bool a1_6] 48)
  have hy := Blk.new (w.alloc (.cells #[.int .u32 a0_0, .int .u32 a0_1, .int .u8 a0_2, .int .u8 a0_3, .int .u8 a0_4, .int .u16 a0_5, .bool a0_6] 48)) 48 #[.int .u32 a1_0, .int .u32 a1_1, .int .u8 a1_2, .int .u8 a1_3, .int .u8 a1_4, .int .u16 a1_5, .bool a1_6]
  rw [World.size_alloc] at hy
  have hb0 : Below w.heap.size w ((w.alloc (.cells #[.int .u32 a0_0, .int .u32 a0_1, .int .u8 a0_2, .int .u8 a0_3, .int .u8 a0_4, .int .u16 a0_5, .bool a0_6] 48)).alloc (.cells #[.int .u32 a1_0, .int .u32 a1_1, .int .u8 a1_2, .int .u8 a1_3, .int .u8 a1_4, .int .u16 a1_5, .bool a1_6] 48)) := ((Below.refl _ _).alloc (Nat.le_refl _) _).alloc (by simp) _
  obtain ⟨G, gok, hG⟩ := head_of a0_0 a0_1 a0_2 a0_3 a0_4 a0_5 a0_6 w0_0 w0_1 w0_2 w0_3 w0_4 w0_5
  obtain ⟨H, hok, hH⟩ := head_of a1_0 a1_1 a1_2 a1_3 a1_4 a1_5 a1_6 w1_0 w1_1 w1_2 w1_3 w1_4 w1_5
  clear w0_0 w0_1 w0_2 w0_3 w0_4 w0_5 w1_0 w1_1 w1_2 w1_3 w1_4 w1_5
  have Hx := Lib.hid hx
  clear hx
  have Hy := Lib.hid hy
  clear hy
  have Hb0 := Lib.hid hb0
  clear hb0
  by_cases h1 : 2048 < a2.size
  · clear hG hH
    go_enter Try.func10, Try.ntmps10
    go_wp2_with fail
    (with_reducible refine (alive_ip _).mono ?_)
    rintro e w4 ⟨rfl, hb4⟩
    go_wp2
    go_ret
    exact ⟨rfl, Hb0.out.trans (hb4.mono (by simp <;> omega))⟩
  by_cases h2 : 2048 < a3.size
  · clear hG hH
    go_enter Try.func10, Try.ntmps10
    go_wp2_with fail
    (with_reducible refine (alive_ip _).mono ?_)
    rintro e w4 ⟨rfl, hb4⟩
    go_wp2
    go_ret
    exact ⟨rfl, Hb0.out.trans (hb4.mono (by simp <;> omega))⟩
  have i1 : (a2.size : Int) ≤ 2048 := by omega
  have i2 : (a3.size : Int) ≤ 2048 := by omega
  have c1 := fun W => enc_ok G a2 W gok (by omega)
  have c2 := fun W => enc_ok H a3 W hok (by omega)
  have hinj := fun e => encB_inj (a := a2) (b := a3) gok hok e
  have hsame : G = H → a2 = a3 → (⟨(encL G a2.data.toList).toArray⟩ : ByteArray) = ⟨(encL H a3.data.toList).toArray⟩ := by rintro rfl rfl; rfl
  have hz1 : (encL G a2.data.toList).toArray.size = 20 + a2.size := by
    have := encL_length G a2.data.toList
    simpa using this
  rw [hG] at c1
  rw [hH] at c2
  have hGH : G = H → (#[.int .u32 a0_0, .int .u32 a0_1, .int .u8 a0_2, .int .u8 a0_3, .int .u8 a0_4, .int .u16 a0_5, .bool a0_6] : Array Value) = #[.int .u32 a1_0, .int .u32 a1_1, .int .u8 a1_2, .int .u8 a1_3, .int .u8 a1_4, .int .u16 a1_5, .bool a1_6] := by rintro rfl; rw [← hG, ← hH]
  have hHG : (#[.int .u32 a0_0, .int .u32 a0_1, .int .u8 a0_2, .int .u8 a0_3, .int .u8 a0_4, .int .u16 a0_5, .bool a0_6] : Array Value) = #[.int .u32 a1_0, .int .u32 a1_1, .int .u8 a1_2, .int .u8 a1_3, .int .u8 a1_4, .int .u16 a1_5, .bool a1_6] → G = H := by
    intro h
    rw [← hG, ← hH] at h
    obtain ⟨g0, g1, g2, g3, g4, g5, g6⟩ := G
    obtain ⟨h0, h1, h2, h3, h4, h5, h6⟩ := H
    simp [IPh.cells, UInt8.toNat_inj] at h
    obtain ⟨k0, k1, k2, k3, k4, k5, rfl⟩ := h
    obtain rfl : g2 = h2 := UInt8.toNat_inj.1 (by omega)
    obtain rfl : g3 = h3 := UInt8.toNat_inj.1 (by omega)
    obtain rfl : g4 = h4 := UInt8.toNat_inj.1 (by omega)
    obtain rfl : g0 = h0 := by omega
    obtain rfl : g1 = h1 := by omega
    obtain rfl : g5 = h5 := by omega
    rfl
  obtain ⟨E1, hE1⟩ : ∃ E : ByteArray, E = ⟨(encL G a2.data.toList).toArray⟩ := ⟨_, rfl⟩
  obtain ⟨E2, hE2⟩ : ∃ E : ByteArray, E = ⟨(encL H a3.data.toList).toArray⟩ := ⟨_, rfl⟩
  rw [← hE1] at c1 hinj hsame
  rw [← hE2] at c2 hinj hsame
  have hzE : E1.size = 20 + a2.size := by rw [hE1]; exact hz1
  have i3 : (E1.size : Int) = 20 + (a2.size : Int) := by omega
  clear hz1 hzE hG hH hE1 hE2
  have C1 := Lib.hid c1
  clear c1
  have C2 := Lib.hid c2
  clear c2
  have Hinj := Lib.hid hinj
  clear hinj
  have Hsame := Lib.hid hsame
  clear hsame
  have HGH := Lib.hid hGH
  clear hGH
  have HHG := Lib.hid hHG
  clear hHG
  have I3 := Lib.hid i3
  clear i3
  by_cases hh : (#[.int .u32 a0_0, .int .u32 a0_1, .int .u8 a0_2, .int .u8 a0_3, .int .u8 a0_4, .int .u16 a0_5, .bool a0_6] : Array Value) = #[.int .u32 a1_0, .int .u32 a1_1, .int .u8 a1_2, .int .u8 a1_3, .int .u8 a1_4, .int .u16 a1_5, .bool a1_6]
  · have hgh := HHG.out hh
    have hh2 := hh
    simp only [Array.mk.injEq, List.cons.injEq, Value.int.injEq, Value.bool.injEq, true_and, and_true] at hh2
    obtain ⟨rfl, rfl, rfl, rfl, rfl, rfl, rfl⟩ := hh2
    by_cases hab : a2 = a3
    · subst hab
      obtain rfl := Hsame.out hgh rfl
      clear hh
      go_enter Try.func10, Try.ntmps10
      go_wp2_with fail
      with_reducible refine (C1.out _).mono ?_
      rintro e w2 ⟨rfl, hb2⟩
      have hx2 := Hx.out.below hb2 (by simp <;> omega)
      have hy2 := Hy.out.below hb2 (by simp <;> omega)
      have hB2 := Hb0.out.trans (hb2.mono (by simp <;> omega))
      clear Hx Hy Hb0 hb2
      obtain ⟨x, hxe⟩ : ∃ x, x = w.heap.size := ⟨_, rfl⟩
      rw [← hxe] at hx2 hy2 ⊢
      have d0 := hy2.cell 0
      have d1 := hy2.cell 1
      have d2 := hy2.cell 2
      have d3 := hy2.cell 3
      have d4 := hy2.cell 4
      have d5 := hy2.cell 5
      have d6 := hy2.cell 6
      simp at d0 d1 d2 d3 d4 d5 d6
      have Hx2 := Lib.hid hx2
      clear hx2
      have Hy2 := Lib.hid hy2
      clear hy2
      have HB2 := Lib.hid hB2
      clear hB2
      clear hxe
      go_wp2_with fail
      with_reducible refine (C2.out _).mono ?_
      rintro e w3 ⟨rfl, hb3⟩
      have hx3 := Hx2.out.below hb3 Hx2.out.lt
      have hy3 := Hy2.out.below hb3 Hy2.out.lt
      have hB3 := HB2.out.trans (hb3.mono HB2.out.size)
      clear d0 d1 d2 d3 d4 d5 d6 hb3 Hx2 Hy2 HB2
      have c0 := hx3.cell 0
      have c1 := hx3.cell 1
      have c2 := hx3.cell 2
      have c3 := hx3.cell 3
      have c4 := hx3.cell 4
      have c5 := hx3.cell 5
      have c6 := hx3.cell 6
      simp at c0 c1 c2 c3 c4 c5 c6
      have d0 := hy3.cell 0
      have d1 := hy3.cell 1
      have d2 := hy3.cell 2
      have d3 := hy3.cell 3
      have d4 := hy3.cell 4
      have d5 := hy3.cell 5
      have d6 := hy3.cell 6
      simp at d0 d1 d2 d3 d4 d5 d6
      clear hx3 hy3
      have HB3 := Lib.hid hB3
      clear hB3
      have i3 := I3.out
      go_wp2_with fail
      (with_reducible refine (alive_ip _).mono ?_)
      rintro e w4 ⟨rfl, hb4⟩
      go_wp2
      go_ret
      exact ⟨rfl, HB3.out.trans (hb4.mono HB3.out.size)⟩
    · have hne : E1 ≠ E2 := fun e => hab (Hinj.out e).2
      have e1 : (E1.toList == E2.toList) = false := (Lib.bytes_beq_false_iff E1 E2).2 hne
      have e2 : (a2.toList == a3.toList) = false := (Lib.bytes_beq_false_iff a2 a3).2 hab
      clear hh hne hab
      go_enter Try.func10, Try.ntmps10
      go_wp2_with fail
      with_reducible refine (C1.out _).mono ?_
      rintro e w2 ⟨rfl, hb2⟩
      have hx2 := Hx.out.below hb2 (by simp <;> omega)
      have hy2 := Hy.out.below hb2 (by simp <;> omega)
      have hB2 := Hb0.out.trans (hb2.mono (by simp <;> omega))
      clear Hx Hy Hb0 hb2
      obtain ⟨x, hxe⟩ : ∃ x, x = w.heap.size := ⟨_, rfl⟩
      rw [← hxe] at hx2 hy2 ⊢
      have d0 := hy2.cell 0
      have d1 := hy2.cell 1
      have d2 := hy2.cell 2
      have d3 := hy2.cell 3
      have d4 := hy2.cell 4
      have d5 := hy2.cell 5
      have d6 := hy2.cell 6
      simp at d0 d1 d2 d3 d4 d5 d6
      have Hx2 := Lib.hid hx2
      clear hx2
      have Hy2 := Lib.hid hy2
      clear hy2
      have HB2 := Lib.hid hB2
      clear hB2
      clear hxe
      go_wp2_with fail
      with_reducible refine (C2.out _).mono ?_
      rintro e w3 ⟨rfl, hb3⟩
      have hx3 := Hx2.out.below hb3 Hx2.out.lt
      have hy3 := Hy2.out.below hb3 Hy2.out.lt
      have hB3 := HB2.out.trans (hb3.mono HB2.out.size)
      clear d0 d1 d2 d3 d4 d5 d6 hb3 Hx2 Hy2 HB2
      have c0 := hx3.cell 0
      have c1 := hx3.cell 1
      have c2 := hx3.cell 2
      have c3 := hx3.cell 3
      have c4 := hx3.cell 4
      have c5 := hx3.cell 5
      have c6 := hx3.cell 6
      simp at c0 c1 c2 c3 c4 c5 c6
      have d0 := hy3.cell 0
      have d1 := hy3.cell 1
      have d2 := hy3.cell 2
      have d3 := hy3.cell 3
      have d4 := hy3.cell 4
      have d5 := hy3.cell 5
      have d6 := hy3.cell 6
      simp at d0 d1 d2 d3 d4 d5 d6
      clear hx3 hy3
      have HB3 := Lib.hid hB3
      clear hB3
      have i3 := I3.out
      go_wp2_with fail
      (with_reducible refine (alive_ip _).mono ?_)
      rintro e w4 ⟨rfl, hb4⟩
      go_wp2
      go_ret
      exact ⟨rfl, HB3.out.trans (hb4.mono HB3.out.size)⟩
  · have hne : E1 ≠ E2 := fun e => hh (HGH.out (Hinj.out e).1)
    have e1 : (E1.toList == E2.toList) = false := (Lib.bytes_beq_false_iff E1 E2).2 hne
    have HH := Lib.hid hh
    clear hh hne
    by_cases f0 : a0_0 = a1_0
    case neg =>
      have g0 : (a0_0 == a1_0) = false := by rw [beq_eq_false_iff_ne]; exact f0
      clear f0 HH
      go_enter Try.func10, Try.ntmps10
      go_wp2_with fail
      with_reducible refine (C1.out _).mono ?_
      rintro e w2 ⟨rfl, hb2⟩
      have hx2 := Hx.out.below hb2 (by simp <;> omega)
      have hy2 := Hy.out.below hb2 (by simp <;> omega)
      have hB2 := Hb0.out.trans (hb2.mono (by simp <;> omega))
      clear Hx Hy Hb0 hb2
      obtain ⟨x, hxe⟩ : ∃ x, x = w.heap.size := ⟨_, rfl⟩
      rw [← hxe] at hx2 hy2 ⊢
      have d0 := hy2.cell 0
      have d1 := hy2.cell 1
      have d2 := hy2.cell 2
      have d3 := hy2.cell 3
      have d4 := hy2.cell 4
      have d5 := hy2.cell 5
      have d6 := hy2.cell 6
      simp at d0 d1 d2 d3 d4 d5 d6
      have Hx2 := Lib.hid hx2
      clear hx2
      have Hy2 := Lib.hid hy2
      clear hy2
      have HB2 := Lib.hid hB2
      clear hB2
      clear hxe
      go_wp2_with fail
      with_reducible refine (C2.out _).mono ?_
      rintro e w3 ⟨rfl, hb3⟩
      have hx3 := Hx2.out.below hb3 Hx2.out.lt
      have hy3 := Hy2.out.below hb3 Hy2.out.lt
      have hB3 := HB2.out.trans (hb3.mono HB2.out.size)
      clear d0 d1 d2 d3 d4 d5 d6 hb3 Hx2 Hy2 HB2
      have c0 := hx3.cell 0
      have c1 := hx3.cell 1
      have c2 := hx3.cell 2
      have c3 := hx3.cell 3
      have c4 := hx3.cell 4
      have c5 := hx3.cell 5
      have c6 := hx3.cell 6
      simp at c0 c1 c2 c3 c4 c5 c6
      have d0 := hy3.cell 0
      have d1 := hy3.cell 1
      have d2 := hy3.cell 2
      have d3 := hy3.cell 3
      have d4 := hy3.cell 4
      have d5 := hy3.cell 5
      have d6 := hy3.cell 6
      simp at d0 d1 d2 d3 d4 d5 d6
      clear hx3 hy3
      have HB3 := Lib.hid hB3
      clear hB3
      have i3 := I3.out
      go_wp2_with fail
      (with_reducible refine (alive_ip _).mono ?_)
      rintro e w4 ⟨rfl, hb4⟩
      go_wp2
      go_ret
      exact ⟨rfl, HB3.out.trans (hb4.mono HB3.out.size)⟩
    subst f0
    by_cases f1 : a0_1 = a1_1
    case neg =>
      have g1 : (a0_1 == a1_1) = false := by rw [beq_eq_false_iff_ne]; exact f1
      clear f1 HH
      go_enter Try.func10, Try.ntmps10
      go_wp2_with fail
      with_reducible refine (C1.out _).mono ?_
      rintro e w2 ⟨rfl, hb2⟩
      have hx2 := Hx.out.below hb2 (by simp <;> omega)
      have hy2 := Hy.out.below hb2 (by simp <;> omega)
      have hB2 := Hb0.out.trans (hb2.mono (by simp <;> omega))
      clear Hx Hy Hb0 hb2
      obtain ⟨x, hxe⟩ : ∃ x, x = w.heap.size := ⟨_, rfl⟩
      rw [← hxe] at hx2 hy2 ⊢
      have d0 := hy2.cell 0
      have d1 := hy2.cell 1
      have d2 := hy2.cell 2
      have d3 := hy2.cell 3
      have d4 := hy2.cell 4
      have d5 := hy2.cell 5
      have d6 := hy2.cell 6
      simp at d0 d1 d2 d3 d4 d5 d6
      have Hx2 := Lib.hid hx2
      clear hx2
      have Hy2 := Lib.hid hy2
      clear hy2
      have HB2 := Lib.hid hB2
      clear hB2
      clear hxe
      go_wp2_with fail
      with_reducible refine (C2.out _).mono ?_
      rintro e w3 ⟨rfl, hb3⟩
      have hx3 := Hx2.out.below hb3 Hx2.out.lt
      have hy3 := Hy2.out.below hb3 Hy2.out.lt
      have hB3 := HB2.out.trans (hb3.mono HB2.out.size)
      clear d0 d1 d2 d3 d4 d5 d6 hb3 Hx2 Hy2 HB2
      have c0 := hx3.cell 0
      have c1 := hx3.cell 1
      have c2 := hx3.cell 2
      have c3 := hx3.cell 3
      have c4 := hx3.cell 4
      have c5 := hx3.cell 5
      have c6 := hx3.cell 6
      simp at c0 c1 c2 c3 c4 c5 c6
      have d0 := hy3.cell 0
      have d1 := hy3.cell 1
      have d2 := hy3.cell 2
      have d3 := hy3.cell 3
      have d4 := hy3.cell 4
      have d5 := hy3.cell 5
      have d6 := hy3.cell 6
      simp at d0 d1 d2 d3 d4 d5 d6
      clear hx3 hy3
      have HB3 := Lib.hid hB3
      clear hB3
      have i3 := I3.out
      go_wp2_with fail
      (with_reducible refine (alive_ip _).mono ?_)
      rintro e w4 ⟨rfl, hb4⟩
      go_wp2
      go_ret
      exact ⟨rfl, HB3.out.trans (hb4.mono HB3.out.size)⟩
    subst f1
    by_cases f2 : a0_2 = a1_2
    case neg =>
      have g2 : (a0_2 == a1_2) = false := by rw [beq_eq_false_iff_ne]; exact f2
      clear f2 HH
      go_enter Try.func10, Try.ntmps10
      go_wp2_with fail
      with_reducible refine (C1.out _).mono ?_
      rintro e w2 ⟨rfl, hb2⟩
      have hx2 := Hx.out.below hb2 (by simp <;> omega)
      have hy2 := Hy.out.below hb2 (by simp <;> omega)
      have hB2 := Hb0.out.trans (hb2.mono (by simp <;> omega))
      clear Hx Hy Hb0 hb2
      obtain ⟨x, hxe⟩ : ∃ x, x = w.heap.size := ⟨_, rfl⟩
      rw [← hxe] at hx2 hy2 ⊢
      have d0 := hy2.cell 0
      have d1 := hy2.cell 1
      have d2 := hy2.cell 2
      have d3 := hy2.cell 3
      have d4 := hy2.cell 4
      have d5 := hy2.cell 5
      have d6 := hy2.cell 6
      simp at d0 d1 d2 d3 d4 d5 d6
      have Hx2 := Lib.hid hx2
      clear hx2
      have Hy2 := Lib.hid hy2
      clear hy2
      have HB2 := Lib.hid hB2
      clear hB2
      clear hxe
      go_wp2_with fail
      with_reducible refine (C2.out _).mono ?_
      rintro e w3 ⟨rfl, hb3⟩
      have hx3 := Hx2.out.below hb3 Hx2.out.lt
      have hy3 := Hy2.out.below hb3 Hy2.out.lt
      have hB3 := HB2.out.trans (hb3.mono HB2.out.size)
      clear d0 d1 d2 d3 d4 d5 d6 hb3 Hx2 Hy2 HB2
      have c0 := hx3.cell 0
      have c1 := hx3.cell 1
      have c2 := hx3.cell 2
      have c3 := hx3.cell 3
      have c4 := hx3.cell 4
      have c5 := hx3.cell 5
      have c6 := hx3.cell 6
      simp at c0 c1 c2 c3 c4 c5 c6
      have d0 := hy3.cell 0
      have d1 := hy3.cell 1
      have d2 := hy3.cell 2
      have d3 := hy3.cell 3
      have d4 := hy3.cell 4
      have d5 := hy3.cell 5
      have d6 := hy3.cell 6
      simp at d0 d1 d2 d3 d4 d5 d6
      clear hx3 hy3
      have HB3 := Lib.hid hB3
      clear hB3
      have i3 := I3.out
      go_wp2_with fail
      (with_reducible refine (alive_ip _).mono ?_)
      rintro e w4 ⟨rfl, hb4⟩
      go_wp2
      go_ret
      exact ⟨rfl, HB3.out.trans (hb4.mono HB3.out.size)⟩
    subst f2
    by_cases f3 : a0_3 = a1_3
    case neg =>
      have g3 : (a0_3 == a1_3) = false := by rw [beq_eq_false_iff_ne]; exact f3
      clear f3 HH
      go_enter Try.func10, Try.ntmps10
      go_wp2_with fail
      with_reducible refine (C1.out _).mono ?_
      rintro e w2 ⟨rfl, hb2⟩
      have hx2 := Hx.out.below hb2 (by simp <;> omega)
      have hy2 := Hy.out.below hb2 (by simp <;> omega)
      have hB2 := Hb0.out.trans (hb2.mono (by simp <;> omega))
      clear Hx Hy Hb0 hb2
      obtain ⟨x, hxe⟩ : ∃ x, x = w.heap.size := ⟨_, rfl⟩
      rw [← hxe] at hx2 hy2 ⊢
      have d0 := hy2.cell 0
      have d1 := hy2.cell 1
      have d2 := hy2.cell 2
      have d3 := hy2.cell 3
      have d4 := hy2.cell 4
      have d5 := hy2.cell 5
      have d6 := hy2.cell 6
      simp at d0 d1 d2 d3 d4 d5 d6
      have Hx2 := Lib.hid hx2
      clear hx2
      have Hy2 := Lib.hid hy2
      clear hy2
      have HB2 := Lib.hid hB2
      clear hB2
      clear hxe
      go_wp2_with fail
      with_reducible refine (C2.out _).mono ?_
      rintro e w3 ⟨rfl, hb3⟩
      have hx3 := Hx2.out.below hb3 Hx2.out.lt
      have hy3 := Hy2.out.below hb3 Hy2.out.lt
      have hB3 := HB2.out.trans (hb3.mono HB2.out.size)
      clear d0 d1 d2 d3 d4 d5 d6 hb3 Hx2 Hy2 HB2
      have c0 := hx3.cell 0
      have c1 := hx3.cell 1
      have c2 := hx3.cell 2
      have c3 := hx3.cell 3
      have c4 := hx3.cell 4
      have c5 := hx3.cell 5
      have c6 := hx3.cell 6
      simp at c0 c1 c2 c3 c4 c5 c6
      have d0 := hy3.cell 0
      have d1 := hy3.cell 1
      have d2 := hy3.cell 2
      have d3 := hy3.cell 3
      have d4 := hy3.cell 4
      have d5 := hy3.cell 5
      have d6 := hy3.cell 6
      simp at d0 d1 d2 d3 d4 d5 d6
      clear hx3 hy3
      have HB3 := Lib.hid hB3
      clear hB3
      have i3 := I3.out
      go_wp2_with fail
      (with_reducible refine (alive_ip _).mono ?_)
      rintro e w4 ⟨rfl, hb4⟩
      go_wp2
      go_ret
      exact ⟨rfl, HB3.out.trans (hb4.mono HB3.out.size)⟩
    subst f3
    by_cases f4 : a0_4 = a1_4
    case neg =>
      have g4 : (a0_4 == a1_4) = false := by rw [beq_eq_false_iff_ne]; exact f4
      clear f4 HH
      go_enter Try.func10, Try.ntmps10
      go_wp2_with fail
      with_reducible refine (C1.out _).mono ?_
      rintro e w2 ⟨rfl, hb2⟩
      have hx2 := Hx.out.below hb2 (by simp <;> omega)
      have hy2 := Hy.out.below hb2 (by simp <;> omega)
      have hB2 := Hb0.out.trans (hb2.mono (by simp <;> omega))
      clear Hx Hy Hb0 hb2
      obtain ⟨x, hxe⟩ : ∃ x, x = w.heap.size := ⟨_, rfl⟩
      rw [← hxe] at hx2 hy2 ⊢
      have d0 := hy2.cell 0
      have d1 := hy2.cell 1
      have d2 := hy2.cell 2
      have d3 := hy2.cell 3
      have d4 := hy2.cell 4
      have d5 := hy2.cell 5
      have d6 := hy2.cell 6
      simp at d0 d1 d2 d3 d4 d5 d6
      have Hx2 := Lib.hid hx2
      clear hx2
      have Hy2 := Lib.hid hy2
      clear hy2
      have HB2 := Lib.hid hB2
      clear hB2
      clear hxe
      go_wp2_with fail
      with_reducible refine (C2.out _).mono ?_
      rintro e w3 ⟨rfl, hb3⟩
      have hx3 := Hx2.out.below hb3 Hx2.out.lt
      have hy3 := Hy2.out.below hb3 Hy2.out.lt
      have hB3 := HB2.out.trans (hb3.mono HB2.out.size)
      clear d0 d1 d2 d3 d4 d5 d6 hb3 Hx2 Hy2 HB2
      have c0 := hx3.cell 0
      have c1 := hx3.cell 1
      have c2 := hx3.cell 2
      have c3 := hx3.cell 3
      have c4 := hx3.cell 4
      have c5 := hx3.cell 5
      have c6 := hx3.cell 6
      simp at c0 c1 c2 c3 c4 c5 c6
      have d0 := hy3.cell 0
      have d1 := hy3.cell 1
      have d2 := hy3.cell 2
      have d3 := hy3.cell 3
      have d4 := hy3.cell 4
      have d5 := hy3.cell 5
      have d6 := hy3.cell 6
      simp at d0 d1 d2 d3 d4 d5 d6
      clear hx3 hy3
      have HB3 := Lib.hid hB3
      clear hB3
      have i3 := I3.out
      go_wp2_with fail
      (with_reducible refine (alive_ip _).mono ?_)
      rintro e w4 ⟨rfl, hb4⟩
      go_wp2
      go_ret
      exact ⟨rfl, HB3.out.trans (hb4.mono HB3.out.size)⟩
    subst f4
    by_cases f5 : a0_5 = a1_5
    case neg =>
      have g5 : (a0_5 == a1_5) = false := by rw [beq_eq_false_iff_ne]; exact f5
      clear f5 HH
      go_enter Try.func10, Try.ntmps10
      go_wp2_with fail
      with_reducible refine (C1.out _).mono ?_
      rintro e w2 ⟨rfl, hb2⟩
      have hx2 := Hx.out.below hb2 (by simp <;> omega)
      have hy2 := Hy.out.below hb2 (by simp <;> omega)
      have hB2 := Hb0.out.trans (hb2.mono (by simp <;> omega))
      clear Hx Hy Hb0 hb2
      obtain ⟨x, hxe⟩ : ∃ x, x = w.heap.size := ⟨_, rfl⟩
      rw [← hxe] at hx2 hy2 ⊢
      have d0 := hy2.cell 0
      have d1 := hy2.cell 1
      have d2 := hy2.cell 2
      have d3 := hy2.cell 3
      have d4 := hy2.cell 4
      have d5 := hy2.cell 5
      have d6 := hy2.cell 6
      simp at d0 d1 d2 d3 d4 d5 d6
      have Hx2 := Lib.hid hx2
      clear hx2
      have Hy2 := Lib.hid hy2
      clear hy2
      have HB2 := Lib.hid hB2
      clear hB2
      clear hxe
      go_wp2_with fail
      with_reducible refine (C2.out _).mono ?_
      rintro e w3 ⟨rfl, hb3⟩
      have hx3 := Hx2.out.below hb3 Hx2.out.lt
      have hy3 := Hy2.out.below hb3 Hy2.out.lt
      have hB3 := HB2.out.trans (hb3.mono HB2.out.size)
      clear d0 d1 d2 d3 d4 d5 d6 hb3 Hx2 Hy2 HB2
      have c0 := hx3.cell 0
      have c1 := hx3.cell 1
      have c2 := hx3.cell 2
      have c3 := hx3.cell 3
      have c4 := hx3.cell 4
      have c5 := hx3.cell 5
      have c6 := hx3.cell 6
      simp at c0 c1 c2 c3 c4 c5 c6
      have d0 := hy3.cell 0
      have d1 := hy3.cell 1
      have d2 := hy3.cell 2
      have d3 := hy3.cell 3
      have d4 := hy3.cell 4
      have d5 := hy3.cell 5
      have d6 := hy3.cell 6
      simp at d0 d1 d2 d3 d4 d5 d6
      clear hx3 hy3
      have HB3 := Lib.hid hB3
      clear hB3
      have i3 := I3.out
      go_wp2_with fail
      (with_reducible refine (alive_ip _).mono ?_)
      rintro e w4 ⟨rfl, hb4⟩
      go_wp2
      go_ret
      exact ⟨rfl, HB3.out.trans (hb4.mono HB3.out.size)⟩
    subst f5
    by_cases f6 : a0_6 = a1_6
    case neg =>
      have g6 : (a0_6 == a1_6) = false := by rw [beq_eq_false_iff_ne]; exact f6
      clear f6 HH
      go_enter Try.func10, Try.ntmps10
      go_wp2_with fail
      with_reducible refine (C1.out _).mono ?_
      rintro e w2 ⟨rfl, hb2⟩
      have hx2 := Hx.out.below hb2 (by simp <;> omega)
      have hy2 := Hy.out.below hb2 (by simp <;> omega)
      have hB2 := Hb0.out.trans (hb2.mono (by simp <;> omega))
      clear Hx Hy Hb0 hb2
      obtain ⟨x, hxe⟩ : ∃ x, x = w.heap.size := ⟨_, rfl⟩
      rw [← hxe] at hx2 hy2 ⊢
      have d0 := hy2.cell 0
      have d1 := hy2.cell 1
      have d2 := hy2.cell 2
      have d3 := hy2.cell 3
      have d4 := hy2.cell 4
      have d5 := hy2.cell 5
      have d6 := hy2.cell 6
      simp at d0 d1 d2 d3 d4 d5 d6
      have Hx2 := Lib.hid hx2
      clear hx2
      have Hy2 := Lib.hid hy2
      clear hy2
      have HB2 := Lib.hid hB2
      clear hB2
      clear hxe
      go_wp2_with fail
      with_reducible refine (C2.out _).mono ?_
      rintro e w3 ⟨rfl, hb3⟩
      have hx3 := Hx2.out.below hb3 Hx2.out.lt
      have hy3 := Hy2.out.below hb3 Hy2.out.lt
      have hB3 := HB2.out.trans (hb3.mono HB2.out.size)
      clear d0 d1 d2 d3 d4 d5 d6 hb3 Hx2 Hy2 HB2
      have c0 := hx3.cell 0
      have c1 := hx3.cell 1
      have c2 := hx3.cell 2
      have c3 := hx3.cell 3
      have c4 := hx3.cell 4
      have c5 := hx3.cell 5
      have c6 := hx3.cell 6
      simp at c0 c1 c2 c3 c4 c5 c6
      have d0 := hy3.cell 0
      have d1 := hy3.cell 1
      have d2 := hy3.cell 2
      have d3 := hy3.cell 3
      have d4 := hy3.cell 4
      have d5 := hy3.cell 5
      have d6 := hy3.cell 6
      simp at d0 d1 d2 d3 d4 d5 d6
      clear hx3 hy3
      have HB3 := Lib.hid hB3
      clear hB3
      have i3 := I3.out
      go_wp2_with fail
      (with_reducible refine (alive_ip _).mono ?_)
      rintro e w4 ⟨rfl, hb4⟩
      go_wp2
      go_ret
      exact ⟨rfl, HB3.out.trans (hb4.mono HB3.out.size)⟩
    subst f6
    exact absurd rfl HH.out

theorem own : ownKnob Try.prog.godebug = none := by kernel_rfl
theorem laidOut : laidOutB Try.prog = true := by kernel_rfl
set_option maxRecDepth 100000 in
theorem lifted (os : Os) (started : os.Started) (H : Type) (enc : TypeId × Value → H) :
    ReturnsInHanded {} Try.checked os 10 .any (Rows.ipApartSpec.pre6 enc Try.prog Try.f10 Rows.ipApartRow.domain false) (Rows.ipApartSpec.post enc Try.prog Try.f10 false true false false) := by
  refine returnsInHanded_of_change (C := Try.checked) own started (by kernel_rfl) Try.func10
    (ChangeSpec.witness6 (enc := enc) (C := Try.checked) false ⟨#[], #[.agg #[.int .u32 0, .int .u32 0, .int .u8 0, .int .u8 0, .int .u8 0, .int .u16 0, .bool false], .agg #[.int .u32 0, .int .u32 0, .int .u8 0, .int .u8 0, .int .u8 0, .int .u16 0, .bool false], .string ByteArray.empty, .string ByteArray.empty], []⟩ 8 (by kernel_rfl) (by kernel_rfl) (by kernel_rfl) (by kernel_rfl)) ?_
  intro W base args ds gs before hval0 hW hcnd _
  have hval : ∀ (j : Nat) t v, Try.f10.params[j]? = some t → args[j]? = some v → Value.okWide Try.prog W .any base t v := hval0
  have hW' := hW
  obtain ⟨p, q, hA0, hV, rfl, hfz, hnd⟩ := hW
  have hA : DataW.TrodAll enc Try.prog W 0 (fun _ => true) true Try.f10.params.toList args.toList ds p := hA0
  rw [Try.params10] at hA hval
  obtain ⟨v0, vs0, d0, ds0, p0, q0, hargs, rfl, rfl, h0, r0⟩ := trodAll_cons hA
  obtain ⟨v1, vs1, d1, ds1, p1, q1, rfl, rfl, rfl, h1, r1⟩ := trodAll_cons r0
  obtain ⟨v2, vs2, d2, ds2, p2, q2, rfl, rfl, rfl, h2, r2⟩ := trodAll_cons r1
  obtain ⟨v3, vs3, d3, ds3, p3, q3, rfl, rfl, rfl, h3, r3⟩ := trodAll_cons r2
  obtain ⟨rfl, rfl, rfl⟩ := trodAll_nil r3
  obtain rfl : args = #[v0, v1, v2, v3] := by cases args; simp_all
  obtain ⟨rfl, rfl⟩ := trodVars_none hV
  have k0 := h0
  have lt0 : ∀ x ∈ p0, x.block < W.heap.size := by obtain ⟨m, hm⟩ := k0; exact DataW.trod_lt m _ _ _ hm
  obtain ⟨c0_0, c0_1, c0_2, c0_3, c0_4, c0_5, c0_6, y0_0, y0_1, y0_2, y0_3, y0_4, y0_5, y0_6, m0, rfl, rfl, rfl, hy0_0, hy0_1, hy0_2, hy0_3, hy0_4, hy0_5, hy0_6⟩ := open_agg7 Try.underlying48 (by kernel_rfl) (by kernel_rfl) (hval 0 48 v0 rfl rfl) h0
  obtain ⟨a0_0, e0_0, rfl, w0_0⟩ := DataW.trod_int Try.underlying44 hy0_0
  simp at e0_0
  subst e0_0
  obtain ⟨a0_1, e0_1, rfl, w0_1⟩ := DataW.trod_int Try.underlying44 hy0_1
  simp at e0_1
  subst e0_1
  obtain ⟨a0_2, e0_2, rfl, w0_2⟩ := DataW.trod_int Try.underlying5 hy0_2
  simp at e0_2
  subst e0_2
  obtain ⟨a0_3, e0_3, rfl, w0_3⟩ := DataW.trod_int Try.underlying5 hy0_3
  simp at e0_3
  subst e0_3
  obtain ⟨a0_4, e0_4, rfl, w0_4⟩ := DataW.trod_int Try.underlying5 hy0_4
  simp at e0_4
  subst e0_4
  obtain ⟨a0_5, e0_5, rfl, w0_5⟩ := DataW.trod_int Try.underlying41 hy0_5
  simp at e0_5
  subst e0_5
  obtain ⟨a0_6, e0_6, rfl⟩ := DataW.trod_bool Try.underlying4 hy0_6
  simp at e0_6
  subst e0_6
  have k1 := h1
  have lt1 : ∀ x ∈ p1, x.block < W.heap.size := by obtain ⟨m, hm⟩ := k1; exact DataW.trod_lt m _ _ _ hm
  obtain ⟨c1_0, c1_1, c1_2, c1_3, c1_4, c1_5, c1_6, y1_0, y1_1, y1_2, y1_3, y1_4, y1_5, y1_6, m1, rfl, rfl, rfl, hy1_0, hy1_1, hy1_2, hy1_3, hy1_4, hy1_5, hy1_6⟩ := open_agg7 Try.underlying48 (by kernel_rfl) (by kernel_rfl) (hval 1 48 v1 rfl rfl) h1
  obtain ⟨a1_0, e1_0, rfl, w1_0⟩ := DataW.trod_int Try.underlying44 hy1_0
  simp at e1_0
  subst e1_0
  obtain ⟨a1_1, e1_1, rfl, w1_1⟩ := DataW.trod_int Try.underlying44 hy1_1
  simp at e1_1
  subst e1_1
  obtain ⟨a1_2, e1_2, rfl, w1_2⟩ := DataW.trod_int Try.underlying5 hy1_2
  simp at e1_2
  subst e1_2
  obtain ⟨a1_3, e1_3, rfl, w1_3⟩ := DataW.trod_int Try.underlying5 hy1_3
  simp at e1_3
  subst e1_3
  obtain ⟨a1_4, e1_4, rfl, w1_4⟩ := DataW.trod_int Try.underlying5 hy1_4
  simp at e1_4
  subst e1_4
  obtain ⟨a1_5, e1_5, rfl, w1_5⟩ := DataW.trod_int Try.underlying41 hy1_5
  simp at e1_5
  subst e1_5
  obtain ⟨a1_6, e1_6, rfl⟩ := DataW.trod_bool Try.underlying4 hy1_6
  simp at e1_6
  subst e1_6
  obtain ⟨a2, rfl, rfl, rfl, w2⟩ := open_string Try.underlying9 (hval 2 9 v2 rfl rfl) h2
  obtain ⟨a3, rfl, rfl, rfl, w3⟩ := open_string Try.underlying9 (hval 3 9 v3 rfl rfl) h3
  clear hA0 hval0
  refine (walk a0_0 a0_1 a0_2 a0_3 a0_4 a0_5 a0_6 a1_0 a1_1 a1_2 a1_3 a1_4 a1_5 a1_6 a2 a3 W w0_0 w0_1 w0_2 w0_3 w0_4 w0_5 w1_0 w1_1 w1_2 w1_3 w1_4 w1_5 w2 w3).mono fun e W' ⟨he, bel⟩ => ?_
  subst he
  exact ⟨_, rfl, _, _, _, [], _, [], hW', trodAll_mk1 (shut_bool Try.underlying4 _), (trodAll_cons_mk (Below.trod laidOut (by kernel_rfl) (of_decide_eq_true (by kernel_rfl)) k0 bel lt0) (trodAll_cons_mk (Below.trod laidOut (by kernel_rfl) (of_decide_eq_true (by kernel_rfl)) k1 bel lt1) (trodAll_cons_mk (shut_string Try.underlying9 w2) (trodAll_cons_mk (shut_string Try.underlying9 w3) trodAll_mk0)))), rfl, bel.frame _, fun h => by cases h⟩

theorem over : Rows.ipApartRow.holds Try.pinned (OpenSpec.ofChange Rows.ipApartSpec) :=
  OpenClaim.holds_of_wide 10 Try.f10 rfl rfl rfl rfl rfl rfl rfl ⟨rfl, rfl, rfl, rfl, rfl⟩ rfl rfl rfl rfl rfl (by kernel_rfl) Try.func10 (by kernel_rfl)
    (of_decide_eq_true (by kernel_rfl)) (by unfold Func.isWrapper; first | (rw [if_pos (by decide +kernel)]; kernel_rfl) | (rw [if_neg (by decide +kernel)]; exact ⟨rfl, rfl⟩))
    (fun os started H enc _ => lifted os started H enc)

/-- THE STATEMENT -/
theorem proved : Rows.IpApartSaid := over
#print axioms proved
end Go.Proofs.Ytbfmgdcnpefciaa.ipApart
