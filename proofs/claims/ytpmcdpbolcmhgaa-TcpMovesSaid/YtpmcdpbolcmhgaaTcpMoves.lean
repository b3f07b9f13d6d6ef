/- The statement TcpMoves: a segment which is read is written again as its own bytes, unless its checksum is written otherwise; and heads that are not the same have bytes that are not; for any addresses, any bytes, any two heads. -/
import Derived.Test.YtpmcdpbolcmhgaaTcpAlive
import Derived.Test.YtpmcdpbolcmhgaaTcpMovesP
import Derived.Test.YtpmcdpbolcmhgaaAggs
import Derived.Lib.SlicesS
set_option linter.unusedVariables false
set_option linter.unusedSimpArgs false
namespace Go.Proofs.Ytpmcdpbolcmhgaa.tcpMoves
open Go.ChangeShapes Go.WideShapes Go.ChangeAt Go.RowKit
open Go.ChangeMaps (open_string shut_string)

set_option maxRecDepth 100000 in
/-- two heads, compared -/
theorem run_eq (a3_0 a3_1 a3_2 a3_3 a3_4 a3_5 a3_6 : Int) (a3_7 : ByteArray) (a4_0 a4_1 a4_2 a4_3 a4_4 a4_5 a4_6 : Int) (a4_7 : ByteArray) (h : ¬ (#[.int .u16 a3_0, .int .u16 a3_1, .int .u32 a3_2, .int .u32 a3_3, .int .u8 a3_4, .int .u16 a3_5, .int .u16 a3_6, .string a3_7] : Array Value) = #[.int .u16 a4_0, .int .u16 a4_1, .int .u32 a4_2, .int .u32 a4_3, .int .u8 a4_4, .int .u16 a4_5, .int .u16 a4_6, .string a4_7]) (W : World) :
    (binOp .eql 25 (.agg #[.int .u16 a3_0, .int .u16 a3_1, .int .u32 a3_2, .int .u32 a3_3, .int .u8 a3_4, .int .u16 a3_5, .int .u16 a3_6, .string a3_7]) (.agg #[.int .u16 a4_0, .int .u16 a4_1, .int .u32 a4_2, .int .u32 a4_3, .int .u8 a4_4, .int .u16 a4_5, .int .u16 a4_6, .string a4_7])).run Try.prog W = .ok (.bool false) W := by
  go_simp
  have hb : a3_7.toList = a4_7.toList → a3_7 = a4_7 := by
    intro e
    by_cases h4 : a3_7 = a4_7
    · exact h4
    · have := (Lib.bytes_beq_false_iff a3_7 a4_7).2 h4
      rw [e] at this
      simp at this
  have HH := Lib.hid h
  clear h
  intro f0 f1 f2 f3 f4 f5 f6 f7
  exact absurd (by rw [f0, f1, f2, f3, f4, f5, f6, hb f7]) HH.out
set_option maxRecDepth 100000 in
set_option maxHeartbeats 4000000 in
theorem walk (a0 a1 : Int) (a2 : ByteArray) (a3_0 a3_1 a3_2 a3_3 a3_4 a3_5 a3_6 : Int) (a3_7 : ByteArray) (a4_0 a4_1 a4_2 a4_3 a4_4 a4_5 a4_6 : Int) (a4_7 : ByteArray) (w : World) (w0 : (Lit.int .u32 a0).wf = true) (w1 : (Lit.int .u32 a1).wf = true) (w2 : a2.size ≤ maxLen) (w3_0 : (Lit.int .u16 a3_0).wf = true) (w3_1 : (Lit.int .u16 a3_1).wf = true) (w3_2 : (Lit.int .u32 a3_2).wf = true) (w3_3 : (Lit.int .u32 a3_3).wf = true) (w3_4 : (Lit.int .u8 a3_4).wf = true) (w3_5 : (Lit.int .u16 a3_5).wf = true) (w3_6 : (Lit.int .u16 a3_6).wf = true) (w3_7 : a3_7.size ≤ maxLen) (w4_0 : (Lit.int .u16 a4_0).wf = true) (w4_1 : (Lit.int .u16 a4_1).wf = true) (w4_2 : (Lit.int .u32 a4_2).wf = true) (w4_3 : (Lit.int .u32 a4_3).wf = true) (w4_4 : (Lit.int .u8 a4_4).wf = true) (w4_5 : (Lit.int .u16 a4_5).wf = true) (w4_6 : (Lit.int .u16 a4_6).wf = true) (w4_7 : a4_7.size ≤ maxLen) :
    Calls Try.prog 6 #[.int .u32 a0, .int .u32 a1, .string a2, .agg #[.int .u16 a3_0, .int .u16 a3_1, .int .u32 a3_2, .int .u32 a3_3, .int .u8 a3_4, .int .u16 a3_5, .int .u16 a3_6, .string a3_7], .agg #[.int .u16 a4_0, .int .u16 a4_1, .int .u32 a4_2, .int .u32 a4_3, .int .u8 a4_4, .int .u16 a4_5, .int .u16 a4_6, .string a4_7]] w fun e w' => e = .returned (.bool true) ∧ Below w.heap.size w w' := by
  unfold maxLen at w2 w3_7 w4_7
  obtain ⟨l0, g0⟩ := bounds_u32 w0
  obtain ⟨l1, g1⟩ := bounds_u32 w1
  obtain ⟨s, hs⟩ : ∃ s : Nat, (s : Int) = a0 := ⟨a0.toNat, by omega⟩
  obtain ⟨d, hd⟩ : ∃ s : Nat, (s : Int) = a1 := ⟨a1.toNat, by omega⟩
  subst hs hd
  have s1 : s < 4294967296 := by omega
  have s2 : d < 4294967296 := by omega
  obtain ⟨G, gok, gO, hG⟩ := head_of a3_0 a3_1 a3_2 a3_3 a3_4 a3_5 a3_6 a3_7 w3_0 w3_1 w3_2 w3_3 w3_4 w3_5 w3_6
  obtain ⟨H, hok, hO, hH⟩ := head_of a4_0 a4_1 a4_2 a4_3 a4_4 a4_5 a4_6 a4_7 w4_0 w4_1 w4_2 w4_3 w4_4 w4_5 w4_6
  clear w3_0 w3_1 w3_2 w3_3 w3_4 w3_5 w3_6 w4_0 w4_1 w4_2 w4_3 w4_4 w4_5 w4_6 w0 w1
  have hb0 : Below w.heap.size w w := Below.refl _ _
  have HB := Lib.hid hb0
  clear hb0
  by_cases h1 : 2048 < a2.size
  · clear hG hH gO hO gok hok
    have i1 : (2048 : Int) < (a2.size : Int) := by omega
    go_enter Try.func6, Try.ntmps6
    go_upto_region 1 with fail
    have hx := Blk.alloc (Blk.new w 25 #[.int .u16 a3_0, .int .u16 a3_1, .int .u32 a3_2, .int .u32 a3_3, .int .u8 a3_4, .int .u16 a3_5, .int .u16 a3_6, .string a3_7]) (.cells #[.int .u16 a4_0, .int .u16 a4_1, .int .u32 a4_2, .int .u32 a4_3, .int .u8 a4_4, .int .u16 a4_5, .int .u16 a4_6, .string a4_7] 25)
    have hy := Blk.newB w (.cells #[.int .u16 a3_0, .int .u16 a3_1, .int .u32 a3_2, .int .u32 a3_3, .int .u8 a3_4, .int .u16 a3_5, .int .u16 a3_6, .string a3_7] 25) 25 #[.int .u16 a4_0, .int .u16 a4_1, .int .u32 a4_2, .int .u32 a4_3, .int .u8 a4_4, .int .u16 a4_5, .int .u16 a4_6, .string a4_7]
    have hB := (HB.out.alloc HB.out.size (.cells #[.int .u16 a3_0, .int .u16 a3_1, .int .u32 a3_2, .int .u32 a3_3, .int .u8 a3_4, .int .u16 a3_5, .int .u16 a3_6, .string a3_7] 25)).alloc (Nat.le_trans HB.out.size (by simp)) (.cells #[.int .u16 a4_0, .int .u16 a4_1, .int .u32 a4_2, .int .u32 a4_3, .int .u8 a4_4, .int .u16 a4_5, .int .u16 a4_6, .string a4_7] 25)
    clear HB
    obtain ⟨gy, hge⟩ : ∃ g, g = w.heap.size + 1 := ⟨_, rfl⟩
    rw [← hge] at hy ⊢
    clear hge
    obtain ⟨gx, hge⟩ : ∃ g, g = w.heap.size := ⟨_, rfl⟩
    rw [← hge] at hx ⊢
    clear hge
    generalize (w.alloc _).alloc _ = wn1 at *
    have Hx := Lib.hid hx
    clear hx
    have Hy := Lib.hid hy
    clear hy
    have HB := Lib.hid hB
    clear hB
    go_wp2_with fail
    (with_reducible refine (alive_tcp _).mono ?_)
    rintro e wc2 ⟨rfl, hbq⟩
    have hx := Hx.out.below hbq Hx.out.lt
    clear Hx
    have Hx := Lib.hid hx
    clear hx
    have hy := Hy.out.below hbq Hy.out.lt
    clear Hy
    have Hy := Lib.hid hy
    clear hy
    have hB := HB.out.trans (hbq.mono HB.out.size)
    clear HB
    have HB := Lib.hid hB
    clear hB
    clear hbq
    go_wp2
    go_ret
    exact ⟨rfl, HB.out⟩
  have i1 : (a2.size : Int) ≤ 2048 := by omega
  by_cases h2 : 1024 < a3_7.size
  · clear hG hH gO hO gok hok
    have i2 : (1024 : Int) < (a3_7.size : Int) := by omega
    go_enter Try.func6, Try.ntmps6
    go_upto_region 1 with fail
    have hx := Blk.alloc (Blk.new w 25 #[.int .u16 a3_0, .int .u16 a3_1, .int .u32 a3_2, .int .u32 a3_3, .int .u8 a3_4, .int .u16 a3_5, .int .u16 a3_6, .string a3_7]) (.cells #[.int .u16 a4_0, .int .u16 a4_1, .int .u32 a4_2, .int .u32 a4_3, .int .u8 a4_4, .int .u16 a4_5, .int .u16 a4_6, .string a4_7] 25)
    have hy := Blk.newB w (.cells #[.int .u16 a3_0, .int .u16 a3_1, .int .u32 a3_2, .int .u32 a3_3, .int .u8 a3_4, .int .u16 a3_5, .int .u16 a3_6, .string a3_7] 25) 25 #[.int .u16 a4_0, .int .u16 a4_1, .int .u32 a4_2, .int .u32 a4_3, .int .u8 a4_4, .int .u16 a4_5, .int .u16 a4_6, .string a4_7]
    have hB := (HB.out.alloc HB.out.size (.cells #[.int .u16 a3_0, .int .u16 a3_1, .int .u32 a3_2, .int .u32 a3_3, .int .u8 a3_4, .int .u16 a3_5, .int .u16 a3_6, .string a3_7] 25)).alloc (Nat.le_trans HB.out.size (by simp)) (.cells #[.int .u16 a4_0, .int .u16 a4_1, .int .u32 a4_2, .int .u32 a4_3, .int .u8 a4_4, .int .u16 a4_5, .int .u16 a4_6, .string a4_7] 25)
    clear HB
    obtain ⟨gy, hge⟩ : ∃ g, g = w.heap.size + 1 := ⟨_, rfl⟩
    rw [← hge] at hy ⊢
    clear hge
    obtain ⟨gx, hge⟩ : ∃ g, g = w.heap.size := ⟨_, rfl⟩
    rw [← hge] at hx ⊢
    clear hge
    generalize (w.alloc _).alloc _ = wn3 at *
    have Hx := Lib.hid hx
    clear hx
    have Hy := Lib.hid hy
    clear hy
    have HB := Lib.hid hB
    clear hB
    have c0 := Hx.out.cell 0
    have c1 := Hx.out.cell 1
    have c2 := Hx.out.cell 2
    have c3 := Hx.out.cell 3
    have c4 := Hx.out.cell 4
    have c5 := Hx.out.cell 5
    have c6 := Hx.out.cell 6
    have c7 := Hx.out.cell 7
    simp at c0 c1 c2 c3 c4 c5 c6 c7
    go_upto_region 2 with fail
    clear c0 c1 c2 c3 c4 c5 c6 c7
    go_wp2_with fail
    (with_reducible refine (alive_tcp _).mono ?_)
    rintro e wc4 ⟨rfl, hbq⟩
    have hx := Hx.out.below hbq Hx.out.lt
    clear Hx
    have Hx := Lib.hid hx
    clear hx
    have hy := Hy.out.below hbq Hy.out.lt
    clear Hy
    have Hy := Lib.hid hy
    clear hy
    have hB := HB.out.trans (hbq.mono HB.out.size)
    clear HB
    have HB := Lib.hid hB
    clear hB
    clear hbq
    go_wp2
    go_ret
    exact ⟨rfl, HB.out⟩
  have i2 : (a3_7.size : Int) ≤ 1024 := by omega
  by_cases h3 : 1024 < a4_7.size
  · clear hG hH gO hO gok hok
    have i3 : (1024 : Int) < (a4_7.size : Int) := by omega
    go_enter Try.func6, Try.ntmps6
    go_upto_region 1 with fail
    have hx := Blk.alloc (Blk.new w 25 #[.int .u16 a3_0, .int .u16 a3_1, .int .u32 a3_2, .int .u32 a3_3, .int .u8 a3_4, .int .u16 a3_5, .int .u16 a3_6, .string a3_7]) (.cells #[.int .u16 a4_0, .int .u16 a4_1, .int .u32 a4_2, .int .u32 a4_3, .int .u8 a4_4, .int .u16 a4_5, .int .u16 a4_6, .string a4_7] 25)
    have hy := Blk.newB w (.cells #[.int .u16 a3_0, .int .u16 a3_1, .int .u32 a3_2, .int .u32 a3_3, .int .u8 a3_4, .int .u16 a3_5, .int .u16 a3_6, .string a3_7] 25) 25 #[.int .u16 a4_0, .int .u16 a4_1, .int .u32 a4_2, .int .u32 a4_3, .int .u8 a4_4, .int .u16 a4_5, .int .u16 a4_6, .string a4_7]
    have hB := (HB.out.alloc HB.out.size (.cells #[.int .u16 a3_0, .int .u16 a3_1, .int .u32 a3_2, .int .u32 a3_3, .int .u8 a3_4, .int .u16 a3_5, .int .u16 a3_6, .string a3_7] 25)).alloc (Nat.le_trans HB.out.size (by simp)) (.cells #[.int .u16 a4_0, .int .u16 a4_1, .int .u32 a4_2, .int .u32 a4_3, .int .u8 a4_4, .int .u16 a4_5, .int .u16 a4_6, .string a4_7] 25)
    clear HB
    obtain ⟨gy, hge⟩ : ∃ g, g = w.heap.size + 1 := ⟨_, rfl⟩
    rw [← hge] at hy ⊢
    clear hge
    obtain ⟨gx, hge⟩ : ∃ g, g = w.heap.size := ⟨_, rfl⟩
    rw [← hge] at hx ⊢
    clear hge
    generalize (w.alloc _).alloc _ = wn5 at *
    have Hx := Lib.hid hx
    clear hx
    have Hy := Lib.hid hy
    clear hy
    have HB := Lib.hid hB
    clear hB
    have c0 := Hx.out.cell 0
    have c1 := Hx.out.cell 1
    have c2 := Hx.out.cell 2
    have c3 := Hx.out.cell 3
    have c4 := Hx.out.cell 4
    have c5 := Hx.out.cell 5
    have c6 := Hx.out.cell 6
    have c7 := Hx.out.cell 7
    simp at c0 c1 c2 c3 c4 c5 c6 c7
    have d0 := Hy.out.cell 0
    have d1 := Hy.out.cell 1
    have d2 := Hy.out.cell 2
    have d3 := Hy.out.cell 3
    have d4 := Hy.out.cell 4
    have d5 := Hy.out.cell 5
    have d6 := Hy.out.cell 6
    have d7 := Hy.out.cell 7
    simp at d0 d1 d2 d3 d4 d5 d6 d7
    go_upto_region 2 with fail
    clear c0 c1 c2 c3 c4 c5 c6 c7
    clear d0 d1 d2 d3 d4 d5 d6 d7
    go_wp2_with fail
    (with_reducible refine (alive_tcp _).mono ?_)
    rintro e wc6 ⟨rfl, hbq⟩
    have hx := Hx.out.below hbq Hx.out.lt
    clear Hx
    have Hx := Lib.hid hx
    clear hx
    have hy := Hy.out.below hbq Hy.out.lt
    clear Hy
    have Hy := Lib.hid hy
    clear hy
    have hB := HB.out.trans (hbq.mono HB.out.size)
    clear HB
    have HB := Lib.hid hB
    clear hB
    clear hbq
    go_wp2
    go_ret
    exact ⟨rfl, HB.out⟩
  have i3 : (a4_7.size : Int) ≤ 1024 := by omega
  clear h1 h2 h3
  have c3 := fun W => enc_all s d G ⟨#[100, 97, 116, 97]⟩ W s1 s2 gok (by rw [gO]; omega) (by decide)
  have c4 := fun W => enc_all s d H ⟨#[100, 97, 116, 97]⟩ W s1 s2 hok (by rw [hO]; omega) (by decide)
  rw [hG] at c3
  rw [hH] at c4
  unfold encV at c3 c4
  have hinj : encE G ⟨#[100, 97, 116, 97]⟩ = 0 → encE H ⟨#[100, 97, 116, 97]⟩ = 0 → encS s d G ⟨#[100, 97, 116, 97]⟩ = encS s d H ⟨#[100, 97, 116, 97]⟩ → (#[.int .u16 a3_0, .int .u16 a3_1, .int .u32 a3_2, .int .u32 a3_3, .int .u8 a3_4, .int .u16 a3_5, .int .u16 a3_6, .string a3_7] : Array Value) = #[.int .u16 a4_0, .int .u16 a4_1, .int .u32 a4_2, .int .u32 a4_3, .int .u8 a4_4, .int .u16 a4_5, .int .u16 a4_6, .string a4_7] := by
    intro e1 e2 e3
    have m1 := may_of e1
    have m2 := may_of e2
    unfold encS at e3
    rw [if_pos m1, if_pos m2] at e3
    have e4 : encL s d G [100, 97, 116, 97] = encL s d H [100, 97, 116, 97] := by
      have := congrArg (fun b : ByteArray => b.data.toList) e3
      exact this
    have e5 := decH_enc (s := s) (d := d) (data := [100, 97, 116, 97]) gok m1.1
    rw [e4, decH_enc hok m2.1] at e5
    rw [← hG, ← hH, e5]
  generalize encS s d G ⟨#[100, 97, 116, 97]⟩ = E1 at *
  generalize encS s d H ⟨#[100, 97, 116, 97]⟩ = E2 at *
  generalize encE G ⟨#[100, 97, 116, 97]⟩ = k1 at *
  generalize encE H ⟨#[100, 97, 116, 97]⟩ = k2 at *
  have hc : k1 ≠ 0 ∨ (k1 = 0 ∧ k2 ≠ 0) ∨ (k1 = 0 ∧ k2 = 0 ∧ (#[.int .u16 a3_0, .int .u16 a3_1, .int .u32 a3_2, .int .u32 a3_3, .int .u8 a3_4, .int .u16 a3_5, .int .u16 a3_6, .string a3_7] : Array Value) = #[.int .u16 a4_0, .int .u16 a4_1, .int .u32 a4_2, .int .u32 a4_3, .int .u8 a4_4, .int .u16 a4_5, .int .u16 a4_6, .string a4_7]) ∨ (k1 = 0 ∧ k2 = 0 ∧ ¬ (#[.int .u16 a3_0, .int .u16 a3_1, .int .u32 a3_2, .int .u32 a3_3, .int .u8 a3_4, .int .u16 a3_5, .int .u16 a3_6, .string a3_7] : Array Value) = #[.int .u16 a4_0, .int .u16 a4_1, .int .u32 a4_2, .int .u32 a4_3, .int .u8 a4_4, .int .u16 a4_5, .int .u16 a4_6, .string a4_7] ∧ E1 ≠ E2) := by
    by_cases p1 : k1 = 0
    · by_cases p2 : k2 = 0
      · by_cases p3 : (#[.int .u16 a3_0, .int .u16 a3_1, .int .u32 a3_2, .int .u32 a3_3, .int .u8 a3_4, .int .u16 a3_5, .int .u16 a3_6, .string a3_7] : Array Value) = #[.int .u16 a4_0, .int .u16 a4_1, .int .u32 a4_2, .int .u32 a4_3, .int .u8 a4_4, .int .u16 a4_5, .int .u16 a4_6, .string a4_7]
        · exact .inr (.inr (.inl ⟨p1, p2, p3⟩))
        · exact .inr (.inr (.inr ⟨p1, p2, p3, fun e => p3 (hinj p1 p2 e)⟩))
      · exact .inr (.inl ⟨p1, p2⟩)
    · exact .inl p1
  have C3 := Lib.hid c3
  clear c3
  have C4 := Lib.hid c4
  clear c4
  have Hc := Lib.hid hc
  clear hc
  clear hG hH gok hok gO hO hinj
  have c1 := fun W => dec_all s d a2 W s1 s2 (by omega)
  by_cases h0 : decE s d a2.data.toList = 0
  case neg =>
    have hV := decV_bad (rfl : decE s d a2.data.toList = _) h0
    rw [hV] at c1
    have qe : ((decE s d a2.data.toList : Int) == 0) = false := by rw [beq_eq_false_iff_ne]; omega
    generalize decE s d a2.data.toList = ee at *
    unfold badV zeroC at c1
    have C1 := Lib.hid c1
    clear c1
    clear hV h0
    go_enter Try.func6, Try.ntmps6
    go_upto_region 1 with fail
    have hx := Blk.alloc (Blk.new w 25 #[.int .u16 a3_0, .int .u16 a3_1, .int .u32 a3_2, .int .u32 a3_3, .int .u8 a3_4, .int .u16 a3_5, .int .u16 a3_6, .string a3_7]) (.cells #[.int .u16 a4_0, .int .u16 a4_1, .int .u32 a4_2, .int .u32 a4_3, .int .u8 a4_4, .int .u16 a4_5, .int .u16 a4_6, .string a4_7] 25)
    have hy := Blk.newB w (.cells #[.int .u16 a3_0, .int .u16 a3_1, .int .u32 a3_2, .int .u32 a3_3, .int .u8 a3_4, .int .u16 a3_5, .int .u16 a3_6, .string a3_7] 25) 25 #[.int .u16 a4_0, .int .u16 a4_1, .int .u32 a4_2, .int .u32 a4_3, .int .u8 a4_4, .int .u16 a4_5, .int .u16 a4_6, .string a4_7]
    have hB := (HB.out.alloc HB.out.size (.cells #[.int .u16 a3_0, .int .u16 a3_1, .int .u32 a3_2, .int .u32 a3_3, .int .u8 a3_4, .int .u16 a3_5, .int .u16 a3_6, .string a3_7] 25)).alloc (Nat.le_trans HB.out.size (by simp)) (.cells #[.int .u16 a4_0, .int .u16 a4_1, .int .u32 a4_2, .int .u32 a4_3, .int .u8 a4_4, .int .u16 a4_5, .int .u16 a4_6, .string a4_7] 25)
    clear HB
    obtain ⟨gy, hge⟩ : ∃ g, g = w.heap.size + 1 := ⟨_, rfl⟩
    rw [← hge] at hy ⊢
    clear hge
    obtain ⟨gx, hge⟩ : ∃ g, g = w.heap.size := ⟨_, rfl⟩
    rw [← hge] at hx ⊢
    clear hge
    generalize (w.alloc _).alloc _ = wn7 at *
    have Hx := Lib.hid hx
    clear hx
    have Hy := Lib.hid hy
    clear hy
    have HB := Lib.hid hB
    clear hB
    have c0 := Hx.out.cell 0
    have c1 := Hx.out.cell 1
    have c2 := Hx.out.cell 2
    have c3 := Hx.out.cell 3
    have c4 := Hx.out.cell 4
    have c5 := Hx.out.cell 5
    have c6 := Hx.out.cell 6
    have c7 := Hx.out.cell 7
    simp at c0 c1 c2 c3 c4 c5 c6 c7
    have d0 := Hy.out.cell 0
    have d1 := Hy.out.cell 1
    have d2 := Hy.out.cell 2
    have d3 := Hy.out.cell 3
    have d4 := Hy.out.cell 4
    have d5 := Hy.out.cell 5
    have d6 := Hy.out.cell 6
    have d7 := Hy.out.cell 7
    simp at d0 d1 d2 d3 d4 d5 d6 d7
    go_upto_region 3 with fail
    clear c0 c1 c2 c3 c4 c5 c6 c7
    clear d0 d1 d2 d3 d4 d5 d6 d7
    go_wp2_with fail
    (with_reducible refine (C1.out _).mono ?_)
    rintro e wc8 ⟨rfl, hbq⟩
    have hx := Hx.out.below hbq Hx.out.lt
    clear Hx
    have Hx := Lib.hid hx
    clear hx
    have hy := Hy.out.below hbq Hy.out.lt
    clear Hy
    have Hy := Lib.hid hy
    clear hy
    have hB := HB.out.trans (hbq.mono HB.out.size)
    clear HB
    have HB := Lib.hid hB
    clear hB
    clear hbq
    go_upto_region 4 with fail
    have hz := Blk.new wc8 25 #[.int .u16 0, .int .u16 0, .int .u32 0, .int .u32 0, .int .u8 0, .int .u16 0, .int .u16 0, .string ⟨#[]⟩]
    have hx := Blk.alloc Hx.out (.cells #[.int .u16 0, .int .u16 0, .int .u32 0, .int .u32 0, .int .u8 0, .int .u16 0, .int .u16 0, .string ⟨#[]⟩] 25)
    clear Hx
    have hy := Blk.alloc Hy.out (.cells #[.int .u16 0, .int .u16 0, .int .u32 0, .int .u32 0, .int .u8 0, .int .u16 0, .int .u16 0, .string ⟨#[]⟩] 25)
    clear Hy
    have hB := HB.out.alloc HB.out.size (.cells #[.int .u16 0, .int .u16 0, .int .u32 0, .int .u32 0, .int .u8 0, .int .u16 0, .int .u16 0, .string ⟨#[]⟩] 25)
    clear HB
    obtain ⟨gz, hge⟩ : ∃ g, g = wc8.heap.size := ⟨_, rfl⟩
    rw [← hge] at hz ⊢
    clear hge
    generalize wc8.alloc _ = wn9 at *
    have Hx := Lib.hid hx
    clear hx
    have Hy := Lib.hid hy
    clear hy
    have Hz := Lib.hid hz
    clear hz
    have HB := Lib.hid hB
    clear hB
    go_upto_region 8 with fail
    clear qe
    rcases Hc.out with p1 | ⟨rfl, p2⟩ | ⟨rfl, rfl, p3⟩ | ⟨rfl, rfl, p3, p4⟩
    · have n1 : (k1 != 0) = true := by rw [bne_iff_ne]; exact p1
      clear p1 Hc
      have c0 := Hx.out.cell 0
      have c1 := Hx.out.cell 1
      have c2 := Hx.out.cell 2
      have c3 := Hx.out.cell 3
      have c4 := Hx.out.cell 4
      have c5 := Hx.out.cell 5
      have c6 := Hx.out.cell 6
      have c7 := Hx.out.cell 7
      simp at c0 c1 c2 c3 c4 c5 c6 c7
      go_wp2_with fail
      (with_reducible refine (C3.out _).mono ?_)
      rintro e wc10 ⟨rfl, hbq⟩
      have hx := Hx.out.below hbq Hx.out.lt
      clear Hx
      have Hx := Lib.hid hx
      clear hx
      have hy := Hy.out.below hbq Hy.out.lt
      clear Hy
      have Hy := Lib.hid hy
      clear hy
      have hz := Hz.out.below hbq Hz.out.lt
      clear Hz
      have Hz := Lib.hid hz
      clear hz
      have hB := HB.out.trans (hbq.mono HB.out.size)
      clear HB
      have HB := Lib.hid hB
      clear hB
      clear hbq
      clear c0 c1 c2 c3 c4 c5 c6 c7
      have d0 := Hy.out.cell 0
      have d1 := Hy.out.cell 1
      have d2 := Hy.out.cell 2
      have d3 := Hy.out.cell 3
      have d4 := Hy.out.cell 4
      have d5 := Hy.out.cell 5
      have d6 := Hy.out.cell 6
      have d7 := Hy.out.cell 7
      simp at d0 d1 d2 d3 d4 d5 d6 d7
      go_wp2_with fail
      (with_reducible refine (C4.out _).mono ?_)
      rintro e wc11 ⟨rfl, hbq⟩
      have hx := Hx.out.below hbq Hx.out.lt
      clear Hx
      have Hx := Lib.hid hx
      clear hx
      have hy := Hy.out.below hbq Hy.out.lt
      clear Hy
      have Hy := Lib.hid hy
      clear hy
      have hz := Hz.out.below hbq Hz.out.lt
      clear Hz
      have Hz := Lib.hid hz
      clear hz
      have hB := HB.out.trans (hbq.mono HB.out.size)
      clear HB
      have HB := Lib.hid hB
      clear hB
      clear hbq
      clear d0 d1 d2 d3 d4 d5 d6 d7
      have c0 := Hx.out.cell 0
      have c1 := Hx.out.cell 1
      have c2 := Hx.out.cell 2
      have c3 := Hx.out.cell 3
      have c4 := Hx.out.cell 4
      have c5 := Hx.out.cell 5
      have c6 := Hx.out.cell 6
      have c7 := Hx.out.cell 7
      simp at c0 c1 c2 c3 c4 c5 c6 c7
      have d0 := Hy.out.cell 0
      have d1 := Hy.out.cell 1
      have d2 := Hy.out.cell 2
      have d3 := Hy.out.cell 3
      have d4 := Hy.out.cell 4
      have d5 := Hy.out.cell 5
      have d6 := Hy.out.cell 6
      have d7 := Hy.out.cell 7
      simp at d0 d1 d2 d3 d4 d5 d6 d7
      go_wp2_with fail
      (with_reducible refine (alive_tcp _).mono ?_)
      rintro e wc12 ⟨rfl, hbq⟩
      have hx := Hx.out.below hbq Hx.out.lt
      clear Hx
      have Hx := Lib.hid hx
      clear hx
      have hy := Hy.out.below hbq Hy.out.lt
      clear Hy
      have Hy := Lib.hid hy
      clear hy
      have hz := Hz.out.below hbq Hz.out.lt
      clear Hz
      have Hz := Lib.hid hz
      clear hz
      have hB := HB.out.trans (hbq.mono HB.out.size)
      clear HB
      have HB := Lib.hid hB
      clear hB
      clear hbq
      go_wp2
      go_ret
      exact ⟨rfl, HB.out⟩
    · have n1 : (k2 != 0) = true := by rw [bne_iff_ne]; exact p2
      clear p2 Hc
      have c0 := Hx.out.cell 0
      have c1 := Hx.out.cell 1
      have c2 := Hx.out.cell 2
      have c3 := Hx.out.cell 3
      have c4 := Hx.out.cell 4
      have c5 := Hx.out.cell 5
      have c6 := Hx.out.cell 6
      have c7 := Hx.out.cell 7
      simp at c0 c1 c2 c3 c4 c5 c6 c7
      go_wp2_with fail
      (with_reducible refine (C3.out _).mono ?_)
      rintro e wc13 ⟨rfl, hbq⟩
      have hx := Hx.out.below hbq Hx.out.lt
      clear Hx
      have Hx := Lib.hid hx
      clear hx
      have hy := Hy.out.below hbq Hy.out.lt
      clear Hy
      have Hy := Lib.hid hy
      clear hy
      have hz := Hz.out.below hbq Hz.out.lt
      clear Hz
      have Hz := Lib.hid hz
      clear hz
      have hB := HB.out.trans (hbq.mono HB.out.size)
      clear HB
      have HB := Lib.hid hB
      clear hB
      clear hbq
      clear c0 c1 c2 c3 c4 c5 c6 c7
      have d0 := Hy.out.cell 0
      have d1 := Hy.out.cell 1
      have d2 := Hy.out.cell 2
      have d3 := Hy.out.cell 3
      have d4 := Hy.out.cell 4
      have d5 := Hy.out.cell 5
      have d6 := Hy.out.cell 6
      have d7 := Hy.out.cell 7
      simp at d0 d1 d2 d3 d4 d5 d6 d7
      go_wp2_with fail
      (with_reducible refine (C4.out _).mono ?_)
      rintro e wc14 ⟨rfl, hbq⟩
      have hx := Hx.out.below hbq Hx.out.lt
      clear Hx
      have Hx := Lib.hid hx
      clear hx
      have hy := Hy.out.below hbq Hy.out.lt
      clear Hy
      have Hy := Lib.hid hy
      clear hy
      have hz := Hz.out.below hbq Hz.out.lt
      clear Hz
      have Hz := Lib.hid hz
      clear hz
      have hB := HB.out.trans (hbq.mono HB.out.size)
      clear HB
      have HB := Lib.hid hB
      clear hB
      clear hbq
      clear d0 d1 d2 d3 d4 d5 d6 d7
      have c0 := Hx.out.cell 0
      have c1 := Hx.out.cell 1
      have c2 := Hx.out.cell 2
      have c3 := Hx.out.cell 3
      have c4 := Hx.out.cell 4
      have c5 := Hx.out.cell 5
      have c6 := Hx.out.cell 6
      have c7 := Hx.out.cell 7
      simp at c0 c1 c2 c3 c4 c5 c6 c7
      have d0 := Hy.out.cell 0
      have d1 := Hy.out.cell 1
      have d2 := Hy.out.cell 2
      have d3 := Hy.out.cell 3
      have d4 := Hy.out.cell 4
      have d5 := Hy.out.cell 5
      have d6 := Hy.out.cell 6
      have d7 := Hy.out.cell 7
      simp at d0 d1 d2 d3 d4 d5 d6 d7
      go_wp2_with fail
      (with_reducible refine (alive_tcp _).mono ?_)
      rintro e wc15 ⟨rfl, hbq⟩
      have hx := Hx.out.below hbq Hx.out.lt
      clear Hx
      have Hx := Lib.hid hx
      clear hx
      have hy := Hy.out.below hbq Hy.out.lt
      clear Hy
      have Hy := Lib.hid hy
      clear hy
      have hz := Hz.out.below hbq Hz.out.lt
      clear Hz
      have Hz := Lib.hid hz
      clear hz
      have hB := HB.out.trans (hbq.mono HB.out.size)
      clear HB
      have HB := Lib.hid hB
      clear hB
      clear hbq
      go_wp2
      go_ret
      exact ⟨rfl, HB.out⟩
    · clear Hc
      simp only [Array.mk.injEq, List.cons.injEq, Value.int.injEq, Value.string.injEq, true_and, and_true] at p3
      obtain ⟨rfl, rfl, rfl, rfl, rfl, rfl, rfl, rfl⟩ := p3
      clear C4
      have C4 := C3
      have c0 := Hx.out.cell 0
      have c1 := Hx.out.cell 1
      have c2 := Hx.out.cell 2
      have c3 := Hx.out.cell 3
      have c4 := Hx.out.cell 4
      have c5 := Hx.out.cell 5
      have c6 := Hx.out.cell 6
      have c7 := Hx.out.cell 7
      simp at c0 c1 c2 c3 c4 c5 c6 c7
      go_wp2_with fail
      (with_reducible refine (C3.out _).mono ?_)
      rintro e wc16 ⟨rfl, hbq⟩
      have hx := Hx.out.below hbq Hx.out.lt
      clear Hx
      have Hx := Lib.hid hx
      clear hx
      have hy := Hy.out.below hbq Hy.out.lt
      clear Hy
      have Hy := Lib.hid hy
      clear hy
      have hz := Hz.out.below hbq Hz.out.lt
      clear Hz
      have Hz := Lib.hid hz
      clear hz
      have hB := HB.out.trans (hbq.mono HB.out.size)
      clear HB
      have HB := Lib.hid hB
      clear hB
      clear hbq
      clear c0 c1 c2 c3 c4 c5 c6 c7
      have d0 := Hy.out.cell 0
      have d1 := Hy.out.cell 1
      have d2 := Hy.out.cell 2
      have d3 := Hy.out.cell 3
      have d4 := Hy.out.cell 4
      have d5 := Hy.out.cell 5
      have d6 := Hy.out.cell 6
      have d7 := Hy.out.cell 7
      simp at d0 d1 d2 d3 d4 d5 d6 d7
      go_wp2_with fail
      (with_reducible refine (C4.out _).mono ?_)
      rintro e wc17 ⟨rfl, hbq⟩
      have hx := Hx.out.below hbq Hx.out.lt
      clear Hx
      have Hx := Lib.hid hx
      clear hx
      have hy := Hy.out.below hbq Hy.out.lt
      clear Hy
      have Hy := Lib.hid hy
      clear hy
      have hz := Hz.out.below hbq Hz.out.lt
      clear Hz
      have Hz := Lib.hid hz
      clear hz
      have hB := HB.out.trans (hbq.mono HB.out.size)
      clear HB
      have HB := Lib.hid hB
      clear hB
      clear hbq
      clear d0 d1 d2 d3 d4 d5 d6 d7
      have c0 := Hx.out.cell 0
      have c1 := Hx.out.cell 1
      have c2 := Hx.out.cell 2
      have c3 := Hx.out.cell 3
      have c4 := Hx.out.cell 4
      have c5 := Hx.out.cell 5
      have c6 := Hx.out.cell 6
      have c7 := Hx.out.cell 7
      simp at c0 c1 c2 c3 c4 c5 c6 c7
      have d0 := Hy.out.cell 0
      have d1 := Hy.out.cell 1
      have d2 := Hy.out.cell 2
      have d3 := Hy.out.cell 3
      have d4 := Hy.out.cell 4
      have d5 := Hy.out.cell 5
      have d6 := Hy.out.cell 6
      have d7 := Hy.out.cell 7
      simp at d0 d1 d2 d3 d4 d5 d6 d7
      go_wp2_with fail
      (with_reducible refine (alive_tcp _).mono ?_)
      rintro e wc18 ⟨rfl, hbq⟩
      have hx := Hx.out.below hbq Hx.out.lt
      clear Hx
      have Hx := Lib.hid hx
      clear hx
      have hy := Hy.out.below hbq Hy.out.lt
      clear Hy
      have Hy := Lib.hid hy
      clear hy
      have hz := Hz.out.below hbq Hz.out.lt
      clear Hz
      have Hz := Lib.hid hz
      clear hz
      have hB := HB.out.trans (hbq.mono HB.out.size)
      clear HB
      have HB := Lib.hid hB
      clear hB
      clear hbq
      go_wp2
      go_ret
      exact ⟨rfl, HB.out⟩
    · have n1 := run_eq a3_0 a3_1 a3_2 a3_3 a3_4 a3_5 a3_6 a3_7 a4_0 a4_1 a4_2 a4_3 a4_4 a4_5 a4_6 a4_7 p3
      have n2 : (E1.toList == E2.toList) = false := (Lib.bytes_beq_false_iff E1 E2).2 p4
      clear p3 p4 Hc
      have c0 := Hx.out.cell 0
      have c1 := Hx.out.cell 1
      have c2 := Hx.out.cell 2
      have c3 := Hx.out.cell 3
      have c4 := Hx.out.cell 4
      have c5 := Hx.out.cell 5
      have c6 := Hx.out.cell 6
      have c7 := Hx.out.cell 7
      simp at c0 c1 c2 c3 c4 c5 c6 c7
      go_wp2_with fail
      (with_reducible refine (C3.out _).mono ?_)
      rintro e wc19 ⟨rfl, hbq⟩
      have hx := Hx.out.below hbq Hx.out.lt
      clear Hx
      have Hx := Lib.hid hx
      clear hx
      have hy := Hy.out.below hbq Hy.out.lt
      clear Hy
      have Hy := Lib.hid hy
      clear hy
      have hz := Hz.out.below hbq Hz.out.lt
      clear Hz
      have Hz := Lib.hid hz
      clear hz
      have hB := HB.out.trans (hbq.mono HB.out.size)
      clear HB
      have HB := Lib.hid hB
      clear hB
      clear hbq
      clear c0 c1 c2 c3 c4 c5 c6 c7
      have d0 := Hy.out.cell 0
      have d1 := Hy.out.cell 1
      have d2 := Hy.out.cell 2
      have d3 := Hy.out.cell 3
      have d4 := Hy.out.cell 4
      have d5 := Hy.out.cell 5
      have d6 := Hy.out.cell 6
      have d7 := Hy.out.cell 7
      simp at d0 d1 d2 d3 d4 d5 d6 d7
      go_wp2_with fail
      (with_reducible refine (C4.out _).mono ?_)
      rintro e wc20 ⟨rfl, hbq⟩
      have hx := Hx.out.below hbq Hx.out.lt
      clear Hx
      have Hx := Lib.hid hx
      clear hx
      have hy := Hy.out.below hbq Hy.out.lt
      clear Hy
      have Hy := Lib.hid hy
      clear hy
      have hz := Hz.out.below hbq Hz.out.lt
      clear Hz
      have Hz := Lib.hid hz
      clear hz
      have hB := HB.out.trans (hbq.mono HB.out.size)
      clear HB
      have HB := Lib.hid hB
      clear hB
      clear hbq
      clear d0 d1 d2 d3 d4 d5 d6 d7
      have c0 := Hx.out.cell 0
      have c1 := Hx.out.cell 1
      have c2 := Hx.out.cell 2
      have c3 := Hx.out.cell 3
      have c4 := Hx.out.cell 4
      have c5 := Hx.out.cell 5
      have c6 := Hx.out.cell 6
      have c7 := Hx.out.cell 7
      simp at c0 c1 c2 c3 c4 c5 c6 c7
      have d0 := Hy.out.cell 0
      have d1 := Hy.out.cell 1
      have d2 := Hy.out.cell 2
      have d3 := Hy.out.cell 3
      have d4 := Hy.out.cell 4
      have d5 := Hy.out.cell 5
      have d6 := Hy.out.cell 6
      have d7 := Hy.out.cell 7
      simp at d0 d1 d2 d3 d4 d5 d6 d7
      go_wp2_with fail
      (with_reducible refine (alive_tcp _).mono ?_)
      rintro e wc21 ⟨rfl, hbq⟩
      have hx := Hx.out.below hbq Hx.out.lt
      clear Hx
      have Hx := Lib.hid hx
      clear hx
      have hy := Hy.out.below hbq Hy.out.lt
      clear Hy
      have Hy := Lib.hid hy
      clear hy
      have hz := Hz.out.below hbq Hz.out.lt
      clear Hz
      have Hz := Lib.hid hz
      clear hz
      have hB := HB.out.trans (hbq.mono HB.out.size)
      clear HB
      have HB := Lib.hid hB
      clear hB
      clear hbq
      go_wp2
      go_ret
      exact ⟨rfl, HB.out⟩
  have hmv := moves s1 s2 h0
  have hdE := decE_parts h0
  rw [decV_ok h0] at c1
  obtain ⟨dat, hdat⟩ : ∃ b : ByteArray, b = ⟨(a2.data.toList.drop (endN a2.data.toList)).toArray⟩ := ⟨_, rfl⟩
  have hdl : dat.data.toList = a2.data.toList.drop (endN a2.data.toList) := by rw [hdat]
  rw [← hdl] at hmv
  rw [← hdat] at c1
  generalize decH a2.data.toList = X at *
  obtain ⟨xok, xmay, xlen, q, hq, hraw, hqq⟩ := hmv
  have hll : a2.data.toList.length = a2.size := rfl
  have hdz : dat.data.toList.length = dat.size := rfl
  have hle := hdE.2.1
  have c2 := fun W => enc_ok s d X dat W s1 s2 xok xmay.1 xmay.2.1 xmay.2.2 (by omega)
  have hT := raw_parts X dat.data.toList q
  have hT2 := raw_parts X dat.data.toList (sumL s d X dat.data.toList)
  obtain ⟨T, hTT⟩ : ∃ T : ByteArray, T = ⟨(encL s d X dat.data.toList).toArray⟩ := ⟨_, rfl⟩
  rw [← hTT] at c2
  have hTl : T.data.toList = rawL X dat.data.toList (sumL s d X dat.data.toList) := by rw [hTT]; rfl
  have hTz : T.size = a2.size := by
    have := rawL_length X dat.data.toList (sumL s d X dat.data.toList)
    rw [← hTl] at this
    have e : T.data.toList.length = T.size := rfl
    omega
  have hz20 : 20 ≤ a2.size := by have := hdE.1; omega
  have ex1 : T.extract 0 16 = a2.extract 0 16 := by
    apply ByteArray.ext
    apply Array.toList_inj.1
    rw [str_sub, str_sub, hTl, hraw]
    show (List.drop 0 _).take 16 = (List.drop 0 _).take 16
    rw [List.drop_zero, List.drop_zero, hT.1, hT2.1]
  have ex2 : T.extract 18 T.size = a2.extract 18 a2.size := by
    rw [← str_drop, ← str_drop, hTl]
    conv => rhs; rw [hraw]
    rw [hT.2.1, hT2.2.1]
  have ex3 : T = a2 ∨ (T ≠ a2 ∧ a2.extract 16 18 = ⟨#[255, 255]⟩) := by
    by_cases e : T = a2
    · exact .inl e
    · refine .inr ⟨e, ?_⟩
      have hq2 : q = 65535 := by
        rcases hqq with rfl | h
        · exfalso
          apply e
          apply ByteArray.ext
          apply Array.toList_inj.1
          rw [hTl]
          exact hraw.symm
        · exact h
      apply ByteArray.ext
      apply Array.toList_inj.1
      rw [str_sub, hraw, hT.2.2, hq2]
      rfl
  obtain ⟨src, dst, seq, ack, flags, window, urgent, opts⟩ := X
  unfold TCPh.cells at c1 c2
  simp only at c1 c2
  obtain ⟨m, hm⟩ : ∃ m, m = a2.size := ⟨_, rfl⟩
  have y1 : (T.size : Int) = (m : Int) := by omega
  have y2 : (a2.size : Int) = (m : Int) := by omega
  have y3 : (20 : Int) ≤ (m : Int) := by omega
  have y4 : (16 : Int) ≤ (m : Int) := by omega
  have y5 : (18 : Int) ≤ (m : Int) := by omega
  have y6 : (m : Int) ≤ 2048 := by omega
  have C1 := Lib.hid c1
  clear c1
  have C2 := Lib.hid c2
  clear c2
  have Ex1 := Lib.hid ex1
  clear ex1
  have Ex2 := Lib.hid ex2
  clear ex2
  have Ex3 := Lib.hid ex3
  clear ex3
  have Y1 := Lib.hid y1
  clear y1
  have Y2 := Lib.hid y2
  clear y2
  clear xok xmay xlen hq hraw hqq hll hdz hle hT hT2 hTT hTl hTz hz20 hm hdE hdat hdl h0
  go_enter Try.func6, Try.ntmps6
  go_upto_region 1 with fail
  have hx := Blk.alloc (Blk.new w 25 #[.int .u16 a3_0, .int .u16 a3_1, .int .u32 a3_2, .int .u32 a3_3, .int .u8 a3_4, .int .u16 a3_5, .int .u16 a3_6, .string a3_7]) (.cells #[.int .u16 a4_0, .int .u16 a4_1, .int .u32 a4_2, .int .u32 a4_3, .int .u8 a4_4, .int .u16 a4_5, .int .u16 a4_6, .string a4_7] 25)
  have hy := Blk.newB w (.cells #[.int .u16 a3_0, .int .u16 a3_1, .int .u32 a3_2, .int .u32 a3_3, .int .u8 a3_4, .int .u16 a3_5, .int .u16 a3_6, .string a3_7] 25) 25 #[.int .u16 a4_0, .int .u16 a4_1, .int .u32 a4_2, .int .u32 a4_3, .int .u8 a4_4, .int .u16 a4_5, .int .u16 a4_6, .string a4_7]
  have hB := (HB.out.alloc HB.out.size (.cells #[.int .u16 a3_0, .int .u16 a3_1, .int .u32 a3_2, .int .u32 a3_3, .int .u8 a3_4, .int .u16 a3_5, .int .u16 a3_6, .string a3_7] 25)).alloc (Nat.le_trans HB.out.size (by simp)) (.cells #[.int .u16 a4_0, .int .u16 a4_1, .int .u32 a4_2, .int .u32 a4_3, .int .u8 a4_4, .int .u16 a4_5, .int .u16 a4_6, .string a4_7] 25)
  clear HB
  obtain ⟨gy, hge⟩ : ∃ g, g = w.heap.size + 1 := ⟨_, rfl⟩
  rw [← hge] at hy ⊢
  clear hge
  obtain ⟨gx, hge⟩ : ∃ g, g = w.heap.size := ⟨_, rfl⟩
  rw [← hge] at hx ⊢
  clear hge
  generalize (w.alloc _).alloc _ = wn22 at *
  have Hx := Lib.hid hx
  clear hx
  have Hy := Lib.hid hy
  clear hy
  have HB := Lib.hid hB
  clear hB
  have c0 := Hx.out.cell 0
  have c1 := Hx.out.cell 1
  have c2 := Hx.out.cell 2
  have c3 := Hx.out.cell 3
  have c4 := Hx.out.cell 4
  have c5 := Hx.out.cell 5
  have c6 := Hx.out.cell 6
  have c7 := Hx.out.cell 7
  simp at c0 c1 c2 c3 c4 c5 c6 c7
  have d0 := Hy.out.cell 0
  have d1 := Hy.out.cell 1
  have d2 := Hy.out.cell 2
  have d3 := Hy.out.cell 3
  have d4 := Hy.out.cell 4
  have d5 := Hy.out.cell 5
  have d6 := Hy.out.cell 6
  have d7 := Hy.out.cell 7
  simp at d0 d1 d2 d3 d4 d5 d6 d7
  go_upto_region 3 with fail
  clear c0 c1 c2 c3 c4 c5 c6 c7
  clear d0 d1 d2 d3 d4 d5 d6 d7
  go_wp2_with fail
  (with_reducible refine (C1.out _).mono ?_)
  rintro e wc23 ⟨rfl, hbq⟩
  have hx := Hx.out.below hbq Hx.out.lt
  clear Hx
  have Hx := Lib.hid hx
  clear hx
  have hy := Hy.out.below hbq Hy.out.lt
  clear Hy
  have Hy := Lib.hid hy
  clear hy
  have hB := HB.out.trans (hbq.mono HB.out.size)
  clear HB
  have HB := Lib.hid hB
  clear hB
  clear hbq
  go_upto_region 4 with fail
  have hz := Blk.new wc23 25 #[.int .u16 (src : Int), .int .u16 (dst : Int), .int .u32 (seq : Int), .int .u32 (ack : Int), .int .u8 (flags.toNat : Int), .int .u16 (window : Int), .int .u16 (urgent : Int), .string opts]
  have hx := Blk.alloc Hx.out (.cells #[.int .u16 (src : Int), .int .u16 (dst : Int), .int .u32 (seq : Int), .int .u32 (ack : Int), .int .u8 (flags.toNat : Int), .int .u16 (window : Int), .int .u16 (urgent : Int), .string opts] 25)
  clear Hx
  have hy := Blk.alloc Hy.out (.cells #[.int .u16 (src : Int), .int .u16 (dst : Int), .int .u32 (seq : Int), .int .u32 (ack : Int), .int .u8 (flags.toNat : Int), .int .u16 (window : Int), .int .u16 (urgent : Int), .string opts] 25)
  clear Hy
  have hB := HB.out.alloc HB.out.size (.cells #[.int .u16 (src : Int), .int .u16 (dst : Int), .int .u32 (seq : Int), .int .u32 (ack : Int), .int .u8 (flags.toNat : Int), .int .u16 (window : Int), .int .u16 (urgent : Int), .string opts] 25)
  clear HB
  obtain ⟨gz, hge⟩ : ∃ g, g = wc23.heap.size := ⟨_, rfl⟩
  rw [← hge] at hz ⊢
  clear hge
  generalize wc23.alloc _ = wn24 at *
  have Hx := Lib.hid hx
  clear hx
  have Hy := Lib.hid hy
  clear hy
  have Hz := Lib.hid hz
  clear hz
  have HB := Lib.hid hB
  clear hB
  have c0 := Hz.out.cell 0
  have c1 := Hz.out.cell 1
  have c2 := Hz.out.cell 2
  have c3 := Hz.out.cell 3
  have c4 := Hz.out.cell 4
  have c5 := Hz.out.cell 5
  have c6 := Hz.out.cell 6
  have c7 := Hz.out.cell 7
  simp at c0 c1 c2 c3 c4 c5 c6 c7
  go_wp2_with fail
  (with_reducible refine (C2.out _).mono ?_)
  rintro e w6 ⟨rfl, hbq⟩
  have hx := Hx.out.below hbq Hx.out.lt
  clear Hx
  have Hx := Lib.hid hx
  clear hx
  have hy := Hy.out.below hbq Hy.out.lt
  clear Hy
  have Hy := Lib.hid hy
  clear hy
  have hz := Hz.out.below hbq Hz.out.lt
  clear Hz
  have Hz := Lib.hid hz
  clear hz
  have hB := HB.out.trans (hbq.mono HB.out.size)
  clear HB
  have HB := Lib.hid hB
  clear hB
  clear hbq
  clear c0 c1 c2 c3 c4 c5 c6 c7
  go_upto_region 6 with fail
  rcases Ex3.out with e | ⟨e, e2⟩
  · subst e
    clear Ex1 Ex2 Ex3
    have y1 := Y1.out
    have ne : Nonempty (Cls (OldS w6)) := ⟨⟨w6, Below.refl _ _⟩⟩
    refine wp_region_flat (OldS w6) (fun w w' => Below w.heap.size w w') (by kernel_rfl) (by kernel_rfl) (fun w => Below.refl _ _) (OldS.drew (Below.refl _ _)) ?_
    repeat (first
      | (refine flat_skip rfl rfl w6 ?_; intro K hK; go_big_quiet_op; go_big_quiet_on)
      | (refine flat_quiet (fun w => Below.refl _ _) rfl rfl rfl rfl ?_; intro K hK; go_big_quiet_op; go_big_quiet_on))
    refine flat_nil ?_
    intro W7 hW7
    simp only [endF]
    have hx := Hx.out.below hW7 Hx.out.lt
    clear Hx
    have Hx := Lib.hid hx
    clear hx
    have hy := Hy.out.below hW7 Hy.out.lt
    clear Hy
    have Hy := Lib.hid hy
    clear hy
    have hz := Hz.out.below hW7 Hz.out.lt
    clear Hz
    have Hz := Lib.hid hz
    clear hz
    have hB := HB.out.trans (hW7.mono HB.out.size)
    clear HB
    have HB := Lib.hid hB
    clear hB
    clear hW7 ne
    go_upto_region 8 with fail
    rcases Hc.out with p1 | ⟨rfl, p2⟩ | ⟨rfl, rfl, p3⟩ | ⟨rfl, rfl, p3, p4⟩
    · have n1 : (k1 != 0) = true := by rw [bne_iff_ne]; exact p1
      clear p1 Hc
      have c0 := Hx.out.cell 0
      have c1 := Hx.out.cell 1
      have c2 := Hx.out.cell 2
      have c3 := Hx.out.cell 3
      have c4 := Hx.out.cell 4
      have c5 := Hx.out.cell 5
      have c6 := Hx.out.cell 6
      have c7 := Hx.out.cell 7
      simp at c0 c1 c2 c3 c4 c5 c6 c7
      go_wp2_with fail
      (with_reducible refine (C3.out _).mono ?_)
      rintro e wc26 ⟨rfl, hbq⟩
      have hx := Hx.out.below hbq Hx.out.lt
      clear Hx
      have Hx := Lib.hid hx
      clear hx
      have hy := Hy.out.below hbq Hy.out.lt
      clear Hy
      have Hy := Lib.hid hy
      clear hy
      have hz := Hz.out.below hbq Hz.out.lt
      clear Hz
      have Hz := Lib.hid hz
      clear hz
      have hB := HB.out.trans (hbq.mono HB.out.size)
      clear HB
      have HB := Lib.hid hB
      clear hB
      clear hbq
      clear c0 c1 c2 c3 c4 c5 c6 c7
      have d0 := Hy.out.cell 0
      have d1 := Hy.out.cell 1
      have d2 := Hy.out.cell 2
      have d3 := Hy.out.cell 3
      have d4 := Hy.out.cell 4
      have d5 := Hy.out.cell 5
      have d6 := Hy.out.cell 6
      have d7 := Hy.out.cell 7
      simp at d0 d1 d2 d3 d4 d5 d6 d7
      go_wp2_with fail
      (with_reducible refine (C4.out _).mono ?_)
      rintro e wc27 ⟨rfl, hbq⟩
      have hx := Hx.out.below hbq Hx.out.lt
      clear Hx
      have Hx := Lib.hid hx
      clear hx
      have hy := Hy.out.below hbq Hy.out.lt
      clear Hy
      have Hy := Lib.hid hy
      clear hy
      have hz := Hz.out.below hbq Hz.out.lt
      clear Hz
      have Hz := Lib.hid hz
      clear hz
      have hB := HB.out.trans (hbq.mono HB.out.size)
      clear HB
      have HB := Lib.hid hB
      clear hB
      clear hbq
      clear d0 d1 d2 d3 d4 d5 d6 d7
      have c0 := Hx.out.cell 0
      have c1 := Hx.out.cell 1
      have c2 := Hx.out.cell 2
      have c3 := Hx.out.cell 3
      have c4 := Hx.out.cell 4
      have c5 := Hx.out.cell 5
      have c6 := Hx.out.cell 6
      have c7 := Hx.out.cell 7
      simp at c0 c1 c2 c3 c4 c5 c6 c7
      have d0 := Hy.out.cell 0
      have d1 := Hy.out.cell 1
      have d2 := Hy.out.cell 2
      have d3 := Hy.out.cell 3
      have d4 := Hy.out.cell 4
      have d5 := Hy.out.cell 5
      have d6 := Hy.out.cell 6
      have d7 := Hy.out.cell 7
      simp at d0 d1 d2 d3 d4 d5 d6 d7
      go_wp2_with fail
      (with_reducible refine (alive_tcp _).mono ?_)
      rintro e wc28 ⟨rfl, hbq⟩
      have hx := Hx.out.below hbq Hx.out.lt
      clear Hx
      have Hx := Lib.hid hx
      clear hx
      have hy := Hy.out.below hbq Hy.out.lt
      clear Hy
      have Hy := Lib.hid hy
      clear hy
      have hz := Hz.out.below hbq Hz.out.lt
      clear Hz
      have Hz := Lib.hid hz
      clear hz
      have hB := HB.out.trans (hbq.mono HB.out.size)
      clear HB
      have HB := Lib.hid hB
      clear hB
      clear hbq
      go_wp2
      go_ret
      exact ⟨rfl, HB.out⟩
    · have n1 : (k2 != 0) = true := by rw [bne_iff_ne]; exact p2
      clear p2 Hc
      have c0 := Hx.out.cell 0
      have c1 := Hx.out.cell 1
      have c2 := Hx.out.cell 2
      have c3 := Hx.out.cell 3
      have c4 := Hx.out.cell 4
      have c5 := Hx.out.cell 5
      have c6 := Hx.out.cell 6
      have c7 := Hx.out.cell 7
      simp at c0 c1 c2 c3 c4 c5 c6 c7
      go_wp2_with fail
      (with_reducible refine (C3.out _).mono ?_)
      rintro e wc29 ⟨rfl, hbq⟩
      have hx := Hx.out.below hbq Hx.out.lt
      clear Hx
      have Hx := Lib.hid hx
      clear hx
      have hy := Hy.out.below hbq Hy.out.lt
      clear Hy
      have Hy := Lib.hid hy
      clear hy
      have hz := Hz.out.below hbq Hz.out.lt
      clear Hz
      have Hz := Lib.hid hz
      clear hz
      have hB := HB.out.trans (hbq.mono HB.out.size)
      clear HB
      have HB := Lib.hid hB
      clear hB
      clear hbq
      clear c0 c1 c2 c3 c4 c5 c6 c7
      have d0 := Hy.out.cell 0
      have d1 := Hy.out.cell 1
      have d2 := Hy.out.cell 2
      have d3 := Hy.out.cell 3
      have d4 := Hy.out.cell 4
      have d5 := Hy.out.cell 5
      have d6 := Hy.out.cell 6
      have d7 := Hy.out.cell 7
      simp at d0 d1 d2 d3 d4 d5 d6 d7
      go_wp2_with fail
      (with_reducible refine (C4.out _).mono ?_)
      rintro e wc30 ⟨rfl, hbq⟩
      have hx := Hx.out.below hbq Hx.out.lt
      clear Hx
      have Hx := Lib.hid hx
      clear hx
      have hy := Hy.out.below hbq Hy.out.lt
      clear Hy
      have Hy := Lib.hid hy
      clear hy
      have hz := Hz.out.below hbq Hz.out.lt
      clear Hz
      have Hz := Lib.hid hz
      clear hz
      have hB := HB.out.trans (hbq.mono HB.out.size)
      clear HB
      have HB := Lib.hid hB
      clear hB
      clear hbq
      clear d0 d1 d2 d3 d4 d5 d6 d7
      have c0 := Hx.out.cell 0
      have c1 := Hx.out.cell 1
      have c2 := Hx.out.cell 2
      have c3 := Hx.out.cell 3
      have c4 := Hx.out.cell 4
      have c5 := Hx.out.cell 5
      have c6 := Hx.out.cell 6
      have c7 := Hx.out.cell 7
      simp at c0 c1 c2 c3 c4 c5 c6 c7
      have d0 := Hy.out.cell 0
      have d1 := Hy.out.cell 1
      have d2 := Hy.out.cell 2
      have d3 := Hy.out.cell 3
      have d4 := Hy.out.cell 4
      have d5 := Hy.out.cell 5
      have d6 := Hy.out.cell 6
      have d7 := Hy.out.cell 7
      simp at d0 d1 d2 d3 d4 d5 d6 d7
      go_wp2_with fail
      (with_reducible refine (alive_tcp _).mono ?_)
      rintro e wc31 ⟨rfl, hbq⟩
      have hx := Hx.out.below hbq Hx.out.lt
      clear Hx
      have Hx := Lib.hid hx
      clear hx
      have hy := Hy.out.below hbq Hy.out.lt
      clear Hy
      have Hy := Lib.hid hy
      clear hy
      have hz := Hz.out.below hbq Hz.out.lt
      clear Hz
      have Hz := Lib.hid hz
      clear hz
      have hB := HB.out.trans (hbq.mono HB.out.size)
      clear HB
      have HB := Lib.hid hB
      clear hB
      clear hbq
      go_wp2
      go_ret
      exact ⟨rfl, HB.out⟩
    · clear Hc
      simp only [Array.mk.injEq, List.cons.injEq, Value.int.injEq, Value.string.injEq, true_and, and_true] at p3
      obtain ⟨rfl, rfl, rfl, rfl, rfl, rfl, rfl, rfl⟩ := p3
      clear C4
      have C4 := C3
      have c0 := Hx.out.cell 0
      have c1 := Hx.out.cell 1
      have c2 := Hx.out.cell 2
      have c3 := Hx.out.cell 3
      have c4 := Hx.out.cell 4
      have c5 := Hx.out.cell 5
      have c6 := Hx.out.cell 6
      have c7 := Hx.out.cell 7
      simp at c0 c1 c2 c3 c4 c5 c6 c7
      go_wp2_with fail
      (with_reducible refine (C3.out _).mono ?_)
      rintro e wc32 ⟨rfl, hbq⟩
      have hx := Hx.out.below hbq Hx.out.lt
      clear Hx
      have Hx := Lib.hid hx
      clear hx
      have hy := Hy.out.below hbq Hy.out.lt
      clear Hy
      have Hy := Lib.hid hy
      clear hy
      have hz := Hz.out.below hbq Hz.out.lt
      clear Hz
      have Hz := Lib.hid hz
      clear hz
      have hB := HB.out.trans (hbq.mono HB.out.size)
      clear HB
      have HB := Lib.hid hB
      clear hB
      clear hbq
      clear c0 c1 c2 c3 c4 c5 c6 c7
      have d0 := Hy.out.cell 0
      have d1 := Hy.out.cell 1
      have d2 := Hy.out.cell 2
      have d3 := Hy.out.cell 3
      have d4 := Hy.out.cell 4
      have d5 := Hy.out.cell 5
      have d6 := Hy.out.cell 6
      have d7 := Hy.out.cell 7
      simp at d0 d1 d2 d3 d4 d5 d6 d7
      go_wp2_with fail
      (with_reducible refine (C4.out _).mono ?_)
      rintro e wc33 ⟨rfl, hbq⟩
      have hx := Hx.out.below hbq Hx.out.lt
      clear Hx
      have Hx := Lib.hid hx
      clear hx
      have hy := Hy.out.below hbq Hy.out.lt
      clear Hy
      have Hy := Lib.hid hy
      clear hy
      have hz := Hz.out.below hbq Hz.out.lt
      clear Hz
      have Hz := Lib.hid hz
      clear hz
      have hB := HB.out.trans (hbq.mono HB.out.size)
      clear HB
      have HB := Lib.hid hB
      clear hB
      clear hbq
      clear d0 d1 d2 d3 d4 d5 d6 d7
      have c0 := Hx.out.cell 0
      have c1 := Hx.out.cell 1
      have c2 := Hx.out.cell 2
      have c3 := Hx.out.cell 3
      have c4 := Hx.out.cell 4
      have c5 := Hx.out.cell 5
      have c6 := Hx.out.cell 6
      have c7 := Hx.out.cell 7
      simp at c0 c1 c2 c3 c4 c5 c6 c7
      have d0 := Hy.out.cell 0
      have d1 := Hy.out.cell 1
      have d2 := Hy.out.cell 2
      have d3 := Hy.out.cell 3
      have d4 := Hy.out.cell 4
      have d5 := Hy.out.cell 5
      have d6 := Hy.out.cell 6
      have d7 := Hy.out.cell 7
      simp at d0 d1 d2 d3 d4 d5 d6 d7
      go_wp2_with fail
      (with_reducible refine (alive_tcp _).mono ?_)
      rintro e wc34 ⟨rfl, hbq⟩
      have hx := Hx.out.below hbq Hx.out.lt
      clear Hx
      have Hx := Lib.hid hx
      clear hx
      have hy := Hy.out.below hbq Hy.out.lt
      clear Hy
      have Hy := Lib.hid hy
      clear hy
      have hz := Hz.out.below hbq Hz.out.lt
      clear Hz
      have Hz := Lib.hid hz
      clear hz
      have hB := HB.out.trans (hbq.mono HB.out.size)
      clear HB
      have HB := Lib.hid hB
      clear hB
      clear hbq
      go_wp2
      go_ret
      exact ⟨rfl, HB.out⟩
    · have n1 := run_eq a3_0 a3_1 a3_2 a3_3 a3_4 a3_5 a3_6 a3_7 a4_0 a4_1 a4_2 a4_3 a4_4 a4_5 a4_6 a4_7 p3
      have n2 : (E1.toList == E2.toList) = false := (Lib.bytes_beq_false_iff E1 E2).2 p4
      clear p3 p4 Hc
      have c0 := Hx.out.cell 0
      have c1 := Hx.out.cell 1
      have c2 := Hx.out.cell 2
      have c3 := Hx.out.cell 3
      have c4 := Hx.out.cell 4
      have c5 := Hx.out.cell 5
      have c6 := Hx.out.cell 6
      have c7 := Hx.out.cell 7
      simp at c0 c1 c2 c3 c4 c5 c6 c7
      go_wp2_with fail
      (with_reducible refine (C3.out _).mono ?_)
      rintro e wc35 ⟨rfl, hbq⟩
      have hx := Hx.out.below hbq Hx.out.lt
      clear Hx
      have Hx := Lib.hid hx
      clear hx
      have hy := Hy.out.below hbq Hy.out.lt
      clear Hy
      have Hy := Lib.hid hy
      clear hy
      have hz := Hz.out.below hbq Hz.out.lt
      clear Hz
      have Hz := Lib.hid hz
      clear hz
      have hB := HB.out.trans (hbq.mono HB.out.size)
      clear HB
      have HB := Lib.hid hB
      clear hB
      clear hbq
      clear c0 c1 c2 c3 c4 c5 c6 c7
      have d0 := Hy.out.cell 0
      have d1 := Hy.out.cell 1
      have d2 := Hy.out.cell 2
      have d3 := Hy.out.cell 3
      have d4 := Hy.out.cell 4
      have d5 := Hy.out.cell 5
      have d6 := Hy.out.cell 6
      have d7 := Hy.out.cell 7
      simp at d0 d1 d2 d3 d4 d5 d6 d7
      go_wp2_with fail
      (with_reducible refine (C4.out _).mono ?_)
      rintro e wc36 ⟨rfl, hbq⟩
      have hx := Hx.out.below hbq Hx.out.lt
      clear Hx
      have Hx := Lib.hid hx
      clear hx
      have hy := Hy.out.below hbq Hy.out.lt
      clear Hy
      have Hy := Lib.hid hy
      clear hy
      have hz := Hz.out.below hbq Hz.out.lt
      clear Hz
      have Hz := Lib.hid hz
      clear hz
      have hB := HB.out.trans (hbq.mono HB.out.size)
      clear HB
      have HB := Lib.hid hB
      clear hB
      clear hbq
      clear d0 d1 d2 d3 d4 d5 d6 d7
      have c0 := Hx.out.cell 0
      have c1 := Hx.out.cell 1
      have c2 := Hx.out.cell 2
      have c3 := Hx.out.cell 3
      have c4 := Hx.out.cell 4
      have c5 := Hx.out.cell 5
      have c6 := Hx.out.cell 6
      have c7 := Hx.out.cell 7
      simp at c0 c1 c2 c3 c4 c5 c6 c7
      have d0 := Hy.out.cell 0
      have d1 := Hy.out.cell 1
      have d2 := Hy.out.cell 2
      have d3 := Hy.out.cell 3
      have d4 := Hy.out.cell 4
      have d5 := Hy.out.cell 5
      have d6 := Hy.out.cell 6
      have d7 := Hy.out.cell 7
      simp at d0 d1 d2 d3 d4 d5 d6 d7
      go_wp2_with fail
      (with_reducible refine (alive_tcp _).mono ?_)
      rintro e wc37 ⟨rfl, hbq⟩
      have hx := Hx.out.below hbq Hx.out.lt
      clear Hx
      have Hx := Lib.hid hx
      clear hx
      have hy := Hy.out.below hbq Hy.out.lt
      clear Hy
      have Hy := Lib.hid hy
      clear hy
      have hz := Hz.out.below hbq Hz.out.lt
      clear Hz
      have Hz := Lib.hid hz
      clear hz
      have hB := HB.out.trans (hbq.mono HB.out.size)
      clear HB
      have HB := Lib.hid hB
      clear hB
      clear hbq
      go_wp2
      go_ret
      exact ⟨rfl, HB.out⟩
  · have e1 : (T.toList == a2.toList) = false := (Lib.bytes_beq_false_iff T a2).2 e
    have y1 := Y1.out
    have y2 := Y2.out
    have ex1 := Ex1.out
    have ex2 := Ex2.out
    clear e Ex1 Ex2 Ex3
    have ne : Nonempty (Cls (OldS w6)) := ⟨⟨w6, Below.refl _ _⟩⟩
    refine wp_region_flat (OldS w6) (fun w w' => Below w.heap.size w w') (by kernel_rfl) (by kernel_rfl) (fun w => Below.refl _ _) (OldS.drew (Below.refl _ _)) ?_
    repeat (first
      | (refine flat_skip rfl rfl w6 ?_; intro K hK; go_big_quiet_op; go_big_quiet_on)
      | (refine flat_quiet (fun w => Below.refl _ _) rfl rfl rfl rfl ?_; intro K hK; go_big_quiet_op; go_big_quiet_on))
    refine flat_nil ?_
    intro W7 hW7
    simp only [endF]
    have hx := Hx.out.below hW7 Hx.out.lt
    clear Hx
    have Hx := Lib.hid hx
    clear hx
    have hy := Hy.out.below hW7 Hy.out.lt
    clear Hy
    have Hy := Lib.hid hy
    clear hy
    have hz := Hz.out.below hW7 Hz.out.lt
    clear Hz
    have Hz := Lib.hid hz
    clear hz
    have hB := HB.out.trans (hW7.mono HB.out.size)
    clear HB
    have HB := Lib.hid hB
    clear hB
    clear hW7 ne
    go_upto_region 8 with fail
    rcases Hc.out with p1 | ⟨rfl, p2⟩ | ⟨rfl, rfl, p3⟩ | ⟨rfl, rfl, p3, p4⟩
    · have n1 : (k1 != 0) = true := by rw [bne_iff_ne]; exact p1
      clear p1 Hc
      have c0 := Hx.out.cell 0
      have c1 := Hx.out.cell 1
      have c2 := Hx.out.cell 2
      have c3 := Hx.out.cell 3
      have c4 := Hx.out.cell 4
      have c5 := Hx.out.cell 5
      have c6 := Hx.out.cell 6
      have c7 := Hx.out.cell 7
      simp at c0 c1 c2 c3 c4 c5 c6 c7
      go_wp2_with fail
      (with_reducible refine (C3.out _).mono ?_)
      rintro e wc38 ⟨rfl, hbq⟩
      have hx := Hx.out.below hbq Hx.out.lt
      clear Hx
      have Hx := Lib.hid hx
      clear hx
      have hy := Hy.out.below hbq Hy.out.lt
      clear Hy
      have Hy := Lib.hid hy
      clear hy
      have hz := Hz.out.below hbq Hz.out.lt
      clear Hz
      have Hz := Lib.hid hz
      clear hz
      have hB := HB.out.trans (hbq.mono HB.out.size)
      clear HB
      have HB := Lib.hid hB
      clear hB
      clear hbq
      clear c0 c1 c2 c3 c4 c5 c6 c7
      have d0 := Hy.out.cell 0
      have d1 := Hy.out.cell 1
      have d2 := Hy.out.cell 2
      have d3 := Hy.out.cell 3
      have d4 := Hy.out.cell 4
      have d5 := Hy.out.cell 5
      have d6 := Hy.out.cell 6
      have d7 := Hy.out.cell 7
      simp at d0 d1 d2 d3 d4 d5 d6 d7
      go_wp2_with fail
      (with_reducible refine (C4.out _).mono ?_)
      rintro e wc39 ⟨rfl, hbq⟩
      have hx := Hx.out.below hbq Hx.out.lt
      clear Hx
      have Hx := Lib.hid hx
      clear hx
      have hy := Hy.out.below hbq Hy.out.lt
      clear Hy
      have Hy := Lib.hid hy
      clear hy
      have hz := Hz.out.below hbq Hz.out.lt
      clear Hz
      have Hz := Lib.hid hz
      clear hz
      have hB := HB.out.trans (hbq.mono HB.out.size)
      clear HB
      have HB := Lib.hid hB
      clear hB
      clear hbq
      clear d0 d1 d2 d3 d4 d5 d6 d7
      have c0 := Hx.out.cell 0
      have c1 := Hx.out.cell 1
      have c2 := Hx.out.cell 2
      have c3 := Hx.out.cell 3
      have c4 := Hx.out.cell 4
      have c5 := Hx.out.cell 5
      have c6 := Hx.out.cell 6
      have c7 := Hx.out.cell 7
      simp at c0 c1 c2 c3 c4 c5 c6 c7
      have d0 := Hy.out.cell 0
      have d1 := Hy.out.cell 1
      have d2 := Hy.out.cell 2
      have d3 := Hy.out.cell 3
      have d4 := Hy.out.cell 4
      have d5 := Hy.out.cell 5
      have d6 := Hy.out.cell 6
      have d7 := Hy.out.cell 7
      simp at d0 d1 d2 d3 d4 d5 d6 d7
      go_wp2_with fail
      (with_reducible refine (alive_tcp _).mono ?_)
      rintro e wc40 ⟨rfl, hbq⟩
      have hx := Hx.out.below hbq Hx.out.lt
      clear Hx
      have Hx := Lib.hid hx
      clear hx
      have hy := Hy.out.below hbq Hy.out.lt
      clear Hy
      have Hy := Lib.hid hy
      clear hy
      have hz := Hz.out.below hbq Hz.out.lt
      clear Hz
      have Hz := Lib.hid hz
      clear hz
      have hB := HB.out.trans (hbq.mono HB.out.size)
      clear HB
      have HB := Lib.hid hB
      clear hB
      clear hbq
      go_wp2
      go_ret
      exact ⟨rfl, HB.out⟩
    · have n1 : (k2 != 0) = true := by rw [bne_iff_ne]; exact p2
      clear p2 Hc
      have c0 := Hx.out.cell 0
      have c1 := Hx.out.cell 1
      have c2 := Hx.out.cell 2
      have c3 := Hx.out.cell 3
      have c4 := Hx.out.cell 4
      have c5 := Hx.out.cell 5
      have c6 := Hx.out.cell 6
      have c7 := Hx.out.cell 7
      simp at c0 c1 c2 c3 c4 c5 c6 c7
      go_wp2_with fail
      (with_reducible refine (C3.out _).mono ?_)
      rintro e wc41 ⟨rfl, hbq⟩
      have hx := Hx.out.below hbq Hx.out.lt
      clear Hx
      have Hx := Lib.hid hx
      clear hx
      have hy := Hy.out.below hbq Hy.out.lt
      clear Hy
      have Hy := Lib.hid hy
      clear hy
      have hz := Hz.out.below hbq Hz.out.lt
      clear Hz
      have Hz := Lib.hid hz
      clear hz
      have hB := HB.out.trans (hbq.mono HB.out.size)
      clear HB
      have HB := Lib.hid hB
      clear hB
      clear hbq
      clear c0 c1 c2 c3 c4 c5 c6 c7
      have d0 := Hy.out.cell 0
      have d1 := Hy.out.cell 1
      have d2 := Hy.out.cell 2
      have d3 := Hy.out.cell 3
      have d4 := Hy.out.cell 4
      have d5 := Hy.out.cell 5
      have d6 := Hy.out.cell 6
      have d7 := Hy.out.cell 7
      simp at d0 d1 d2 d3 d4 d5 d6 d7
      go_wp2_with fail
      (with_reducible refine (C4.out _).mono ?_)
      rintro e wc42 ⟨rfl, hbq⟩
      have hx := Hx.out.below hbq Hx.out.lt
      clear Hx
      have Hx := Lib.hid hx
      clear hx
      have hy := Hy.out.below hbq Hy.out.lt
      clear Hy
      have Hy := Lib.hid hy
      clear hy
      have hz := Hz.out.below hbq Hz.out.lt
      clear Hz
      have Hz := Lib.hid hz
      clear hz
      have hB := HB.out.trans (hbq.mono HB.out.size)
      clear HB
      have HB := Lib.hid hB
      clear hB
      clear hbq
      clear d0 d1 d2 d3 d4 d5 d6 d7
      have c0 := Hx.out.cell 0
      have c1 := Hx.out.cell 1
      have c2 := Hx.out.cell 2
      have c3 := Hx.out.cell 3
      have c4 := Hx.out.cell 4
      have c5 := Hx.out.cell 5
      have c6 := Hx.out.cell 6
      have c7 := Hx.out.cell 7
      simp at c0 c1 c2 c3 c4 c5 c6 c7
      have d0 := Hy.out.cell 0
      have d1 := Hy.out.cell 1
      have d2 := Hy.out.cell 2
      have d3 := Hy.out.cell 3
      have d4 := Hy.out.cell 4
      have d5 := Hy.out.cell 5
      have d6 := Hy.out.cell 6
      have d7 := Hy.out.cell 7
      simp at d0 d1 d2 d3 d4 d5 d6 d7
      go_wp2_with fail
      (with_reducible refine (alive_tcp _).mono ?_)
      rintro e wc43 ⟨rfl, hbq⟩
      have hx := Hx.out.below hbq Hx.out.lt
      clear Hx
      have Hx := Lib.hid hx
      clear hx
      have hy := Hy.out.below hbq Hy.out.lt
      clear Hy
      have Hy := Lib.hid hy
      clear hy
      have hz := Hz.out.below hbq Hz.out.lt
      clear Hz
      have Hz := Lib.hid hz
      clear hz
      have hB := HB.out.trans (hbq.mono HB.out.size)
      clear HB
      have HB := Lib.hid hB
      clear hB
      clear hbq
      go_wp2
      go_ret
      exact ⟨rfl, HB.out⟩
    · clear Hc
      simp only [Array.mk.injEq, List.cons.injEq, Value.int.injEq, Value.string.injEq, true_and, and_true] at p3
      obtain ⟨rfl, rfl, rfl, rfl, rfl, rfl, rfl, rfl⟩ := p3
      clear C4
      have C4 := C3
      have c0 := Hx.out.cell 0
      have c1 := Hx.out.cell 1
      have c2 := Hx.out.cell 2
      have c3 := Hx.out.cell 3
      have c4 := Hx.out.cell 4
      have c5 := Hx.out.cell 5
      have c6 := Hx.out.cell 6
      have c7 := Hx.out.cell 7
      simp at c0 c1 c2 c3 c4 c5 c6 c7
      go_wp2_with fail
      (with_reducible refine (C3.out _).mono ?_)
      rintro e wc44 ⟨rfl, hbq⟩
      have hx := Hx.out.below hbq Hx.out.lt
      clear Hx
      have Hx := Lib.hid hx
      clear hx
      have hy := Hy.out.below hbq Hy.out.lt
      clear Hy
      have Hy := Lib.hid hy
      clear hy
      have hz := Hz.out.below hbq Hz.out.lt
      clear Hz
      have Hz := Lib.hid hz
      clear hz
      have hB := HB.out.trans (hbq.mono HB.out.size)
      clear HB
      have HB := Lib.hid hB
      clear hB
      clear hbq
      clear c0 c1 c2 c3 c4 c5 c6 c7
      have d0 := Hy.out.cell 0
      have d1 := Hy.out.cell 1
      have d2 := Hy.out.cell 2
      have d3 := Hy.out.cell 3
      have d4 := Hy.out.cell 4
      have d5 := Hy.out.cell 5
      have d6 := Hy.out.cell 6
      have d7 := Hy.out.cell 7
      simp at d0 d1 d2 d3 d4 d5 d6 d7
      go_wp2_with fail
      (with_reducible refine (C4.out _).mono ?_)
      rintro e wc45 ⟨rfl, hbq⟩
      have hx := Hx.out.below hbq Hx.out.lt
      clear Hx
      have Hx := Lib.hid hx
      clear hx
      have hy := Hy.out.below hbq Hy.out.lt
      clear Hy
      have Hy := Lib.hid hy
      clear hy
      have hz := Hz.out.below hbq Hz.out.lt
      clear Hz
      have Hz := Lib.hid hz
      clear hz
      have hB := HB.out.trans (hbq.mono HB.out.size)
      clear HB
      have HB := Lib.hid hB
      clear hB
      clear hbq
      clear d0 d1 d2 d3 d4 d5 d6 d7
      have c0 := Hx.out.cell 0
      have c1 := Hx.out.cell 1
      have c2 := Hx.out.cell 2
      have c3 := Hx.out.cell 3
      have c4 := Hx.out.cell 4
      have c5 := Hx.out.cell 5
      have c6 := Hx.out.cell 6
      have c7 := Hx.out.cell 7
      simp at c0 c1 c2 c3 c4 c5 c6 c7
      have d0 := Hy.out.cell 0
      have d1 := Hy.out.cell 1
      have d2 := Hy.out.cell 2
      have d3 := Hy.out.cell 3
      have d4 := Hy.out.cell 4
      have d5 := Hy.out.cell 5
      have d6 := Hy.out.cell 6
      have d7 := Hy.out.cell 7
      simp at d0 d1 d2 d3 d4 d5 d6 d7
      go_wp2_with fail
      (with_reducible refine (alive_tcp _).mono ?_)
      rintro e wc46 ⟨rfl, hbq⟩
      have hx := Hx.out.below hbq Hx.out.lt
      clear Hx
      have Hx := Lib.hid hx
      clear hx
      have hy := Hy.out.below hbq Hy.out.lt
      clear Hy
      have Hy := Lib.hid hy
      clear hy
      have hz := Hz.out.below hbq Hz.out.lt
      clear Hz
      have Hz := Lib.hid hz
      clear hz
      have hB := HB.out.trans (hbq.mono HB.out.size)
      clear HB
      have HB := Lib.hid hB
      clear hB
      clear hbq
      go_wp2
      go_ret
      exact ⟨rfl, HB.out⟩
    · have n1 := run_eq a3_0 a3_1 a3_2 a3_3 a3_4 a3_5 a3_6 a3_7 a4_0 a4_1 a4_2 a4_3 a4_4 a4_5 a4_6 a4_7 p3
      have n2 : (E1.toList == E2.toList) = false := (Lib.bytes_beq_false_iff E1 E2).2 p4
      clear p3 p4 Hc
      have c0 := Hx.out.cell 0
      have c1 := Hx.out.cell 1
      have c2 := Hx.out.cell 2
      have c3 := Hx.out.cell 3
      have c4 := Hx.out.cell 4
      have c5 := Hx.out.cell 5
      have c6 := Hx.out.cell 6
      have c7 := Hx.out.cell 7
      simp at c0 c1 c2 c3 c4 c5 c6 c7
      go_wp2_with fail
      (with_reducible refine (C3.out _).mono ?_)
      rintro e wc47 ⟨rfl, hbq⟩
      have hx := Hx.out.below hbq Hx.out.lt
      clear Hx
      have Hx := Lib.hid hx
      clear hx
      have hy := Hy.out.below hbq Hy.out.lt
      clear Hy
      have Hy := Lib.hid hy
      clear hy
      have hz := Hz.out.below hbq Hz.out.lt
      clear Hz
      have Hz := Lib.hid hz
      clear hz
      have hB := HB.out.trans (hbq.mono HB.out.size)
      clear HB
      have HB := Lib.hid hB
      clear hB
      clear hbq
      clear c0 c1 c2 c3 c4 c5 c6 c7
      have d0 := Hy.out.cell 0
      have d1 := Hy.out.cell 1
      have d2 := Hy.out.cell 2
      have d3 := Hy.out.cell 3
      have d4 := Hy.out.cell 4
      have d5 := Hy.out.cell 5
      have d6 := Hy.out.cell 6
      have d7 := Hy.out.cell 7
      simp at d0 d1 d2 d3 d4 d5 d6 d7
      go_wp2_with fail
      (with_reducible refine (C4.out _).mono ?_)
      rintro e wc48 ⟨rfl, hbq⟩
      have hx := Hx.out.below hbq Hx.out.lt
      clear Hx
      have Hx := Lib.hid hx
      clear hx
      have hy := Hy.out.below hbq Hy.out.lt
      clear Hy
      have Hy := Lib.hid hy
      clear hy
      have hz := Hz.out.below hbq Hz.out.lt
      clear Hz
      have Hz := Lib.hid hz
      clear hz
      have hB := HB.out.trans (hbq.mono HB.out.size)
      clear HB
      have HB := Lib.hid hB
      clear hB
      clear hbq
      clear d0 d1 d2 d3 d4 d5 d6 d7
      have c0 := Hx.out.cell 0
      have c1 := Hx.out.cell 1
      have c2 := Hx.out.cell 2
      have c3 := Hx.out.cell 3
      have c4 := Hx.out.cell 4
      have c5 := Hx.out.cell 5
      have c6 := Hx.out.cell 6
      have c7 := Hx.out.cell 7
      simp at c0 c1 c2 c3 c4 c5 c6 c7
      have d0 := Hy.out.cell 0
      have d1 := Hy.out.cell 1
      have d2 := Hy.out.cell 2
      have d3 := Hy.out.cell 3
      have d4 := Hy.out.cell 4
      have d5 := Hy.out.cell 5
      have d6 := Hy.out.cell 6
      have d7 := Hy.out.cell 7
      simp at d0 d1 d2 d3 d4 d5 d6 d7
      go_wp2_with fail
      (with_reducible refine (alive_tcp _).mono ?_)
      rintro e wc49 ⟨rfl, hbq⟩
      have hx := Hx.out.below hbq Hx.out.lt
      clear Hx
      have Hx := Lib.hid hx
      clear hx
      have hy := Hy.out.below hbq Hy.out.lt
      clear Hy
      have Hy := Lib.hid hy
      clear hy
      have hz := Hz.out.below hbq Hz.out.lt
      clear Hz
      have Hz := Lib.hid hz
      clear hz
      have hB := HB.out.trans (hbq.mono HB.out.size)
      clear HB
      have HB := Lib.hid hB
      clear hB
      clear hbq
      go_wp2
      go_ret
      exact ⟨rfl, HB.out⟩

theorem own : ownKnob Try.prog.godebug = none := by kernel_rfl
theorem laidOut : laidOutB Try.prog = true := by kernel_rfl
set_option maxRecDepth 100000 in
theorem lifted (os : Os) (started : os.Started) (H : Type) (enc : TypeId × Value → H) :
    ReturnsInHanded {} Try.checked os 6 .any (Rows.tcpMovesSpec.pre6 enc Try.prog Try.f6 Rows.tcpMovesRow.domain false) (Rows.tcpMovesSpec.post enc Try.prog Try.f6 false true false false) := by
  refine returnsInHanded_of_change (C := Try.checked) own started (by kernel_rfl) Try.func6
    (ChangeSpec.witness6 (enc := enc) (C := Try.checked) false ⟨#[], #[.int .u32 0, .int .u32 0, .string ByteArray.empty, .agg #[.int .u16 0, .int .u16 0, .int .u32 0, .int .u32 0, .int .u8 0, .int .u16 0, .int .u16 0, .string ByteArray.empty], .agg #[.int .u16 0, .int .u16 0, .int .u32 0, .int .u32 0, .int .u8 0, .int .u16 0, .int .u16 0, .string ByteArray.empty]], []⟩ 8 (by kernel_rfl) (by kernel_rfl) (by kernel_rfl) (by kernel_rfl)) ?_
  intro W base args ds gs before hval0 hW hcnd _
  have hval : ∀ (j : Nat) t v, Try.f6.params[j]? = some t → args[j]? = some v → Value.okWide Try.prog W .any base t v := hval0
  have hW' := hW
  obtain ⟨p, q, hA0, hV, rfl, hfz, hnd⟩ := hW
  have hA : DataW.TrodAll enc Try.prog W 0 (fun _ => true) true Try.f6.params.toList args.toList ds p := hA0
  rw [Try.params6] at hA hval
  obtain ⟨v0, vs0, d0, ds0, p0, q0, hargs, rfl, rfl, h0, r0⟩ := trodAll_cons hA
  obtain ⟨v1, vs1, d1, ds1, p1, q1, rfl, rfl, rfl, h1, r1⟩ := trodAll_cons r0
  obtain ⟨v2, vs2, d2, ds2, p2, q2, rfl, rfl, rfl, h2, r2⟩ := trodAll_cons r1
  obtain ⟨v3, vs3, d3, ds3, p3, q3, rfl, rfl, rfl, h3, r3⟩ := trodAll_cons r2
  obtain ⟨v4, vs4, d4, ds4, p4, q4, rfl, rfl, rfl, h4, r4⟩ := trodAll_cons r3
  obtain ⟨rfl, rfl, rfl⟩ := trodAll_nil r4
  obtain rfl : args = #[v0, v1, v2, v3, v4] := by cases args; simp_all
  obtain ⟨rfl, rfl⟩ := trodVars_none hV
  obtain ⟨a0, rfl, rfl, rfl, w0⟩ := open_int Try.underlying22 (hval 0 22 v0 rfl rfl) h0
  obtain ⟨a1, rfl, rfl, rfl, w1⟩ := open_int Try.underlying22 (hval 1 22 v1 rfl rfl) h1
  obtain ⟨a2, rfl, rfl, rfl, w2⟩ := open_string Try.underlying9 (hval 2 9 v2 rfl rfl) h2
  have k3 := h3
  have lt3 : ∀ x ∈ p3, x.block < W.heap.size := by obtain ⟨m, hm⟩ := k3; exact DataW.trod_lt m _ _ _ hm
  obtain ⟨c3_0, c3_1, c3_2, c3_3, c3_4, c3_5, c3_6, c3_7, y3_0, y3_1, y3_2, y3_3, y3_4, y3_5, y3_6, y3_7, m3, rfl, rfl, rfl, hy3_0, hy3_1, hy3_2, hy3_3, hy3_4, hy3_5, hy3_6, hy3_7⟩ := open_agg8 Try.underlying25 (by kernel_rfl) (by kernel_rfl) (hval 3 25 v3 rfl rfl) h3
  obtain ⟨a3_0, e3_0, rfl, w3_0⟩ := DataW.trod_int Try.underlying23 hy3_0
  simp at e3_0
  subst e3_0
  obtain ⟨a3_1, e3_1, rfl, w3_1⟩ := DataW.trod_int Try.underlying23 hy3_1
  simp at e3_1
  subst e3_1
  obtain ⟨a3_2, e3_2, rfl, w3_2⟩ := DataW.trod_int Try.underlying22 hy3_2
  simp at e3_2
  subst e3_2
  obtain ⟨a3_3, e3_3, rfl, w3_3⟩ := DataW.trod_int Try.underlying22 hy3_3
  simp at e3_3
  subst e3_3
  obtain ⟨a3_4, e3_4, rfl, w3_4⟩ := DataW.trod_int Try.underlying5 hy3_4
  simp at e3_4
  subst e3_4
  obtain ⟨a3_5, e3_5, rfl, w3_5⟩ := DataW.trod_int Try.underlying23 hy3_5
  simp at e3_5
  subst e3_5
  obtain ⟨a3_6, e3_6, rfl, w3_6⟩ := DataW.trod_int Try.underlying23 hy3_6
  simp at e3_6
  subst e3_6
  obtain ⟨a3_7, e3_7, rfl, w3_7⟩ := DataW.trod_string Try.underlying9 hy3_7
  simp at e3_7
  subst e3_7
  have k4 := h4
  have lt4 : ∀ x ∈ p4, x.block < W.heap.size := by obtain ⟨m, hm⟩ := k4; exact DataW.trod_lt m _ _ _ hm
  obtain ⟨c4_0, c4_1, c4_2, c4_3, c4_4, c4_5, c4_6, c4_7, y4_0, y4_1, y4_2, y4_3, y4_4, y4_5, y4_6, y4_7, m4, rfl, rfl, rfl, hy4_0, hy4_1, hy4_2, hy4_3, hy4_4, hy4_5, hy4_6, hy4_7⟩ := open_agg8 Try.underlying25 (by kernel_rfl) (by kernel_rfl) (hval 4 25 v4 rfl rfl) h4
  obtain ⟨a4_0, e4_0, rfl, w4_0⟩ := DataW.trod_int Try.underlying23 hy4_0
  simp at e4_0
  subst e4_0
  obtain ⟨a4_1, e4_1, rfl, w4_1⟩ := DataW.trod_int Try.underlying23 hy4_1
  simp at e4_1
  subst e4_1
  obtain ⟨a4_2, e4_2, rfl, w4_2⟩ := DataW.trod_int Try.underlying22 hy4_2
  simp at e4_2
  subst e4_2
  obtain ⟨a4_3, e4_3, rfl, w4_3⟩ := DataW.trod_int Try.underlying22 hy4_3
  simp at e4_3
  subst e4_3
  obtain ⟨a4_4, e4_4, rfl, w4_4⟩ := DataW.trod_int Try.underlying5 hy4_4
  simp at e4_4
  subst e4_4
  obtain ⟨a4_5, e4_5, rfl, w4_5⟩ := DataW.trod_int Try.underlying23 hy4_5
  simp at e4_5
  subst e4_5
  obtain ⟨a4_6, e4_6, rfl, w4_6⟩ := DataW.trod_int Try.underlying23 hy4_6
  simp at e4_6
  subst e4_6
  obtain ⟨a4_7, e4_7, rfl, w4_7⟩ := DataW.trod_string Try.underlying9 hy4_7
  simp at e4_7
  subst e4_7
  clear hA0 hval0
  refine (walk a0 a1 a2 a3_0 a3_1 a3_2 a3_3 a3_4 a3_5 a3_6 a3_7 a4_0 a4_1 a4_2 a4_3 a4_4 a4_5 a4_6 a4_7 W w0 w1 w2 w3_0 w3_1 w3_2 w3_3 w3_4 w3_5 w3_6 w3_7 w4_0 w4_1 w4_2 w4_3 w4_4 w4_5 w4_6 w4_7).mono fun e W' ⟨he, bel⟩ => ?_
  subst he
  exact ⟨_, rfl, _, _, _, [], _, [], hW', trodAll_mk1 (shut_bool Try.underlying4 _), (trodAll_cons_mk (shut_int Try.underlying22 w0) (trodAll_cons_mk (shut_int Try.underlying22 w1) (trodAll_cons_mk (shut_string Try.underlying9 w2) (trodAll_cons_mk (Below.trod laidOut (by kernel_rfl) (of_decide_eq_true (by kernel_rfl)) k3 bel lt3) (trodAll_cons_mk (Below.trod laidOut (by kernel_rfl) (of_decide_eq_true (by kernel_rfl)) k4 bel lt4) trodAll_mk0))))), rfl, bel.frame _, fun h => by cases h⟩

theorem over : Rows.tcpMovesRow.holds Try.pinned (OpenSpec.ofChange Rows.tcpMovesSpec) :=
  OpenClaim.holds_of_wide 6 Try.f6 rfl rfl rfl rfl rfl rfl rfl ⟨rfl, rfl, rfl, rfl, rfl⟩ rfl rfl rfl rfl rfl (by kernel_rfl) Try.func6 (by kernel_rfl)
    (of_decide_eq_true (by kernel_rfl)) (by unfold Func.isWrapper; first | (rw [if_pos (by decide +kernel)]; kernel_rfl) | (rw [if_neg (by decide +kernel)]; exact ⟨rfl, rfl⟩))
    (fun os started H enc _ => lifted os started H enc)

/-- THE STATEMENT -/
theorem proved : Rows.TcpMovesSaid := over
#print axioms proved
end Go.Proofs.Ytpmcdpbolcmhgaa.tcpMoves
