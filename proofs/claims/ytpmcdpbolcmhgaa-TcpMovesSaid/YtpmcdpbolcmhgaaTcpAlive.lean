/- Layer 6 (tcp): the examples that the document fixes; the contracts as the statements take them. -/
import Derived.Test.YtpmcdpbolcmhgaaTcpRefDecAny
import Derived.Test.YtpmcdpbolcmhgaaTcpDecAny
import Derived.Test.YtpmcdpbolcmhgaaTcpErr
import Derived.Test.YtpmcdpbolcmhgaaTcpEnc
import Derived.Test.YtpmcdpbolcmhgaaTcpRefWork
import Derived.Test.YtpmcdpbolcmhgaaTcpLaws
set_option linter.unusedVariables false
set_option linter.unusedSimpArgs false
namespace Go.Proofs.Ytpmcdpbolcmhgaa
open Go.RowKit

theorem dec_all (s d : Nat) (t : ByteArray) (w : World) (hs : s < 4294967296) (hd : d < 4294967296) (ht : t.size ≤ 131072) : Calls Try.prog 13 #[.int .u32 (s : Int), .int .u32 (d : Int), .string t] w fun e w' => e = .returned (decV s d t.data.toList) ∧ Below w.heap.size w w' := by
  rcases Nat.lt_or_ge t.size 20 with h | h
  · exact dec_short s d t w h
  · rcases Nat.lt_or_ge 65515 t.size with h2 | h2
    · exact dec_long s d t w h2 ht
    · exact dec_any s d t w hs hd h h2
theorem ref_dec_all (s d : Nat) (t : ByteArray) (w : World) (hs : s < 4294967296) (hd : d < 4294967296) (ht : t.size ≤ 131072) : Calls Try.prog 14 #[.int .u32 (s : Int), .int .u32 (d : Int), .string t] w fun e w' => e = .returned (decV s d t.data.toList) ∧ Below w.heap.size w w' := by
  rcases Nat.lt_or_ge t.size 20 with h | h
  · exact ref_dec_short s d t w h
  · rcases Nat.lt_or_ge 65515 t.size with h2 | h2
    · exact ref_dec_long s d t w h2 ht
    · exact ref_dec_any s d t w hs hd h h2
instance (h : TCPh) : Decidable h.may := by unfold TCPh.may; infer_instance
/-- what Encode answers -/
def encS (s d : Nat) (h : TCPh) (data : ByteArray) : ByteArray := if h.may ∧ 20 + h.opts.size + data.size ≤ 65515 then ⟨(encL s d h data.data.toList).toArray⟩ else ⟨#[]⟩
def encE (h : TCPh) (data : ByteArray) : Int := if h.may then if 20 + h.opts.size + data.size ≤ 65515 then 0 else 4 else 2
def encV (s d : Nat) (h : TCPh) (data : ByteArray) : Value := .tuple #[.string (encS s d h data), .int .i64 (encE h data)]
theorem may_of {h : TCPh} {data : ByteArray} (e : encE h data = 0) : h.may ∧ 20 + h.opts.size + data.size ≤ 65515 := by
  unfold encE at e
  by_cases h1 : h.may
  · rw [if_pos h1] at e
    by_cases h2 : 20 + h.opts.size + data.size ≤ 65515
    · exact ⟨h1, h2⟩
    · rw [if_neg h2] at e; cases e
  · rw [if_neg h1] at e; cases e
theorem enc_all (s d : Nat) (h : TCPh) (data : ByteArray) (w : World) (hs : s < 4294967296) (hd : d < 4294967296) (ho : h.ok) (hz : h.opts.size ≤ 131072) (hm : data.size ≤ 131072) :
    Calls Try.prog 11 #[.int .u32 (s : Int), .int .u32 (d : Int), .agg h.cells, .string data] w fun e w' => e = .returned (encV s d h data) ∧ Below w.heap.size w w' := by
  unfold encV encS encE
  by_cases h1 : h.may
  · by_cases h2 : 20 + h.opts.size + data.size ≤ 65515
    · rw [if_pos ⟨h1, h2⟩, if_pos h1, if_pos h2]; exact enc_ok s d h data w hs hd ho h1.1 h1.2.1 h1.2.2 h2
    · rw [if_neg (fun q => h2 q.2), if_pos h1, if_neg h2]; exact enc_long s d h data w h1.1 h1.2.1 h1.2.2 (by omega) hm
  · rw [if_neg (fun q => h1 q.1), if_neg h1]; exact enc_arg s d h data w h1 hz
theorem ref_enc_all (s d : Nat) (h : TCPh) (data : ByteArray) (w : World) (hs : s < 4294967296) (hd : d < 4294967296) (ho : h.ok) (hz : h.opts.size ≤ 131072) (hm : data.size ≤ 131072) :
    Calls Try.prog 12 #[.int .u32 (s : Int), .int .u32 (d : Int), .agg h.cells, .string data] w fun e w' => e = .returned (encV s d h data) ∧ Below w.heap.size w w' := by
  unfold encV encS encE
  by_cases h1 : h.may
  · by_cases h2 : 20 + h.opts.size + data.size ≤ 65515
    · rw [if_pos ⟨h1, h2⟩, if_pos h1, if_pos h2]; exact ref_enc_ok s d h data w hs hd ho h1.1 h1.2.1 h1.2.2 h2
    · rw [if_neg (fun q => h2 q.2), if_pos h1, if_neg h2]; exact ref_enc_long s d h data w h1.1 h1.2.1 h1.2.2 (by omega) hm
  · rw [if_neg (fun q => h1 q.1), if_neg h1]; exact ref_enc_arg s d h data w h1 hz
theorem head_of (b0 b1 b2 b3 b4 b5 b6 : Int) (o : ByteArray) (w0 : (Lit.int .u16 b0).wf = true) (w1 : (Lit.int .u16 b1).wf = true) (w2 : (Lit.int .u32 b2).wf = true) (w3 : (Lit.int .u32 b3).wf = true) (w4 : (Lit.int .u8 b4).wf = true) (w5 : (Lit.int .u16 b5).wf = true) (w6 : (Lit.int .u16 b6).wf = true) :
    ∃ H : TCPh, H.ok ∧ H.opts = o ∧ H.cells = #[.int .u16 b0, .int .u16 b1, .int .u32 b2, .int .u32 b3, .int .u8 b4, .int .u16 b5, .int .u16 b6, .string o] := by
  obtain ⟨l0, g0⟩ := bounds_u16 w0
  obtain ⟨l1, g1⟩ := bounds_u16 w1
  obtain ⟨l2, g2⟩ := bounds_u32 w2
  obtain ⟨l3, g3⟩ := bounds_u32 w3
  obtain ⟨l4, g4⟩ := bounds_u8 w4
  obtain ⟨l5, g5⟩ := bounds_u16 w5
  obtain ⟨l6, g6⟩ := bounds_u16 w6
  refine ⟨⟨b0.toNat, b1.toNat, b2.toNat, b3.toNat, UInt8.ofNat b4.toNat, b5.toNat, b6.toNat, o⟩, ⟨by show b0.toNat < _; omega, by show b1.toNat < _; omega, by show b2.toNat < _; omega, by show b3.toNat < _; omega, by show b5.toNat < _; omega, by show b6.toNat < _; omega⟩, rfl, ?_⟩
  unfold TCPh.cells
  simp only [u8b]
  rw [show ((b0.toNat : Nat) : Int) = b0 by omega, show ((b1.toNat : Nat) : Int) = b1 by omega, show ((b2.toNat : Nat) : Int) = b2 by omega, show ((b3.toNat : Nat) : Int) = b3 by omega, show ((b4.toNat : Nat) : Int) % 256 = b4 by omega, show ((b5.toNat : Nat) : Int) = b5 by omega, show ((b6.toNat : Nat) : Int) = b6 by omega]
theorem decV_form (s d : Nat) (l : List UInt8) : ∃ (H : TCPh) (b : ByteArray) (k : Int), decV s d l = .tuple #[.agg H.cells, .string b, .int .i64 k] := by
  unfold decV
  split
  · exact ⟨_, _, _, rfl⟩
  · exact ⟨⟨0, 0, 0, 0, 0, 0, 0, ⟨#[]⟩⟩, _, _, rfl⟩
def tcpH : TCPh := ⟨1, 2, 3, 0, 2, 4, 0, ⟨#[]⟩⟩
def tcpS : ByteArray := ⟨(encL 167772161 167772162 tcpH []).toArray⟩
theorem tcpS_dec : decV 167772161 167772162 tcpS.data.toList = .tuple #[.agg #[.int .u16 1, .int .u16 2, .int .u32 3, .int .u32 0, .int .u8 2, .int .u16 4, .int .u16 0, .string ⟨#[]⟩], .string ⟨#[]⟩, .int .i64 0] := by kernel_rfl
theorem tcpS_bad : decV 167772161 167772163 tcpS.data.toList = badV 55 := by kernel_rfl
theorem tcpS_enc : encV 167772161 167772162 tcpH ⟨#[]⟩ = .tuple #[.string tcpS, .int .i64 0] := by kernel_rfl
theorem tcp_arg : encV 0 0 ⟨0, 0, 0, 0, 0, 0, 0, ⟨#[120]⟩⟩ ⟨#[]⟩ = .tuple #[.string ⟨#[]⟩, .int .i64 2] := by kernel_rfl
theorem tcpS_size : tcpS.size = 20 := by kernel_rfl
theorem tcpS_13 : ∀ h, (tcpS[13]'h).toNat = 2 := fun _ => by kernel_rfl
theorem dec_v (s d : Nat) (si di : Int) (hsi : (s : Int) = si) (hdi : (d : Int) = di) (t : ByteArray) (V : Value) (hV : decV s d t.data.toList = V) (w : World) (hs : s < 4294967296) (hd : d < 4294967296) (ht : t.size ≤ 131072) : Calls Try.prog 13 #[.int .u32 si, .int .u32 di, .string t] w fun e w' => e = .returned V ∧ Below w.heap.size w w' := by
  subst hV hsi hdi
  exact dec_all s d t w hs hd ht
theorem enc_v (s d : Nat) (si di : Int) (hsi : (s : Int) = si) (hdi : (d : Int) = di) (h : TCPh) (data : ByteArray) (V : Value) (hV : encV s d h data = V) (cs : Array Value) (hc : h.cells = cs) (w : World) (hs : s < 4294967296) (hd : d < 4294967296) (ho : h.ok) (hz : h.opts.size ≤ 131072) (hm : data.size ≤ 131072) :
    Calls Try.prog 11 #[.int .u32 si, .int .u32 di, .agg cs, .string data] w fun e w' => e = .returned V ∧ Below w.heap.size w w' := by
  subst hV hc hsi hdi
  exact enc_all s d h data w hs hd ho hz hm
theorem ref_enc_v (s d : Nat) (si di : Int) (hsi : (s : Int) = si) (hdi : (d : Int) = di) (h : TCPh) (data : ByteArray) (V : Value) (hV : encV s d h data = V) (cs : Array Value) (hc : h.cells = cs) (w : World) (hs : s < 4294967296) (hd : d < 4294967296) (ho : h.ok) (hz : h.opts.size ≤ 131072) (hm : data.size ≤ 131072) :
    Calls Try.prog 12 #[.int .u32 si, .int .u32 di, .agg cs, .string data] w fun e w' => e = .returned V ∧ Below w.heap.size w w' := by
  subst hV hc hsi hdi
  exact ref_enc_all s d h data w hs hd ho hz hm
set_option maxRecDepth 100000 in
set_option maxHeartbeats 4000000 in
theorem alive_tcp (w : World) : Calls Try.prog 10 #[] w fun e w' => e = .returned (.bool true) ∧ Below w.heap.size w w' := by
  have hok : tcpH.ok := ⟨by decide, by decide, by decide, by decide, by decide, by decide⟩
  have a1 := fun w => enc_v 167772161 167772162 167772161 167772162 rfl rfl tcpH ⟨#[]⟩ _ tcpS_enc #[.int .u16 1, .int .u16 2, .int .u32 3, .int .u32 0, .int .u8 2, .int .u16 4, .int .u16 0, .string ⟨#[]⟩] (by kernel_rfl) w (by decide) (by decide) hok (by decide) (by decide)
  have a2 := fun w => enc_v 0 0 0 0 rfl rfl ⟨0, 0, 0, 0, 0, 0, 0, ⟨#[120]⟩⟩ ⟨#[]⟩ _ tcp_arg #[.int .u16 0, .int .u16 0, .int .u32 0, .int .u32 0, .int .u8 0, .int .u16 0, .int .u16 0, .string ⟨#[120]⟩] (by kernel_rfl) w (by decide) (by decide) ⟨by decide, by decide, by decide, by decide, by decide, by decide⟩ (by decide) (by decide)
  have a3 := fun w => ref_enc_v 167772161 167772162 167772161 167772162 rfl rfl tcpH ⟨#[]⟩ _ tcpS_enc #[.int .u16 1, .int .u16 2, .int .u32 3, .int .u32 0, .int .u8 2, .int .u16 4, .int .u16 0, .string ⟨#[]⟩] (by kernel_rfl) w (by decide) (by decide) hok (by decide) (by decide)
  have d1 := fun w => dec_v 167772161 167772162 167772161 167772162 rfl rfl tcpS _ tcpS_dec w (by decide) (by decide) (by rw [tcpS_size]; decide)
  have d2 := fun w => dec_v 167772161 167772163 167772161 167772163 rfl rfl tcpS _ tcpS_bad w (by decide) (by decide) (by rw [tcpS_size]; decide)
  unfold badV zeroC at d2
  have i1 : (tcpS.size : Int) = 20 := by rw [tcpS_size]; rfl
  have j13 : 13 < tcpS.size := by rw [tcpS_size]; decide
  have i13 : ((tcpS[13]'j13).toNat : Int) = 2 := by rw [tcpS_13]; rfl
  generalize tcpS = s at *
  have i2 : (13 : Int) < (s.size : Int) := by omega
  have hb0 : Below w.heap.size w w := Below.refl _ _
  have HB := Lib.hid hb0
  have A1 := Lib.hid a1
  clear a1
  have A2 := Lib.hid a2
  clear a2
  have A3 := Lib.hid a3
  clear a3
  have D1 := Lib.hid d1
  clear d1
  have D2 := Lib.hid d2
  clear d2
  have I1 := Lib.hid i1
  clear i1
  have I13 := Lib.hid i13
  clear i13
  clear hok hb0
  go_enter Try.func10, Try.ntmps10
  go_upto_region 2 with fail
  have hx := Blk.new w 25 #[.int .u16 1, .int .u16 2, .int .u32 3, .int .u32 0, .int .u8 2, .int .u16 4, .int .u16 0, .string ⟨#[]⟩]
  have hB := HB.out.alloc HB.out.size (.cells #[.int .u16 1, .int .u16 2, .int .u32 3, .int .u32 0, .int .u8 2, .int .u16 4, .int .u16 0, .string ⟨#[]⟩] 25)
  clear HB
  obtain ⟨gx, hge⟩ : ∃ g, g = w.heap.size := ⟨_, rfl⟩
  rw [← hge] at hx ⊢
  clear hge
  generalize w.alloc _ = wn1 at *
  have Hx := Lib.hid hx
  clear hx
  have HB := Lib.hid hB
  clear hB
  have c0 := Hx.out.cell 0
  have c1 := Hx.out.cell 1
  have c2 := Hx.out.cell 2
  have c3 := Hx.out.cell 3
  have c4 := Hx.out.cell 4
  have c5 := Hx.out.cell 5
  have c6 := Hx.out.cell 6
  have c7 := Hx.out.cell 7
  simp at c0 c1 c2 c3 c4 c5 c6 c7
  go_wp2_with fail
  (with_reducible refine (A1.out _).mono ?_)
  rintro e wc2 ⟨rfl, hbq⟩
  have hx := Hx.out.below hbq Hx.out.lt
  clear Hx
  have Hx := Lib.hid hx
  clear hx
  have hB := HB.out.trans (hbq.mono HB.out.size)
  clear HB
  have HB := Lib.hid hB
  clear hB
  clear hbq
  clear c0 c1 c2 c3 c4 c5 c6 c7
  go_wp2_with fail
  (with_reducible refine (D1.out _).mono ?_)
  rintro e wc3 ⟨rfl, hbq⟩
  have hx := Hx.out.below hbq Hx.out.lt
  clear Hx
  have Hx := Lib.hid hx
  clear hx
  have hB := HB.out.trans (hbq.mono HB.out.size)
  clear HB
  have HB := Lib.hid hB
  clear hB
  clear hbq
  go_upto_region 4 with fail
  have hy := Blk.new wc3 25 #[.int .u16 1, .int .u16 2, .int .u32 3, .int .u32 0, .int .u8 2, .int .u16 4, .int .u16 0, .string ⟨#[]⟩]
  have hx := Blk.alloc Hx.out (.cells #[.int .u16 1, .int .u16 2, .int .u32 3, .int .u32 0, .int .u8 2, .int .u16 4, .int .u16 0, .string ⟨#[]⟩] 25)
  clear Hx
  have hB := HB.out.alloc HB.out.size (.cells #[.int .u16 1, .int .u16 2, .int .u32 3, .int .u32 0, .int .u8 2, .int .u16 4, .int .u16 0, .string ⟨#[]⟩] 25)
  clear HB
  obtain ⟨gy, hge⟩ : ∃ g, g = wc3.heap.size := ⟨_, rfl⟩
  rw [← hge] at hy ⊢
  clear hge
  generalize wc3.alloc _ = wn4 at *
  have Hx := Lib.hid hx
  clear hx
  have Hy := Lib.hid hy
  clear hy
  have HB := Lib.hid hB
  clear hB
  go_wp2_with fail
  (with_reducible refine (D2.out _).mono ?_)
  rintro e wc5 ⟨rfl, hbq⟩
  have hx := Hx.out.below hbq Hx.out.lt
  clear Hx
  have Hx := Lib.hid hx
  clear hx
  have hy := Hy.out.below hbq Hy.out.lt
  clear Hy
  have Hy := Lib.hid hy
  clear hy
  have hB := HB.out.trans (hbq.mono HB.out.size)
  clear HB
  have HB := Lib.hid hB
  clear hB
  clear hbq
  go_upto_region 5 with fail
  have hz := Blk.new wc5 25 #[.int .u16 0, .int .u16 0, .int .u32 0, .int .u32 0, .int .u8 0, .int .u16 0, .int .u16 0, .string ⟨#[]⟩]
  have hx := Blk.alloc Hx.out (.cells #[.int .u16 0, .int .u16 0, .int .u32 0, .int .u32 0, .int .u8 0, .int .u16 0, .int .u16 0, .string ⟨#[]⟩] 25)
  clear Hx
  have hy := Blk.alloc Hy.out (.cells #[.int .u16 0, .int .u16 0, .int .u32 0, .int .u32 0, .int .u8 0, .int .u16 0, .int .u16 0, .string ⟨#[]⟩] 25)
  clear Hy
  have hB := HB.out.alloc HB.out.size (.cells #[.int .u16 0, .int .u16 0, .int .u32 0, .int .u32 0, .int .u8 0, .int .u16 0, .int .u16 0, .string ⟨#[]⟩] 25)
  clear HB
  obtain ⟨gz, hge⟩ : ∃ g, g = wc5.heap.size := ⟨_, rfl⟩
  rw [← hge] at hz ⊢
  clear hge
  generalize wc5.alloc _ = wn6 at *
  have Hx := Lib.hid hx
  clear hx
  have Hy := Lib.hid hy
  clear hy
  have Hz := Lib.hid hz
  clear hz
  have HB := Lib.hid hB
  clear hB
  go_wp2_with fail
  (with_reducible refine (A2.out _).mono ?_)
  rintro e wc7 ⟨rfl, hbq⟩
  have hx := Hx.out.below hbq Hx.out.lt
  clear Hx
  have Hx := Lib.hid hx
  clear hx
  have hy := Hy.out.below hbq Hy.out.lt
  clear Hy
  have Hy := Lib.hid hy
  clear hy
  have hz := Hz.out.below hbq Hz.out.lt
  clear Hz
  have Hz := Lib.hid hz
  clear hz
  have hB := HB.out.trans (hbq.mono HB.out.size)
  clear HB
  have HB := Lib.hid hB
  clear hB
  clear hbq
  have c0 := Hx.out.cell 0
  have c1 := Hx.out.cell 1
  have c2 := Hx.out.cell 2
  have c3 := Hx.out.cell 3
  have c4 := Hx.out.cell 4
  have c5 := Hx.out.cell 5
  have c6 := Hx.out.cell 6
  have c7 := Hx.out.cell 7
  simp at c0 c1 c2 c3 c4 c5 c6 c7
  go_wp2_with fail
  (with_reducible refine (A3.out _).mono ?_)
  rintro e wc8 ⟨rfl, hbq⟩
  have hx := Hx.out.below hbq Hx.out.lt
  clear Hx
  have Hx := Lib.hid hx
  clear hx
  have hy := Hy.out.below hbq Hy.out.lt
  clear Hy
  have Hy := Lib.hid hy
  clear hy
  have hz := Hz.out.below hbq Hz.out.lt
  clear Hz
  have Hz := Lib.hid hz
  clear hz
  have hB := HB.out.trans (hbq.mono HB.out.size)
  clear HB
  have HB := Lib.hid hB
  clear hB
  clear hbq
  clear c0 c1 c2 c3 c4 c5 c6 c7
  have c0 := Hx.out.cell 0
  have c1 := Hx.out.cell 1
  have c2 := Hx.out.cell 2
  have c3 := Hx.out.cell 3
  have c4 := Hx.out.cell 4
  have c5 := Hx.out.cell 5
  have c6 := Hx.out.cell 6
  have c7 := Hx.out.cell 7
  simp at c0 c1 c2 c3 c4 c5 c6 c7
  have d0 := Hy.out.cell 0
  have d1 := Hy.out.cell 1
  have d2 := Hy.out.cell 2
  have d3 := Hy.out.cell 3
  have d4 := Hy.out.cell 4
  have d5 := Hy.out.cell 5
  have d6 := Hy.out.cell 6
  have d7 := Hy.out.cell 7
  simp at d0 d1 d2 d3 d4 d5 d6 d7
  have i1 := I1.out
  have i13 := I13.out
  go_wp2
  go_ret
  exact ⟨rfl, HB.out⟩
end Go.Proofs.Ytpmcdpbolcmhgaa
