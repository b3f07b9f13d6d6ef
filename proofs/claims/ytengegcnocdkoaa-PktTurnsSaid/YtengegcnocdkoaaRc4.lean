/- Contracts and plain lemmas: PTcpDecPlain, PTcpDec, PTcpRefDecAny, PTcpDecAny. -/
import Derived.Test.YtengegcnocdkoaaRc3
set_option linter.unusedVariables false
set_option linter.unusedSimpArgs false
set_option linter.unusedSectionVars false
section
namespace Go.Proofs.Ytengegcnocdkoaa.T
open Go.RowKit
def at0 (l : List UInt8) (i : Nat) : Nat := (l.getD i 0).toNat
/-- what is wrong with bytes (0: nothing) -/
def decE (s d : Nat) (l : List UInt8) : Nat :=
  if l.length < 20 then 50 else if 65515 < l.length then 4 else if ofL (aheadL s d l.length ++ l) ≠ 0 then 55
  else if at0 l 12 / 16 * 4 < 20 ∨ l.length < at0 l 12 / 16 * 4 then 60 else if at0 l 12 % 16 ≠ 0 ∨ 64 ≤ at0 l 13 then 61 else 0
def endN (l : List UInt8) : Nat := at0 l 12 / 16 * 4
def sub (l : List UInt8) (i j : Nat) : List UInt8 := (l.drop i).take (j - i)
def decH (l : List UInt8) : TCPh := ⟨numL (sub l 0 2) % 65536, numL (sub l 2 4) % 65536, numL (sub l 4 8), numL (sub l 8 12), l.getD 13 0, numL (sub l 14 16) % 65536, numL (sub l 18 20) % 65536, ⟨(sub l 20 (endN l)).toArray⟩⟩
def zeroC : Array Value := #[.int .u16 0, .int .u16 0, .int .u32 0, .int .u32 0, .int .u8 0, .int .u16 0, .int .u16 0, .string ⟨#[]⟩]
def badV (e : Nat) : Value := .tuple #[.agg zeroC, .string ⟨#[]⟩, .int .i64 (e : Int)]
def decV (s d : Nat) (l : List UInt8) : Value := if decE s d l = 0 then .tuple #[.agg (decH l).cells, .string ⟨(l.drop (endN l)).toArray⟩, .int .i64 0] else badV (decE s d l)
theorem decV_bad {s d : Nat} {l : List UInt8} {e : Nat} (h : decE s d l = e) (h0 : e ≠ 0) : decV s d l = badV e := by
  unfold decV
  rw [h, if_neg h0]
theorem decV_ok {s d : Nat} {l : List UInt8} (h : decE s d l = 0) : decV s d l = .tuple #[.agg (decH l).cells, .string ⟨(l.drop (endN l)).toArray⟩, .int .i64 0] := by
  unfold decV
  rw [if_pos h]
theorem at0_get (s : ByteArray) (i : Nat) (h : i < s.size) : at0 s.data.toList i = (s[i]'h).toNat := by
  unfold at0
  have hl : i < s.data.toList.length := h
  simp only [List.getD, List.getElem?_eq_getElem hl, Option.getD_some]
  rfl
theorem getD_get (s : ByteArray) (i : Nat) (h : i < s.size) : s.data.toList.getD i 0 = s[i]'h := by
  have hl : i < s.data.toList.length := h
  simp only [List.getD, List.getElem?_eq_getElem hl, Option.getD_some]
  rfl
theorem str_sub (s : ByteArray) (i j : Nat) : (s.extract i j).data.toList = sub s.data.toList i j := by
  unfold sub
  rw [ByteArray.data_extract, Array.toList_extract, List.extract_eq_take_drop]
theorem str_sub' (s : ByteArray) (i j : Nat) : (⟨(sub s.data.toList i j).toArray⟩ : ByteArray) = s.extract i j := by
  rw [← str_sub]
theorem str_drop (s : ByteArray) (i : Nat) : (⟨(s.data.toList.drop i).toArray⟩ : ByteArray) = s.extract i s.size := by
  apply ByteArray.ext
  apply Array.toList_inj.1
  rw [ByteArray.data_extract, Array.toList_extract, List.extract_eq_take_drop]
  exact (List.take_of_length_le (by simp)).symm
theorem num_ext (s : ByteArray) (i j : Nat) : numL (s.extract i j).data.toList = numL (sub s.data.toList i j) := by rw [str_sub]
theorem decV_done (s d : Nat) (t : ByteArray) (h20 : 20 ≤ t.size) (h : decE s d t.data.toList = 0) {u1 u2 u3 u4 u5 u6 n : Nat} (h1 : u1 = numL (t.extract 0 2).data.toList % 65536) (h2 : u2 = numL (t.extract 2 4).data.toList % 65536) (h3 : u3 = numL (t.extract 4 8).data.toList)
    (h4 : u4 = numL (t.extract 8 12).data.toList) (h5 : u5 = numL (t.extract 14 16).data.toList % 65536) (h6 : u6 = numL (t.extract 18 20).data.toList % 65536) (hn : n = (t[12]'(by omega)).toNat / 16 * 4) :
    decV s d t.data.toList = .tuple #[.agg #[.int .u16 (u1 : Int), .int .u16 (u2 : Int), .int .u32 (u3 : Int), .int .u32 (u4 : Int), .int .u8 ((t[13]'(by omega)).toNat : Int), .int .u16 (u5 : Int), .int .u16 (u6 : Int), .string (t.extract 20 n)], .string (t.extract n t.size), .int .i64 0] := by
  rw [decV_ok h]
  have e : endN t.data.toList = n := by
    unfold endN
    rw [at0_get t 12 (by omega), hn]
  unfold decH TCPh.cells
  simp only [getD_get t 13 (by omega)]
  rw [e, str_drop, str_sub', h1, h2, h3, h4, h5, h6, num_ext, num_ext, num_ext, num_ext, num_ext, num_ext]
theorem below_set8 {B x : Nat} {w W : World} (h : Below B w W) (hx : B ≤ x) (v0 v1 v2 v3 v4 v5 v6 v7 : Value) :
    Below B w ((((((((W.setCell ⟨x, 0, none⟩ v0).setCell ⟨x, 1, none⟩ v1).setCell ⟨x, 2, none⟩ v2).setCell ⟨x, 3, none⟩ v3).setCell ⟨x, 4, none⟩ v4).setCell ⟨x, 5, none⟩ v5).setCell ⟨x, 6, none⟩ v6).setCell ⟨x, 7, none⟩ v7) :=
  ((((((((h.setCell hx v0).setCell hx v1).setCell hx v2).setCell hx v3).setCell hx v4).setCell hx v5).setCell hx v6).setCell hx v7)
theorem blk_set8 {W : World} {x : Nat} {T : TypeId} {a0 a1 a2 a3 a4 a5 a6 a7 : Value} (h : Blk W x T #[a0, a1, a2, a3, a4, a5, a6, a7]) (v0 v1 v2 v3 v4 v5 v6 v7 : Value) :
    Blk ((((((((W.setCell ⟨x, 0, none⟩ v0).setCell ⟨x, 1, none⟩ v1).setCell ⟨x, 2, none⟩ v2).setCell ⟨x, 3, none⟩ v3).setCell ⟨x, 4, none⟩ v4).setCell ⟨x, 5, none⟩ v5).setCell ⟨x, 6, none⟩ v6).setCell ⟨x, 7, none⟩ v7) x T #[v0, v1, v2, v3, v4, v5, v6, v7] := by
  have := ((((((((h.set_ 0 v0).set_ 1 v1).set_ 2 v2).set_ 3 v3).set_ 4 v4).set_ 5 v5).set_ 6 v6).set_ 7 v7)
  simpa using this
end Go.Proofs.Ytengegcnocdkoaa.T
end
section
namespace Go.Proofs.Ytengegcnocdkoaa.T
open Go.RowKit Go.BigFrame
set_option maxHeartbeats 1000000 in
theorem dec_short (s d : Nat) (t : ByteArray) (w : World) (h20 : t.size < 20) :
    Calls Try.prog 41 #[.int .u32 (s : Int), .int .u32 (d : Int), .string t] w fun e w' => e = .returned (decV s d t.data.toList) ∧ Below w.heap.size w w' := by
  have hE : decE s d t.data.toList = 50 := by
    unfold decE
    rw [if_pos (show t.data.toList.length < 20 from h20)]
  have hV := decV_bad hE (by decide)
  have HV := Lib.hid hV
  clear hV hE
  have i1 : (t.size : Int) < 20 := by omega
  go_enter Try.func41, Try.ntmps41
  go_wp2
  rw [HV.out]
  exact bodyPost_ret (v := badV 50) (by simp [results, Try.results41, go_sem, badV, zeroC]) rfl ⟨rfl, by first | exact ((Below.refl _ _).alloc (Nat.le_refl _) _) | exact Below.alloc (Below.refl _ _) (by simp) _⟩
set_option maxHeartbeats 1000000 in
theorem dec_long (s d : Nat) (t : ByteArray) (w : World) (h : 65515 < t.size) (hs : t.size ≤ 131072) :
    Calls Try.prog 41 #[.int .u32 (s : Int), .int .u32 (d : Int), .string t] w fun e w' => e = .returned (decV s d t.data.toList) ∧ Below w.heap.size w w' := by
  have hE : decE s d t.data.toList = 4 := by
    have hl : t.data.toList.length = t.size := rfl
    unfold decE
    rw [if_neg (by omega), if_pos (by omega)]
  have hV := decV_bad hE (by decide)
  have HV := Lib.hid hV
  clear hV hE
  have i1 : (65515 : Int) < (t.size : Int) := by omega
  have i2 : (t.size : Int) ≤ 131072 := by omega
  go_enter Try.func41, Try.ntmps41
  go_wp2
  rw [HV.out]
  exact bodyPost_ret (v := badV 4) (by simp [results, Try.results41, go_sem, badV, zeroC]) rfl ⟨rfl, by first | exact ((Below.refl _ _).alloc (Nat.le_refl _) _) | exact Below.alloc (Below.refl _ _) (by simp) _⟩
set_option maxHeartbeats 1000000 in
theorem ref_dec_short (s d : Nat) (t : ByteArray) (w : World) (h20 : t.size < 20) :
    Calls Try.prog 79 #[.int .u32 (s : Int), .int .u32 (d : Int), .string t] w fun e w' => e = .returned (decV s d t.data.toList) ∧ Below w.heap.size w w' := by
  have hE : decE s d t.data.toList = 50 := by
    unfold decE
    rw [if_pos (show t.data.toList.length < 20 from h20)]
  have hV := decV_bad hE (by decide)
  have HV := Lib.hid hV
  clear hV hE
  have i1 : (t.size : Int) < 20 := by omega
  go_enter Try.func79, Try.ntmps79
  go_wp2
  rw [HV.out]
  exact bodyPost_ret (v := badV 50) (by simp [results, Try.results79, go_sem, badV, zeroC]) rfl ⟨rfl, by first | exact ((Below.refl _ _).alloc (Nat.le_refl _) _) | exact Below.alloc (Below.refl _ _) (by simp) _⟩
set_option maxHeartbeats 1000000 in
theorem ref_dec_long (s d : Nat) (t : ByteArray) (w : World) (h : 65515 < t.size) (hs : t.size ≤ 131072) :
    Calls Try.prog 79 #[.int .u32 (s : Int), .int .u32 (d : Int), .string t] w fun e w' => e = .returned (decV s d t.data.toList) ∧ Below w.heap.size w w' := by
  have hE : decE s d t.data.toList = 4 := by
    have hl : t.data.toList.length = t.size := rfl
    unfold decE
    rw [if_neg (by omega), if_pos (by omega)]
  have hV := decV_bad hE (by decide)
  have HV := Lib.hid hV
  clear hV hE
  have i1 : (65515 : Int) < (t.size : Int) := by omega
  have i2 : (t.size : Int) ≤ 131072 := by omega
  go_enter Try.func79, Try.ntmps79
  go_wp2
  rw [HV.out]
  exact bodyPost_ret (v := badV 4) (by simp [results, Try.results79, go_sem, badV, zeroC]) rfl ⟨rfl, by first | exact ((Below.refl _ _).alloc (Nat.le_refl _) _) | exact Below.alloc (Below.refl _ _) (by simp) _⟩
end Go.Proofs.Ytengegcnocdkoaa.T
end
section
namespace Go.Proofs.Ytengegcnocdkoaa.T
open Go.RowKit Go.BigFrame
set_option maxRecDepth 100000 in
set_option maxHeartbeats 4000000 in
theorem ref_dec_any (s d : Nat) (t : ByteArray) (w : World) (hs : s < 4294967296) (hd : d < 4294967296) (h20 : 20 ≤ t.size) (hl : t.size ≤ 65515) :
    Calls Try.prog 79 #[.int .u32 (s : Int), .int .u32 (d : Int), .string t] w fun e w' => e = .returned (decV s d t.data.toList) ∧ Below w.heap.size w w' := by
  obtain ⟨m, hm⟩ : ∃ m, m = t.size := ⟨_, rfl⟩
  have e1 : (t.size : Int) = (m : Int) := by omega
  have hm1 : 20 ≤ m := by omega
  have hm2 : m ≤ 65515 := by omega
  obtain ⟨v, hv⟩ : ∃ v, v = ofL (aheadL s d t.size ++ t.data.toList) := ⟨_, rfl⟩
  have b7 := fun W => ref_sum s d t W hs hd (by omega)
  rw [← hv] at b7
  have hbx := Blk.new w 60 zeroC
  have hb0 : Below w.heap.size w (w.alloc (.cells zeroC 60)) := (Below.refl _ _).alloc (Nat.le_refl _) _
  unfold zeroC at hbx hb0
  have j12 : 12 < t.size := by omega
  have j13 : 13 < t.size := by omega
  have l12 := (t[12]'j12).toNat_lt
  have l13 := (t[13]'j13).toNat_lt
  have k12 : ((t[12]'j12).toNat : Int) < 256 := by omega
  have k13 : ((t[13]'j13).toNat : Int) < 256 := by omega
  have i12 : (12 : Int) < (m : Int) := by omega
  have i13 : (13 : Int) < (m : Int) := by omega
  have B7 := Lib.hid b7
  clear b7
  have Hv := Lib.hid hv
  clear hv
  have Hm := Lib.hid hm
  clear hm
  have Hbx := Lib.hid hbx
  clear hbx
  have Hb0 := Lib.hid hb0
  clear hb0
  go_enter Try.func79, Try.ntmps79
  go_wp2_with fail
  generalize hW : w.alloc _ = W at *
  obtain ⟨x, hx⟩ : ∃ x, x = w.heap.size := ⟨_, rfl⟩
  rw [← hx] at Hbx ⊢
  have hxw : w.heap.size ≤ x := by omega
  have Hxw := Lib.hid hxw
  clear hxw
  clear hW hx
  with_reducible refine (B7.out _).mono ?_
  rintro e w2 ⟨rfl, hb2⟩
  have hx2 := Hbx.out.below hb2 Hbx.out.lt
  have hbw : Below w.heap.size w w2 := Hb0.out.trans (hb2.mono Hb0.out.size)
  clear hb2 Hb0 Hbx B7
  have x0 := hx2.cell 0
  have x1 := hx2.cell 1
  have x2 := hx2.cell 2
  have x3 := hx2.cell 3
  have x4 := hx2.cell 4
  have x5 := hx2.cell 5
  have x6 := hx2.cell 6
  have x7 := hx2.cell 7
  simp at x0 x1 x2 x3 x4 x5 x6 x7
  have xf := hx2.frozen
  have Hx2 := Lib.hid hx2
  clear hx2
  have Hbw := Lib.hid hbw
  clear hbw
  have hlen : t.data.toList.length = t.size := rfl
  by_cases hv0 : v ≠ 0
  · have hE : decE s d t.data.toList = 55 := by
      have h55 : ofL (aheadL s d t.data.toList.length ++ t.data.toList) ≠ 0 := by
        rw [hlen, ← Hv.out]
        exact hv0
      unfold decE
      rw [if_neg (by omega), if_neg (by omega), if_pos h55]
    have hV := decV_bad hE (by decide)
    have qv : ((v : Int) != 0) = true := by rw [bne_iff_ne]; omega
    have HV := Lib.hid hV
    clear hV
    have Hv0 := Lib.hid hv0
    clear hv0
    clear hE hlen
    go_wp2
    rw [HV.out]
    clear x0 x1 x2 x3 x4 x5 x6 x7 xf
    generalize hWf : World.setCell _ _ _ = Wf
    have hf : Blk Wf x 60 zeroC := by
      rw [← hWf]
      exact blk_set8 Hx2.out _ _ _ _ _ _ _ _
    have hbf : Below w.heap.size w Wf := by
      rw [← hWf]
      exact below_set8 Hbw.out Hxw.out _ _ _ _ _ _ _ _
    clear hWf
    have x0 := hf.cell 0
    have x1 := hf.cell 1
    have x2 := hf.cell 2
    have x3 := hf.cell 3
    have x4 := hf.cell 4
    have x5 := hf.cell 5
    have x6 := hf.cell 6
    have x7 := hf.cell 7
    simp [zeroC] at x0 x1 x2 x3 x4 x5 x6 x7
    exact bodyPost_ret (v := badV 55) (by simp [results, Try.results79, go_sem, badV, zeroC, x0, x1, x2, x3, x4, x5, x6, x7]) rfl ⟨rfl, hbf⟩
  have hv1 : v = 0 := by omega
  have qv : ((v : Int) != 0) = false := by rw [bne_eq_false_iff_eq]; omega
  have h0 : ofL (aheadL s d t.data.toList.length ++ t.data.toList) = 0 := by
    rw [hlen, ← Hv.out]
    exact hv1
  clear hv0 hv1
  have hE : decE s d t.data.toList = if (t[12]'j12).toNat / 16 * 4 < 20 ∨ m < (t[12]'j12).toNat / 16 * 4 then 60 else if (t[12]'j12).toNat % 16 ≠ 0 ∨ 64 ≤ (t[13]'j13).toNat then 61 else 0 := by
    unfold decE
    rw [if_neg (by omega), if_neg (by omega), if_neg (by rw [h0]; simp), at0_get t 12 j12, at0_get t 13 j13, hlen, ← Hm.out]
  clear h0 hlen
  obtain ⟨c, hc⟩ : ∃ c, c = (t[12]'j12).toNat := ⟨_, rfl⟩
  obtain ⟨c3, hc3⟩ : ∃ c, c = (t[13]'j13).toNat := ⟨_, rfl⟩
  rw [← hc] at hE l12
  rw [← hc3] at hE l13
  by_cases ho : c / 16 * 4 < 20 ∨ m < c / 16 * 4
  · rw [if_pos ho] at hE
    have hV := decV_bad hE (by decide)
    have HV := Lib.hid hV
    clear hV
    clear hE
    by_cases ho1 : c / 16 * 4 < 20
    · have i5 : ((t[12]'j12).toNat : Int) / 16 * 4 < 20 := by omega
      have Ho := Lib.hid ho
      clear ho
      have Hc := Lib.hid hc
      clear hc
      have Hc3 := Lib.hid hc3
      clear hc3
      go_wp2
      rw [HV.out]
      clear x0 x1 x2 x3 x4 x5 x6 x7 xf
      generalize hWf : World.setCell _ _ _ = Wf
      have hf : Blk Wf x 60 zeroC := by
        rw [← hWf]
        exact blk_set8 Hx2.out _ _ _ _ _ _ _ _
      have hbf : Below w.heap.size w Wf := by
        rw [← hWf]
        exact below_set8 Hbw.out Hxw.out _ _ _ _ _ _ _ _
      clear hWf
      have x0 := hf.cell 0
      have x1 := hf.cell 1
      have x2 := hf.cell 2
      have x3 := hf.cell 3
      have x4 := hf.cell 4
      have x5 := hf.cell 5
      have x6 := hf.cell 6
      have x7 := hf.cell 7
      simp [zeroC] at x0 x1 x2 x3 x4 x5 x6 x7
      exact bodyPost_ret (v := badV 60) (by simp [results, Try.results79, go_sem, badV, zeroC, x0, x1, x2, x3, x4, x5, x6, x7]) rfl ⟨rfl, hbf⟩
    · have i5 : (20 : Int) ≤ ((t[12]'j12).toNat : Int) / 16 * 4 := by omega
      have i6 : (m : Int) < ((t[12]'j12).toNat : Int) / 16 * 4 := by omega
      have Ho := Lib.hid ho
      clear ho
      have Hc := Lib.hid hc
      clear hc
      have Hc3 := Lib.hid hc3
      clear hc3
      go_wp2
      rw [HV.out]
      clear x0 x1 x2 x3 x4 x5 x6 x7 xf
      generalize hWf : World.setCell _ _ _ = Wf
      have hf : Blk Wf x 60 zeroC := by
        rw [← hWf]
        exact blk_set8 Hx2.out _ _ _ _ _ _ _ _
      have hbf : Below w.heap.size w Wf := by
        rw [← hWf]
        exact below_set8 Hbw.out Hxw.out _ _ _ _ _ _ _ _
      clear hWf
      have x0 := hf.cell 0
      have x1 := hf.cell 1
      have x2 := hf.cell 2
      have x3 := hf.cell 3
      have x4 := hf.cell 4
      have x5 := hf.cell 5
      have x6 := hf.cell 6
      have x7 := hf.cell 7
      simp [zeroC] at x0 x1 x2 x3 x4 x5 x6 x7
      exact bodyPost_ret (v := badV 60) (by simp [results, Try.results79, go_sem, badV, zeroC, x0, x1, x2, x3, x4, x5, x6, x7]) rfl ⟨rfl, hbf⟩
  · rw [if_neg ho] at hE
    have i5 : (20 : Int) ≤ ((t[12]'j12).toNat : Int) / 16 * 4 := by omega
    have i6 : ((t[12]'j12).toNat : Int) / 16 * 4 ≤ (m : Int) := by omega
    by_cases hr1 : c % 16 ≠ 0
    · have hV := decV_bad (hE.trans (if_pos (.inl hr1))) (by decide)
      have HV := Lib.hid hV
      clear hV
      clear hE
      have q1 : (((t[12]'j12).toNat : Int) % 16 != 0) = true := by rw [bne_iff_ne]; omega
      have Ho := Lib.hid ho
      clear ho
      have Hc := Lib.hid hc
      clear hc
      have Hc3 := Lib.hid hc3
      clear hc3
      have Hr1 := Lib.hid hr1
      clear hr1
      go_wp2
      rw [HV.out]
      clear x0 x1 x2 x3 x4 x5 x6 x7 xf
      generalize hWf : World.setCell _ _ _ = Wf
      have hf : Blk Wf x 60 zeroC := by
        rw [← hWf]
        exact blk_set8 Hx2.out _ _ _ _ _ _ _ _
      have hbf : Below w.heap.size w Wf := by
        rw [← hWf]
        exact below_set8 Hbw.out Hxw.out _ _ _ _ _ _ _ _
      clear hWf
      have x0 := hf.cell 0
      have x1 := hf.cell 1
      have x2 := hf.cell 2
      have x3 := hf.cell 3
      have x4 := hf.cell 4
      have x5 := hf.cell 5
      have x6 := hf.cell 6
      have x7 := hf.cell 7
      simp [zeroC] at x0 x1 x2 x3 x4 x5 x6 x7
      exact bodyPost_ret (v := badV 61) (by simp [results, Try.results79, go_sem, badV, zeroC, x0, x1, x2, x3, x4, x5, x6, x7]) rfl ⟨rfl, hbf⟩
    have q1 : (((t[12]'j12).toNat : Int) % 16 != 0) = false := by rw [bne_eq_false_iff_eq]; omega
    by_cases hr2 : 64 ≤ c3
    · have hV := decV_bad (hE.trans (if_pos (.inr hr2))) (by decide)
      have HV := Lib.hid hV
      clear hV
      clear hE
      have q2 : (64 : Int) ≤ ((t[13]'j13).toNat : Int) := by omega
      have Ho := Lib.hid ho
      clear ho
      have Hc := Lib.hid hc
      clear hc
      have Hc3 := Lib.hid hc3
      clear hc3
      have Hr1 := Lib.hid hr1
      clear hr1
      have Hr2 := Lib.hid hr2
      clear hr2
      go_wp2
      rw [HV.out]
      clear x0 x1 x2 x3 x4 x5 x6 x7 xf
      generalize hWf : World.setCell _ _ _ = Wf
      have hf : Blk Wf x 60 zeroC := by
        rw [← hWf]
        exact blk_set8 Hx2.out _ _ _ _ _ _ _ _
      have hbf : Below w.heap.size w Wf := by
        rw [← hWf]
        exact below_set8 Hbw.out Hxw.out _ _ _ _ _ _ _ _
      clear hWf
      have x0 := hf.cell 0
      have x1 := hf.cell 1
      have x2 := hf.cell 2
      have x3 := hf.cell 3
      have x4 := hf.cell 4
      have x5 := hf.cell 5
      have x6 := hf.cell 6
      have x7 := hf.cell 7
      simp [zeroC] at x0 x1 x2 x3 x4 x5 x6 x7
      exact bodyPost_ret (v := badV 61) (by simp [results, Try.results79, go_sem, badV, zeroC, x0, x1, x2, x3, x4, x5, x6, x7]) rfl ⟨rfl, hbf⟩
    have q2 : ((t[13]'j13).toNat : Int) < 64 := by omega
    have h0E := hE.trans (if_neg (by rintro (h | h); exact hr1 h; exact hr2 (by omega)))
    obtain ⟨n, hn⟩ : ∃ n : Nat, n = (t[12]'j12).toNat / 16 * 4 := ⟨_, rfl⟩
    have hnI : ((t[12]'j12).toNat : Int) / 16 * 4 = (n : Int) := by omega
    have i7 : (20 : Int) ≤ (n : Int) := by omega
    have i8 : (n : Int) ≤ (m : Int) := by omega
    have m1 := fun W => ref_num (t.extract 0 2) W (by simp [maxLen]; omega)
    have m2 := fun W => ref_num (t.extract 2 4) W (by simp [maxLen]; omega)
    have m3 := fun W => ref_num (t.extract 4 8) W (by simp [maxLen]; omega)
    have m4 := fun W => ref_num (t.extract 8 12) W (by simp [maxLen]; omega)
    have m5 := fun W => ref_num (t.extract 14 16) W (by simp [maxLen]; omega)
    have m6 := fun W => ref_num (t.extract 18 20) W (by simp [maxLen]; omega)
    obtain ⟨k1, hk1⟩ : ∃ u, u = numL (t.extract 0 2).data.toList := ⟨_, rfl⟩
    rw [← hk1] at m1
    obtain ⟨u1, hu1⟩ : ∃ u, u = k1 % 65536 := ⟨_, rfl⟩
    have tu1 : IntKind.u16.wrap (k1 : Int) = (u1 : Int) := by rw [IntKind.wrap_u16, hu1]; rfl
    have tv1 : (k1 : Int) % 65536 = (u1 : Int) := by rw [hu1]; rfl
    rw [hk1] at hu1
    obtain ⟨k2, hk2⟩ : ∃ u, u = numL (t.extract 2 4).data.toList := ⟨_, rfl⟩
    rw [← hk2] at m2
    obtain ⟨u2, hu2⟩ : ∃ u, u = k2 % 65536 := ⟨_, rfl⟩
    have tu2 : IntKind.u16.wrap (k2 : Int) = (u2 : Int) := by rw [IntKind.wrap_u16, hu2]; rfl
    have tv2 : (k2 : Int) % 65536 = (u2 : Int) := by rw [hu2]; rfl
    rw [hk2] at hu2
    obtain ⟨k3, hk3⟩ : ∃ u, u = numL (t.extract 4 8).data.toList := ⟨_, rfl⟩
    rw [← hk3] at m3
    obtain ⟨k4, hk4⟩ : ∃ u, u = numL (t.extract 8 12).data.toList := ⟨_, rfl⟩
    rw [← hk4] at m4
    obtain ⟨k5, hk5⟩ : ∃ u, u = numL (t.extract 14 16).data.toList := ⟨_, rfl⟩
    rw [← hk5] at m5
    obtain ⟨u5, hu5⟩ : ∃ u, u = k5 % 65536 := ⟨_, rfl⟩
    have tu5 : IntKind.u16.wrap (k5 : Int) = (u5 : Int) := by rw [IntKind.wrap_u16, hu5]; rfl
    have tv5 : (k5 : Int) % 65536 = (u5 : Int) := by rw [hu5]; rfl
    rw [hk5] at hu5
    obtain ⟨k6, hk6⟩ : ∃ u, u = numL (t.extract 18 20).data.toList := ⟨_, rfl⟩
    rw [← hk6] at m6
    obtain ⟨u6, hu6⟩ : ∃ u, u = k6 % 65536 := ⟨_, rfl⟩
    have tu6 : IntKind.u16.wrap (k6 : Int) = (u6 : Int) := by rw [IntKind.wrap_u16, hu6]; rfl
    have tv6 : (k6 : Int) % 65536 = (u6 : Int) := by rw [hu6]; rfl
    rw [hk6] at hu6
    have cf : ∀ (vals : Array Value) (w : World), (callFunc 54 vals).run Try.prog w = .ok (.enter 54 vals) w := fun _ _ => by kernel_rfl
    have al : ∀ W : World, (Instr.alloc 60 true (.tuple #[])).run Try.prog W = .ok (.pointer (some ⟨W.heap.size, 0, none⟩)) (W.alloc (.cells zeroC 60)) := fun _ => by kernel_rfl
    have t2 : (2 : Int) ≤ (m : Int) := by omega
    have t4 : (4 : Int) ≤ (m : Int) := by omega
    have t8 : (8 : Int) ≤ (m : Int) := by omega
    have t12 : (12 : Int) ≤ (m : Int) := by omega
    have t16 : (16 : Int) ≤ (m : Int) := by omega
    have t20 : (20 : Int) ≤ (m : Int) := by omega
    have hdone := decV_done s d t h20 h0E hu1 hu2 hk3 hk4 hu5 hu6 hn
    have Ho := Lib.hid ho
    clear ho
    have Hc := Lib.hid hc
    clear hc
    have Hc3 := Lib.hid hc3
    clear hc3
    have Hr1 := Lib.hid hr1
    clear hr1
    have Hr2 := Lib.hid hr2
    clear hr2
    have Hk1 := Lib.hid hk1
    clear hk1
    have Hk2 := Lib.hid hk2
    clear hk2
    have Hk3 := Lib.hid hk3
    clear hk3
    have Hk4 := Lib.hid hk4
    clear hk4
    have Hk5 := Lib.hid hk5
    clear hk5
    have Hk6 := Lib.hid hk6
    clear hk6
    have Hu1 := Lib.hid hu1
    clear hu1
    have Hu2 := Lib.hid hu2
    clear hu2
    have Hu5 := Lib.hid hu5
    clear hu5
    have Hu6 := Lib.hid hu6
    clear hu6
    have M1 := Lib.hid m1
    clear m1
    have M2 := Lib.hid m2
    clear m2
    have M3 := Lib.hid m3
    clear m3
    have M4 := Lib.hid m4
    clear m4
    have M5 := Lib.hid m5
    clear m5
    have M6 := Lib.hid m6
    clear m6
    have Cf := Lib.hid cf
    clear cf
    have Al := Lib.hid al
    clear al
    have Hdone := Lib.hid hdone
    clear hdone
    have Hn := Lib.hid hn
    clear hn
    clear hE h0E
    go_upto_region 12 with fail
    clear x0 x1 x2 x3 x4 x5 x6 x7 xf
    have hS0 : KeepS w2 x 60 zeroC w2 := ⟨Below.refl _ _, Hx2.out⟩
    have ne : Nonempty (Cls (KeepS w2 x 60 zeroC)) := ⟨⟨w2, hS0⟩⟩
    have hxl := Hx2.out.lt
    have Hxl := Lib.hid hxl
    clear hxl
    refine wp_region_flat1 18 (KeepS w2 x 60 zeroC) (fun w w' => Below w.heap.size w w') (by kernel_rfl) (by kernel_rfl) (by kernel_rfl) (fun w => Below.refl _ _) hS0.drew ?_
    simp only [List.take_succ_cons, List.take_zero, List.drop_succ_cons, List.drop_zero]
    repeat (first
      | (refine flat_quiet (fun w => Below.refl _ _) rfl rfl rfl rfl ?_; intro K hK; go_big_quiet_op; go_big_quiet_on)
      | (refine flat_call Cf.out _ ?_ rfl rfl rfl _ (fun y => (M1.out _).mono fun e w' ⟨a, b⟩ => ⟨a, b ▸ y.h, b ▸ Below.refl _ _⟩) w2 ?_; (focus (simp only [List.map_toArray, List.map_cons, List.map_nil]; rfl)); intro K hK; go_big_quiet_op; go_big_quiet_on)
      | (refine flat_call Cf.out _ ?_ rfl rfl rfl _ (fun y => (M2.out _).mono fun e w' ⟨a, b⟩ => ⟨a, b ▸ y.h, b ▸ Below.refl _ _⟩) w2 ?_; (focus (simp only [List.map_toArray, List.map_cons, List.map_nil]; rfl)); intro K hK; go_big_quiet_op; go_big_quiet_on)
      | (refine flat_call Cf.out _ ?_ rfl rfl rfl _ (fun y => (M3.out _).mono fun e w' ⟨a, b⟩ => ⟨a, b ▸ y.h, b ▸ Below.refl _ _⟩) w2 ?_; (focus (simp only [List.map_toArray, List.map_cons, List.map_nil]; rfl)); intro K hK; go_big_quiet_op; go_big_quiet_on)
      | (refine flat_call Cf.out _ ?_ rfl rfl rfl _ (fun y => (M4.out _).mono fun e w' ⟨a, b⟩ => ⟨a, b ▸ y.h, b ▸ Below.refl _ _⟩) w2 ?_; (focus (simp only [List.map_toArray, List.map_cons, List.map_nil]; rfl)); intro K hK; go_big_quiet_op; go_big_quiet_on)
      | (refine flat_alloc w2.heap.size zeroC Al.out KeepS.below KeepS.size rfl rfl rfl w2 ?_; intro K hK; go_big_quiet_op; go_big_quiet_on))
    refine flat_nil ?_
    intro W9 hW9 y5 hy5
    obtain ⟨g, rfl, hgB, hg⟩ := hy5
    simp only [endF, Act.put, List.setIfInBounds_toArray, List.set_cons_succ, List.set_cons_zero]
    clear ne hS0
    have x0 := hg.cell 0
    have x1 := hg.cell 1
    have x2 := hg.cell 2
    have x3 := hg.cell 3
    have x4 := hg.cell 4
    have x5 := hg.cell 5
    have x6 := hg.cell 6
    have x7 := hg.cell 7
    simp [zeroC] at x0 x1 x2 x3 x4 x5 x6 x7
    have xf := hg.frozen
    have hgx : x ≠ g := by have := Hxl.out; omega
    have hwg : w.heap.size ≤ g := Nat.le_trans Hbw.out.size hgB
    have Hgx := Lib.hid hgx
    clear hgx
    have Hg := Lib.hid hg
    clear hg
    have HgB := Lib.hid hgB
    clear hgB
    have HW9 := Lib.hid hW9
    clear hW9
    have Hwg := Lib.hid hwg
    clear hwg
    go_upto_region 13 with fail
    generalize hWt : World.setCell _ _ _ = Wt
    have ht : Blk Wt g 60 #[.int .u16 (u1 : Int), .int .u16 (u2 : Int), .int .u32 (k3 : Int), .int .u32 (k4 : Int), .int .u8 ((t[13]'j13).toNat : Int), .int .u16 0, .int .u16 0, .string ⟨#[]⟩] := by
      rw [← hWt]
      exact blk_set8 Hg.out _ _ _ _ _ _ _ _
    have hu : Blk Wt x 60 zeroC := by
      rw [← hWt]
      have n := Hgx.out
      exact Blk.far (Blk.far (Blk.far (Blk.far (Blk.far (Blk.far (Blk.far (Blk.far (HW9.out.2) (p := ⟨g, 0, none⟩) n _) (p := ⟨g, 1, none⟩) n _) (p := ⟨g, 2, none⟩) n _) (p := ⟨g, 3, none⟩) n _) (p := ⟨g, 4, none⟩) n _) (p := ⟨g, 5, none⟩) n _) (p := ⟨g, 6, none⟩) n _) (p := ⟨g, 7, none⟩) n _
    have hbt : Below w.heap.size w Wt := by
      rw [← hWt]
      exact below_set8 (Hbw.out.trans (HW9.out.1.mono Hbw.out.size)) Hwg.out _ _ _ _ _ _ _ _
    clear hWt x0 x1 x2 x3 x4 x5 x6 x7 xf HW9 Hg HgB Hx2 Hbw
    have x5 := ht.cell 5
    have x6 := ht.cell 6
    have x7 := ht.cell 7
    simp at x5 x6 x7
    have xf := ht.frozen
    have Ht := Lib.hid ht
    clear ht
    have Hu := Lib.hid hu
    clear hu
    have Hbt := Lib.hid hbt
    clear hbt
    go_wp2_with fail
    with_reducible refine (M5.out _).mono ?_
    rintro e w' ⟨rfl, rfl⟩
    go_wp2_with fail
    with_reducible refine (M6.out _).mono ?_
    rintro e w' ⟨rfl, rfl⟩
    go_upto_region 16 with fail
    generalize hWu : World.setCell _ _ _ = Wu
    have hg2 : Blk Wu g 60 #[.int .u16 (u1 : Int), .int .u16 (u2 : Int), .int .u32 (k3 : Int), .int .u32 (k4 : Int), .int .u8 ((t[13]'j13).toNat : Int), .int .u16 (u5 : Int), .int .u16 (u6 : Int), .string (t.extract 20 n)] := by
      rw [← hWu]
      have := ((Ht.out.set_ 5 (.int .u16 (u5 : Int))).set_ 6 (.int .u16 (u6 : Int))).set_ 7 (.string (t.extract 20 n))
      simpa using this
    have hu2 : Blk Wu x 60 zeroC := by
      rw [← hWu]
      have n := Hgx.out
      exact Blk.far (Blk.far (Blk.far (Hu.out) (p := ⟨g, 5, none⟩) n _) (p := ⟨g, 6, none⟩) n _) (p := ⟨g, 7, none⟩) n _
    have hbu : Below w.heap.size w Wu := by
      rw [← hWu]
      exact ((Hbt.out.setCell Hwg.out _).setCell Hwg.out _).setCell Hwg.out _
    clear hWu x5 x6 x7 xf Ht Hu Hbt
    have x0 := hg2.cell 0
    have x1 := hg2.cell 1
    have x2 := hg2.cell 2
    have x3 := hg2.cell 3
    have x4 := hg2.cell 4
    have x5 := hg2.cell 5
    have x6 := hg2.cell 6
    have x7 := hg2.cell 7
    simp at x0 x1 x2 x3 x4 x5 x6 x7
    have z0 := hu2.cell 0
    have z1 := hu2.cell 1
    have z2 := hu2.cell 2
    have z3 := hu2.cell 3
    have z4 := hu2.cell 4
    have z5 := hu2.cell 5
    have z6 := hu2.cell 6
    have z7 := hu2.cell 7
    simp [zeroC] at z0 z1 z2 z3 z4 z5 z6 z7
    have xf := hu2.frozen
    have Hg2 := Lib.hid hg2
    clear hg2
    have Hu2 := Lib.hid hu2
    clear hu2
    have Hbu := Lib.hid hbu
    clear hbu
    go_region
    go_wp2
    clear x0 x1 x2 x3 x4 x5 x6 x7 xf z0 z1 z2 z3 z4 z5 z6 z7
    generalize hWf : World.drew _ = Wf
    have hf : Blk Wf x 60 #[.int .u16 (u1 : Int), .int .u16 (u2 : Int), .int .u32 (k3 : Int), .int .u32 (k4 : Int), .int .u8 ((t[13]'j13).toNat : Int), .int .u16 (u5 : Int), .int .u16 (u6 : Int), .string (t.extract 20 n)] := by
      rw [← hWf]
      exact Blk.drew (blk_set8 Hu2.out _ _ _ _ _ _ _ _)
    have hbf : Below w.heap.size w Wf := by
      rw [← hWf]
      exact Below.drew (below_set8 Hbu.out Hxw.out _ _ _ _ _ _ _ _)
    clear hWf
    have x0 := hf.cell 0
    have x1 := hf.cell 1
    have x2 := hf.cell 2
    have x3 := hf.cell 3
    have x4 := hf.cell 4
    have x5 := hf.cell 5
    have x6 := hf.cell 6
    have x7 := hf.cell 7
    simp at x0 x1 x2 x3 x4 x5 x6 x7
    rw [Hdone.out]
    exact bodyPost_ret (v := .tuple #[.agg #[.int .u16 (u1 : Int), .int .u16 (u2 : Int), .int .u32 (k3 : Int), .int .u32 (k4 : Int), .int .u8 ((t[13]'j13).toNat : Int), .int .u16 (u5 : Int), .int .u16 (u6 : Int), .string (t.extract 20 n)], .string (t.extract n t.size), .int .i64 0]) (by simp [results, Try.results79, go_sem, x0, x1, x2, x3, x4, x5, x6, x7]) rfl ⟨rfl, hbf⟩
end Go.Proofs.Ytengegcnocdkoaa.T
end
section
namespace Go.Proofs.Ytengegcnocdkoaa.T
open Go.RowKit Go.BigFrame
set_option maxRecDepth 100000 in
set_option maxHeartbeats 4000000 in
theorem dec_any (s d : Nat) (t : ByteArray) (w : World) (hs : s < 4294967296) (hd : d < 4294967296) (h20 : 20 ≤ t.size) (hl : t.size ≤ 65515) :
    Calls Try.prog 41 #[.int .u32 (s : Int), .int .u32 (d : Int), .string t] w fun e w' => e = .returned (decV s d t.data.toList) ∧ Below w.heap.size w w' := by
  obtain ⟨m, hm⟩ : ∃ m, m = t.size := ⟨_, rfl⟩
  have e1 : (t.size : Int) = (m : Int) := by omega
  have hm1 : 20 ≤ m := by omega
  have hm2 : m ≤ 65515 := by omega
  have b7 := fun W => ahead_ok s d m W hs hd (by omega)
  obtain ⟨ah, hah⟩ : ∃ ah : List UInt8, ah = aheadL s d m := ⟨_, rfl⟩
  have za : ah.length = 12 := by rw [hah]; rfl
  rw [← hah] at b7
  have hcat : catS [⟨ah.toArray⟩, t] = ah ++ t.data.toList := by simp [catS]
  obtain ⟨ok, hok⟩ : ∃ ok : Bool, ((ofL (ah ++ t.data.toList) : Int) == 0) = ok := ⟨_, rfl⟩
  have rl := fun W g (h : Blk W g 9 #[.string ⟨ah.toArray⟩, .string t]) => right_lit [⟨ah.toArray⟩, t] ok (by rw [hcat]; exact hok) (by
    intro x hx
    simp only [List.mem_cons, List.not_mem_nil, or_false] at hx
    rcases hx with rfl | rfl
    · show ah.length ≤ maxLen; rw [za]; decide
    · have : x.size ≤ 65515 := by omega
      exact Nat.le_trans this (by decide)) g 2 2 W rfl (by omega) h
  clear hcat
  have hbx := Blk.new w 60 zeroC
  have hb0 : Below w.heap.size w (w.alloc (.cells zeroC 60)) := (Below.refl _ _).alloc (Nat.le_refl _) _
  unfold zeroC at hbx hb0
  have j12 : 12 < t.size := by omega
  have j13 : 13 < t.size := by omega
  have l12 := (t[12]'j12).toNat_lt
  have l13 := (t[13]'j13).toNat_lt
  have k12 : ((t[12]'j12).toNat : Int) < 256 := by omega
  have k13 : ((t[13]'j13).toNat : Int) < 256 := by omega
  have i12 : (12 : Int) < (m : Int) := by omega
  have i13 : (13 : Int) < (m : Int) := by omega
  have B7 := Lib.hid b7
  clear b7
  have Rl := Lib.hid rl
  clear rl
  have Hok := Lib.hid hok
  clear hok
  have Hah := Lib.hid hah
  clear hah
  have Hm := Lib.hid hm
  clear hm
  have Hbx := Lib.hid hbx
  clear hbx
  have Hb0 := Lib.hid hb0
  clear hb0
  go_enter Try.func41, Try.ntmps41
  go_wp2_with fail
  generalize hW : w.alloc _ = W at *
  obtain ⟨x, hx⟩ : ∃ x, x = w.heap.size := ⟨_, rfl⟩
  rw [← hx] at Hbx ⊢
  have hxw : w.heap.size ≤ x := by omega
  have Hxw := Lib.hid hxw
  clear hxw
  clear hW hx
  with_reducible refine (B7.out _).mono ?_
  rintro e w1 ⟨rfl, hb1⟩
  go_wp2_with fail
  with_reducible refine (Rl.out _ _ (Blk.new _ _ _)).mono ?_
  rintro e w2 ⟨rfl, hb2⟩
  have hS : Below W.heap.size W w2 := hb1.trans ((((Below.refl _ _).alloc (Nat.le_refl _) _).trans (hb2.mono (by simp))).mono hb1.size)
  have hx2 := Hbx.out.below hS Hbx.out.lt
  have hbw : Below w.heap.size w w2 := Hb0.out.trans (hS.mono Hb0.out.size)
  clear hb1 hb2 hS Hb0 Hbx Rl B7
  have x0 := hx2.cell 0
  have x1 := hx2.cell 1
  have x2 := hx2.cell 2
  have x3 := hx2.cell 3
  have x4 := hx2.cell 4
  have x5 := hx2.cell 5
  have x6 := hx2.cell 6
  have x7 := hx2.cell 7
  simp at x0 x1 x2 x3 x4 x5 x6 x7
  have xf := hx2.frozen
  have Hx2 := Lib.hid hx2
  clear hx2
  have Hbw := Lib.hid hbw
  clear hbw
  have hlen : t.data.toList.length = t.size := rfl
  cases ok
  · have hE : decE s d t.data.toList = 55 := by
      have h55 : ofL (aheadL s d t.data.toList.length ++ t.data.toList) ≠ 0 := by
        have := Hok.out
        rw [hlen, ← Hm.out, ← Hah.out]
        intro h0
        rw [h0] at this
        cases this
      unfold decE
      rw [if_neg (by omega), if_neg (by omega), if_pos h55]
    have hV := decV_bad hE (by decide)
    have HV := Lib.hid hV
    clear hV
    clear hE hlen
    go_wp2
    rw [HV.out]
    clear x0 x1 x2 x3 x4 x5 x6 x7 xf
    generalize hWf : World.setCell _ _ _ = Wf
    have hf : Blk Wf x 60 zeroC := by
      rw [← hWf]
      exact blk_set8 Hx2.out _ _ _ _ _ _ _ _
    have hbf : Below w.heap.size w Wf := by
      rw [← hWf]
      exact below_set8 Hbw.out Hxw.out _ _ _ _ _ _ _ _
    clear hWf
    have x0 := hf.cell 0
    have x1 := hf.cell 1
    have x2 := hf.cell 2
    have x3 := hf.cell 3
    have x4 := hf.cell 4
    have x5 := hf.cell 5
    have x6 := hf.cell 6
    have x7 := hf.cell 7
    simp [zeroC] at x0 x1 x2 x3 x4 x5 x6 x7
    exact bodyPost_ret (v := badV 55) (by simp [results, Try.results41, go_sem, badV, zeroC, x0, x1, x2, x3, x4, x5, x6, x7]) rfl ⟨rfl, hbf⟩
  have h0 : ofL (aheadL s d t.data.toList.length ++ t.data.toList) = 0 := by
    have := Hok.out
    rw [hlen, ← Hm.out, ← Hah.out]
    have h1 := beq_iff_eq.1 this
    exact_mod_cast h1
  have hE : decE s d t.data.toList = if (t[12]'j12).toNat / 16 * 4 < 20 ∨ m < (t[12]'j12).toNat / 16 * 4 then 60 else if (t[12]'j12).toNat % 16 ≠ 0 ∨ 64 ≤ (t[13]'j13).toNat then 61 else 0 := by
    unfold decE
    rw [if_neg (by omega), if_neg (by omega), if_neg (by rw [h0]; simp), at0_get t 12 j12, at0_get t 13 j13, hlen, ← Hm.out]
  clear h0 hlen
  obtain ⟨c, hc⟩ : ∃ c, c = (t[12]'j12).toNat := ⟨_, rfl⟩
  obtain ⟨c3, hc3⟩ : ∃ c, c = (t[13]'j13).toNat := ⟨_, rfl⟩
  rw [← hc] at hE l12
  rw [← hc3] at hE l13
  by_cases ho : c / 16 * 4 < 20 ∨ m < c / 16 * 4
  · rw [if_pos ho] at hE
    have hV := decV_bad hE (by decide)
    have HV := Lib.hid hV
    clear hV
    clear hE
    by_cases ho1 : c / 16 * 4 < 20
    · have i5 : ((t[12]'j12).toNat : Int) / 16 * 4 < 20 := by omega
      have Ho := Lib.hid ho
      clear ho
      have Hc := Lib.hid hc
      clear hc
      have Hc3 := Lib.hid hc3
      clear hc3
      go_wp2
      rw [HV.out]
      clear x0 x1 x2 x3 x4 x5 x6 x7 xf
      generalize hWf : World.setCell _ _ _ = Wf
      have hf : Blk Wf x 60 zeroC := by
        rw [← hWf]
        exact blk_set8 Hx2.out _ _ _ _ _ _ _ _
      have hbf : Below w.heap.size w Wf := by
        rw [← hWf]
        exact below_set8 Hbw.out Hxw.out _ _ _ _ _ _ _ _
      clear hWf
      have x0 := hf.cell 0
      have x1 := hf.cell 1
      have x2 := hf.cell 2
      have x3 := hf.cell 3
      have x4 := hf.cell 4
      have x5 := hf.cell 5
      have x6 := hf.cell 6
      have x7 := hf.cell 7
      simp [zeroC] at x0 x1 x2 x3 x4 x5 x6 x7
      exact bodyPost_ret (v := badV 60) (by simp [results, Try.results41, go_sem, badV, zeroC, x0, x1, x2, x3, x4, x5, x6, x7]) rfl ⟨rfl, hbf⟩
    · have i5 : (20 : Int) ≤ ((t[12]'j12).toNat : Int) / 16 * 4 := by omega
      have i6 : (m : Int) < ((t[12]'j12).toNat : Int) / 16 * 4 := by omega
      have Ho := Lib.hid ho
      clear ho
      have Hc := Lib.hid hc
      clear hc
      have Hc3 := Lib.hid hc3
      clear hc3
      go_wp2
      rw [HV.out]
      clear x0 x1 x2 x3 x4 x5 x6 x7 xf
      generalize hWf : World.setCell _ _ _ = Wf
      have hf : Blk Wf x 60 zeroC := by
        rw [← hWf]
        exact blk_set8 Hx2.out _ _ _ _ _ _ _ _
      have hbf : Below w.heap.size w Wf := by
        rw [← hWf]
        exact below_set8 Hbw.out Hxw.out _ _ _ _ _ _ _ _
      clear hWf
      have x0 := hf.cell 0
      have x1 := hf.cell 1
      have x2 := hf.cell 2
      have x3 := hf.cell 3
      have x4 := hf.cell 4
      have x5 := hf.cell 5
      have x6 := hf.cell 6
      have x7 := hf.cell 7
      simp [zeroC] at x0 x1 x2 x3 x4 x5 x6 x7
      exact bodyPost_ret (v := badV 60) (by simp [results, Try.results41, go_sem, badV, zeroC, x0, x1, x2, x3, x4, x5, x6, x7]) rfl ⟨rfl, hbf⟩
  · rw [if_neg ho] at hE
    have i5 : (20 : Int) ≤ ((t[12]'j12).toNat : Int) / 16 * 4 := by omega
    have i6 : ((t[12]'j12).toNat : Int) / 16 * 4 ≤ (m : Int) := by omega
    by_cases hr1 : c % 16 ≠ 0
    · have hV := decV_bad (hE.trans (if_pos (.inl hr1))) (by decide)
      have HV := Lib.hid hV
      clear hV
      clear hE
      have q1 : (((t[12]'j12).toNat : Int) % 16 != 0) = true := by rw [bne_iff_ne]; omega
      have Ho := Lib.hid ho
      clear ho
      have Hc := Lib.hid hc
      clear hc
      have Hc3 := Lib.hid hc3
      clear hc3
      have Hr1 := Lib.hid hr1
      clear hr1
      go_wp2
      rw [HV.out]
      clear x0 x1 x2 x3 x4 x5 x6 x7 xf
      generalize hWf : World.setCell _ _ _ = Wf
      have hf : Blk Wf x 60 zeroC := by
        rw [← hWf]
        exact blk_set8 Hx2.out _ _ _ _ _ _ _ _
      have hbf : Below w.heap.size w Wf := by
        rw [← hWf]
        exact below_set8 Hbw.out Hxw.out _ _ _ _ _ _ _ _
      clear hWf
      have x0 := hf.cell 0
      have x1 := hf.cell 1
      have x2 := hf.cell 2
      have x3 := hf.cell 3
      have x4 := hf.cell 4
      have x5 := hf.cell 5
      have x6 := hf.cell 6
      have x7 := hf.cell 7
      simp [zeroC] at x0 x1 x2 x3 x4 x5 x6 x7
      exact bodyPost_ret (v := badV 61) (by simp [results, Try.results41, go_sem, badV, zeroC, x0, x1, x2, x3, x4, x5, x6, x7]) rfl ⟨rfl, hbf⟩
    have q1 : (((t[12]'j12).toNat : Int) % 16 != 0) = false := by rw [bne_eq_false_iff_eq]; omega
    by_cases hr2 : 64 ≤ c3
    · have hV := decV_bad (hE.trans (if_pos (.inr hr2))) (by decide)
      have HV := Lib.hid hV
      clear hV
      clear hE
      have q2 : (((t[13]'j13).toNat : Int) / 64 != 0) = true := by rw [bne_iff_ne]; omega
      have Ho := Lib.hid ho
      clear ho
      have Hc := Lib.hid hc
      clear hc
      have Hc3 := Lib.hid hc3
      clear hc3
      have Hr1 := Lib.hid hr1
      clear hr1
      have Hr2 := Lib.hid hr2
      clear hr2
      go_wp2
      rw [HV.out]
      clear x0 x1 x2 x3 x4 x5 x6 x7 xf
      generalize hWf : World.setCell _ _ _ = Wf
      have hf : Blk Wf x 60 zeroC := by
        rw [← hWf]
        exact blk_set8 Hx2.out _ _ _ _ _ _ _ _
      have hbf : Below w.heap.size w Wf := by
        rw [← hWf]
        exact below_set8 Hbw.out Hxw.out _ _ _ _ _ _ _ _
      clear hWf
      have x0 := hf.cell 0
      have x1 := hf.cell 1
      have x2 := hf.cell 2
      have x3 := hf.cell 3
      have x4 := hf.cell 4
      have x5 := hf.cell 5
      have x6 := hf.cell 6
      have x7 := hf.cell 7
      simp [zeroC] at x0 x1 x2 x3 x4 x5 x6 x7
      exact bodyPost_ret (v := badV 61) (by simp [results, Try.results41, go_sem, badV, zeroC, x0, x1, x2, x3, x4, x5, x6, x7]) rfl ⟨rfl, hbf⟩
    have q2 : (((t[13]'j13).toNat : Int) / 64 != 0) = false := by rw [bne_eq_false_iff_eq]; omega
    have h0E := hE.trans (if_neg (by rintro (h | h); exact hr1 h; exact hr2 (by omega)))
    obtain ⟨n, hn⟩ : ∃ n : Nat, n = (t[12]'j12).toNat / 16 * 4 := ⟨_, rfl⟩
    have hnI : ((t[12]'j12).toNat : Int) / 16 * 4 = (n : Int) := by omega
    have i7 : (20 : Int) ≤ (n : Int) := by omega
    have i8 : (n : Int) ≤ (m : Int) := by omega
    have m1 := fun W => number16 (t.extract 0 2) W (by simp [maxLen]; omega)
    have m2 := fun W => number16 (t.extract 2 4) W (by simp [maxLen]; omega)
    have m3 := fun W => number_any (t.extract 4 8) W (by simp [maxLen]; omega)
    have m4 := fun W => number_any (t.extract 8 12) W (by simp [maxLen]; omega)
    have m5 := fun W => number16 (t.extract 14 16) W (by simp [maxLen]; omega)
    have m6 := fun W => number16 (t.extract 18 20) W (by simp [maxLen]; omega)
    obtain ⟨u1, hu1⟩ : ∃ u, u = numL (t.extract 0 2).data.toList % 65536 := ⟨_, rfl⟩
    obtain ⟨u2, hu2⟩ : ∃ u, u = numL (t.extract 2 4).data.toList % 65536 := ⟨_, rfl⟩
    obtain ⟨u3, hu3⟩ : ∃ u, u = numL (t.extract 4 8).data.toList := ⟨_, rfl⟩
    obtain ⟨u4, hu4⟩ : ∃ u, u = numL (t.extract 8 12).data.toList := ⟨_, rfl⟩
    obtain ⟨u5, hu5⟩ : ∃ u, u = numL (t.extract 14 16).data.toList % 65536 := ⟨_, rfl⟩
    obtain ⟨u6, hu6⟩ : ∃ u, u = numL (t.extract 18 20).data.toList % 65536 := ⟨_, rfl⟩
    rw [← hu1] at m1
    rw [← hu2] at m2
    rw [← hu3] at m3
    rw [← hu4] at m4
    rw [← hu5] at m5
    rw [← hu6] at m6
    have cf : ∀ (vals : Array Value) (w : World), (callFunc 73 vals).run Try.prog w = .ok (.enter 73 vals) w := fun _ _ => by kernel_rfl
    have cg : ∀ (vals : Array Value) (w : World), (callFunc 74 vals).run Try.prog w = .ok (.enter 74 vals) w := fun _ _ => by kernel_rfl
    have t2 : (2 : Int) ≤ (m : Int) := by omega
    have t4 : (4 : Int) ≤ (m : Int) := by omega
    have t8 : (8 : Int) ≤ (m : Int) := by omega
    have t12 : (12 : Int) ≤ (m : Int) := by omega
    have t16 : (16 : Int) ≤ (m : Int) := by omega
    have t20 : (20 : Int) ≤ (m : Int) := by omega
    have hdone := decV_done s d t h20 h0E hu1 hu2 hu3 hu4 hu5 hu6 hn
    have Ho := Lib.hid ho
    clear ho
    have Hc := Lib.hid hc
    clear hc
    have Hc3 := Lib.hid hc3
    clear hc3
    have Hr1 := Lib.hid hr1
    clear hr1
    have Hr2 := Lib.hid hr2
    clear hr2
    have Hu1 := Lib.hid hu1
    clear hu1
    have Hu2 := Lib.hid hu2
    clear hu2
    have Hu3 := Lib.hid hu3
    clear hu3
    have Hu4 := Lib.hid hu4
    clear hu4
    have Hu5 := Lib.hid hu5
    clear hu5
    have Hu6 := Lib.hid hu6
    clear hu6
    have M1 := Lib.hid m1
    clear m1
    have M2 := Lib.hid m2
    clear m2
    have M3 := Lib.hid m3
    clear m3
    have M4 := Lib.hid m4
    clear m4
    have M5 := Lib.hid m5
    clear m5
    have M6 := Lib.hid m6
    clear m6
    have Cf := Lib.hid cf
    clear cf
    have Cg := Lib.hid cg
    clear cg
    have Hdone := Lib.hid hdone
    clear hdone
    have Hn := Lib.hid hn
    clear hn
    clear hE h0E
    go_upto_region 12 with fail
    clear x0 x1 x2 x3 x4 x5 x6 x7 xf
    have hS0 : KeepS w2 x 60 zeroC w2 := ⟨Below.refl _ _, Hx2.out⟩
    have ne : Nonempty (Cls (KeepS w2 x 60 zeroC)) := ⟨⟨w2, hS0⟩⟩
    refine wp_region_flat1 24 (KeepS w2 x 60 zeroC) (fun w w' => Below w.heap.size w w') (by kernel_rfl) (by kernel_rfl) (by kernel_rfl) (fun w => Below.refl _ _) hS0.drew ?_
    simp only [List.take_succ_cons, List.take_zero, List.drop_succ_cons, List.drop_zero]
    repeat (first
      | (refine flat_quiet (fun w => Below.refl _ _) rfl rfl rfl rfl ?_; intro K hK; go_big_quiet_op; go_big_quiet_on)
      | (refine flat_call Cf.out _ ?_ rfl rfl rfl _ (fun y => below_call KeepS.below y (M1.out _)) w2 ?_; (focus (simp only [List.map_toArray, List.map_cons, List.map_nil]; rfl)); intro K hK; go_big_quiet_op; go_big_quiet_on)
      | (refine flat_call Cf.out _ ?_ rfl rfl rfl _ (fun y => below_call KeepS.below y (M2.out _)) w2 ?_; (focus (simp only [List.map_toArray, List.map_cons, List.map_nil]; rfl)); intro K hK; go_big_quiet_op; go_big_quiet_on)
      | (refine flat_call Cg.out _ ?_ rfl rfl rfl _ (fun y => below_call KeepS.below y (M3.out _)) w2 ?_; (focus (simp only [List.map_toArray, List.map_cons, List.map_nil]; rfl)); intro K hK; go_big_quiet_op; go_big_quiet_on)
      | (refine flat_call Cg.out _ ?_ rfl rfl rfl _ (fun y => below_call KeepS.below y (M4.out _)) w2 ?_; (focus (simp only [List.map_toArray, List.map_cons, List.map_nil]; rfl)); intro K hK; go_big_quiet_op; go_big_quiet_on)
      | (refine flat_call Cf.out _ ?_ rfl rfl rfl _ (fun y => below_call KeepS.below y (M5.out _)) w2 ?_; (focus (simp only [List.map_toArray, List.map_cons, List.map_nil]; rfl)); intro K hK; go_big_quiet_op; go_big_quiet_on)
      | (refine flat_call Cf.out _ ?_ rfl rfl rfl _ (fun y => below_call KeepS.below y (M6.out _)) w2 ?_; (focus (simp only [List.map_toArray, List.map_cons, List.map_nil]; rfl)); intro K hK; go_big_quiet_op; go_big_quiet_on))
    refine flat_nil ?_
    intro W9 hW9
    simp only [endF]
    clear ne hS0
    have x0 := hW9.2.cell 0
    have x1 := hW9.2.cell 1
    have x2 := hW9.2.cell 2
    have x3 := hW9.2.cell 3
    have x4 := hW9.2.cell 4
    have x5 := hW9.2.cell 5
    have x6 := hW9.2.cell 6
    have x7 := hW9.2.cell 7
    simp [zeroC] at x0 x1 x2 x3 x4 x5 x6 x7
    have xf := hW9.2.frozen
    go_upto_region 13 with fail
    generalize hWt : World.setCell _ _ _ = Wt
    have ht : Blk Wt x 60 #[.int .u16 (u1 : Int), .int .u16 (u2 : Int), .int .u32 (u3 : Int), .int .u32 (u4 : Int), .int .u8 ((t[13]'j13).toNat : Int), .int .u16 (u5 : Int), .int .u16 (u6 : Int), .string (t.extract 20 n)] := by
      rw [← hWt]
      exact blk_set8 hW9.2 _ _ _ _ _ _ _ _
    have hbt : Below w.heap.size w Wt := by
      rw [← hWt]
      exact below_set8 (Hbw.out.trans (hW9.1.mono Hbw.out.size)) Hxw.out _ _ _ _ _ _ _ _
    clear hWt hW9 x0 x1 x2 x3 x4 x5 x6 x7 xf
    have x0 := ht.cell 0
    have x1 := ht.cell 1
    have x2 := ht.cell 2
    have x3 := ht.cell 3
    have x4 := ht.cell 4
    have x5 := ht.cell 5
    have x6 := ht.cell 6
    have x7 := ht.cell 7
    simp at x0 x1 x2 x3 x4 x5 x6 x7
    have xf := ht.frozen
    have Ht := Lib.hid ht
    clear ht
    have Hbt := Lib.hid hbt
    clear hbt
    go_region
    go_wp2
    clear x0 x1 x2 x3 x4 x5 x6 x7 xf
    generalize hWf : World.drew _ = Wf
    have hf : Blk Wf x 60 #[.int .u16 (u1 : Int), .int .u16 (u2 : Int), .int .u32 (u3 : Int), .int .u32 (u4 : Int), .int .u8 ((t[13]'j13).toNat : Int), .int .u16 (u5 : Int), .int .u16 (u6 : Int), .string (t.extract 20 n)] := by
      rw [← hWf]
      exact Blk.drew (blk_set8 Ht.out _ _ _ _ _ _ _ _)
    have hbf : Below w.heap.size w Wf := by
      rw [← hWf]
      exact Below.drew (below_set8 Hbt.out Hxw.out _ _ _ _ _ _ _ _)
    clear hWf
    have x0 := hf.cell 0
    have x1 := hf.cell 1
    have x2 := hf.cell 2
    have x3 := hf.cell 3
    have x4 := hf.cell 4
    have x5 := hf.cell 5
    have x6 := hf.cell 6
    have x7 := hf.cell 7
    simp at x0 x1 x2 x3 x4 x5 x6 x7
    rw [Hdone.out]
    exact bodyPost_ret (v := .tuple #[.agg #[.int .u16 (u1 : Int), .int .u16 (u2 : Int), .int .u32 (u3 : Int), .int .u32 (u4 : Int), .int .u8 ((t[13]'j13).toNat : Int), .int .u16 (u5 : Int), .int .u16 (u6 : Int), .string (t.extract 20 n)], .string (t.extract n t.size), .int .i64 0]) (by simp [results, Try.results41, go_sem, x0, x1, x2, x3, x4, x5, x6, x7]) rfl ⟨rfl, hbf⟩
end Go.Proofs.Ytengegcnocdkoaa.T
end
