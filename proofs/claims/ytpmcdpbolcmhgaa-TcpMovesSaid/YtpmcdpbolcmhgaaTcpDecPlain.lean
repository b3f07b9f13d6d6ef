/- PLAIN: what a segment's bytes say (layer 6). -/
import Derived.Test.YtpmcdpbolcmhgaaTcpRefWork
set_option linter.unusedVariables false
set_option linter.unusedSimpArgs false
namespace Go.Proofs.Ytpmcdpbolcmhgaa
open Go.RowKit

def at0 (l : List UInt8) (i : Nat) : Nat := (l.getD i 0).toNat
/-- what is wrong with bytes (0: nothing) -/
def decE (s d : Nat) (l : List UInt8) : Nat :=
  if l.length < 20 then 50 else if 65515 < l.length then 4 else if ofL (aheadL s d l.length ++ l) ≠ 0 then 55
  else if at0 l 12 / 16 * 4 < 20 ∨ l.length < at0 l 12 / 16 * 4 then 60 else if at0 l 12 % 16 ≠ 0 ∨ 64 ≤ at0 l 13 then 61 else 0
def endN (l : List UInt8) : Nat := at0 l 12 / 16 * 4
def sub (l : List UInt8) (i j : Nat) : List UInt8 := (l.drop i).take (j - i)
def decH (l : List UInt8) : TCPh := ⟨numL (sub l 0 2) % 65536, numL (sub l 2 4) % 65536, numL (sub l 4 8), numL (sub l 8 12), l.getD 13 0, numL (sub l 14 16) % 65536, numL (sub l 18 20) % 65536, ⟨(sub l 20 (endN l)).toArray⟩⟩
def zeroC : Array Value := #[.int .u16 0, .int .u16 0, .int .u32 0, .int .u32 0, .int .u8 0, .int .u16 0, .int .u16 0, .string ⟨#[]⟩]
def badV (e : Nat) : Value := .tuple #[.agg zeroC, .string ⟨#[]⟩, .int .i64 (e : Int)]
def decV (s d : Nat) (l : List UInt8) : Value := if decE s d l = 0 then .tuple #[.agg (decH l).cells, .string ⟨(l.drop (endN l)).toArray⟩, .int .i64 0] else badV (decE s d l)
theorem decV_bad {s d : Nat} {l : List UInt8} {e : Nat} (h : decE s d l = e) (h0 : e ≠ 0) : decV s d l = badV e := by
  unfold decV
  rw [h, if_neg h0]
theorem decV_ok {s d : Nat} {l : List UInt8} (h : decE s d l = 0) : decV s d l = .tuple #[.agg (decH l).cells, .string ⟨(l.drop (endN l)).toArray⟩, .int .i64 0] := by
  unfold decV
  rw [if_pos h]
theorem at0_get (s : ByteArray) (i : Nat) (h : i < s.size) : at0 s.data.toList i = (s[i]'h).toNat := by
  unfold at0
  have hl : i < s.data.toList.length := h
  simp only [List.getD, List.getElem?_eq_getElem hl, Option.getD_some]
  rfl
theorem getD_get (s : ByteArray) (i : Nat) (h : i < s.size) : s.data.toList.getD i 0 = s[i]'h := by
  have hl : i < s.data.toList.length := h
  simp only [List.getD, List.getElem?_eq_getElem hl, Option.getD_some]
  rfl
theorem str_sub (s : ByteArray) (i j : Nat) : (s.extract i j).data.toList = sub s.data.toList i j := by
  unfold sub
  rw [ByteArray.data_extract, Array.toList_extract, List.extract_eq_take_drop]
theorem str_sub' (s : ByteArray) (i j : Nat) : (⟨(sub s.data.toList i j).toArray⟩ : ByteArray) = s.extract i j := by
  rw [← str_sub]
theorem str_drop (s : ByteArray) (i : Nat) : (⟨(s.data.toList.drop i).toArray⟩ : ByteArray) = s.extract i s.size := by
  apply ByteArray.ext
  apply Array.toList_inj.1
  rw [ByteArray.data_extract, Array.toList_extract, List.extract_eq_take_drop]
  exact (List.take_of_length_le (by simp)).symm
theorem num_ext (s : ByteArray) (i j : Nat) : numL (s.extract i j).data.toList = numL (sub s.data.toList i j) := by rw [str_sub]
theorem decV_done (s d : Nat) (t : ByteArray) (h20 : 20 ≤ t.size) (h : decE s d t.data.toList = 0) {u1 u2 u3 u4 u5 u6 n : Nat} (h1 : u1 = numL (t.extract 0 2).data.toList % 65536) (h2 : u2 = numL (t.extract 2 4).data.toList % 65536) (h3 : u3 = numL (t.extract 4 8).data.toList)
    (h4 : u4 = numL (t.extract 8 12).data.toList) (h5 : u5 = numL (t.extract 14 16).data.toList % 65536) (h6 : u6 = numL (t.extract 18 20).data.toList % 65536) (hn : n = (t[12]'(by omega)).toNat / 16 * 4) :
    decV s d t.data.toList = .tuple #[.agg #[.int .u16 (u1 : Int), .int .u16 (u2 : Int), .int .u32 (u3 : Int), .int .u32 (u4 : Int), .int .u8 ((t[13]'(by omega)).toNat : Int), .int .u16 (u5 : Int), .int .u16 (u6 : Int), .string (t.extract 20 n)], .string (t.extract n t.size), .int .i64 0] := by
  rw [decV_ok h]
  have e : endN t.data.toList = n := by
    unfold endN
    rw [at0_get t 12 (by omega), hn]
  unfold decH TCPh.cells
  simp only [getD_get t 13 (by omega)]
  rw [e, str_drop, str_sub', h1, h2, h3, h4, h5, h6, num_ext, num_ext, num_ext, num_ext, num_ext, num_ext]
theorem below_set8 {B x : Nat} {w W : World} (h : Below B w W) (hx : B ≤ x) (v0 v1 v2 v3 v4 v5 v6 v7 : Value) :
    Below B w ((((((((W.setCell ⟨x, 0, none⟩ v0).setCell ⟨x, 1, none⟩ v1).setCell ⟨x, 2, none⟩ v2).setCell ⟨x, 3, none⟩ v3).setCell ⟨x, 4, none⟩ v4).setCell ⟨x, 5, none⟩ v5).setCell ⟨x, 6, none⟩ v6).setCell ⟨x, 7, none⟩ v7) :=
  ((((((((h.setCell hx v0).setCell hx v1).setCell hx v2).setCell hx v3).setCell hx v4).setCell hx v5).setCell hx v6).setCell hx v7)
theorem blk_set8 {W : World} {x : Nat} {T : TypeId} {a0 a1 a2 a3 a4 a5 a6 a7 : Value} (h : Blk W x T #[a0, a1, a2, a3, a4, a5, a6, a7]) (v0 v1 v2 v3 v4 v5 v6 v7 : Value) :
    Blk ((((((((W.setCell ⟨x, 0, none⟩ v0).setCell ⟨x, 1, none⟩ v1).setCell ⟨x, 2, none⟩ v2).setCell ⟨x, 3, none⟩ v3).setCell ⟨x, 4, none⟩ v4).setCell ⟨x, 5, none⟩ v5).setCell ⟨x, 6, none⟩ v6).setCell ⟨x, 7, none⟩ v7) x T #[v0, v1, v2, v3, v4, v5, v6, v7] := by
  have := ((((((((h.set_ 0 v0).set_ 1 v1).set_ 2 v2).set_ 3 v3).set_ 4 v4).set_ 5 v5).set_ 6 v6).set_ 7 v7)
  simpa using this
end Go.Proofs.Ytpmcdpbolcmhgaa
