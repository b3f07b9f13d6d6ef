/- PLAIN: what a packet's bytes say (layer 5). -/
import Derived.Test.YtbfmgdcnpefciaaIpRefEnc
set_option linter.unusedVariables false
set_option linter.unusedSimpArgs false
namespace Go.Proofs.Ytbfmgdcnpefciaa
open Go.RowKit

def at0 (l : List UInt8) (i : Nat) : Nat := (l.getD i 0).toNat
/-- what is wrong with bytes (0: nothing) -/
def decE (l : List UInt8) : Nat :=
  if l.length < 20 then 50 else if at0 l 0 / 16 ≠ 4 then 51 else if at0 l 0 % 16 ≠ 5 then 52 else if numL ((l.drop 2).take 2) ≠ l.length then 53
  else if ofL (l.take 20) ≠ 0 then 55 else if (at0 l 6 ≠ 0 ∧ at0 l 6 ≠ 64) ∨ at0 l 7 ≠ 0 then 54 else 0
def decH (l : List UInt8) : IPh := ⟨numL ((l.drop 12).take 4), numL ((l.drop 16).take 4), l.getD 9 0, l.getD 8 0, l.getD 1 0, numL ((l.drop 4).take 2) % 65536, at0 l 6 == 64⟩
def zeroC : Array Value := #[.int .u32 0, .int .u32 0, .int .u8 0, .int .u8 0, .int .u8 0, .int .u16 0, .bool false]
def badV (e : Nat) : Value := .tuple #[.agg zeroC, .string ⟨#[]⟩, .int .i64 (e : Int)]
def decV (l : List UInt8) : Value := if decE l = 0 then .tuple #[.agg (decH l).cells, .string ⟨(l.drop 20).toArray⟩, .int .i64 0] else badV (decE l)
theorem decV_bad {l : List UInt8} {e : Nat} (h : decE l = e) (h0 : e ≠ 0) : decV l = badV e := by
  unfold decV
  rw [h, if_neg h0]
theorem decV_ok {l : List UInt8} (h : decE l = 0) : decV l = .tuple #[.agg (decH l).cells, .string ⟨(l.drop 20).toArray⟩, .int .i64 0] := by
  unfold decV
  rw [if_pos h]
theorem at0_get (s : ByteArray) (i : Nat) (h : i < s.size) : at0 s.data.toList i = (s[i]'h).toNat := by
  unfold at0
  have hl : i < s.data.toList.length := h
  simp only [List.getD, List.getElem?_eq_getElem hl, Option.getD_some]
  rfl
theorem getD_get (s : ByteArray) (i : Nat) (h : i < s.size) : s.data.toList.getD i 0 = s[i]'h := by
  have hl : i < s.data.toList.length := h
  simp only [List.getD, List.getElem?_eq_getElem hl, Option.getD_some]
  rfl
theorem andNot64 : ∀ c : UInt8, (bits .andNot .u8 (c.toNat : Int) 64 != 0) = decide (c.toNat ≠ 0 ∧ c.toNat ≠ 64) := by
  have h : ∀ n : Fin 256, (bits .andNot .u8 (n.val : Int) 64 != 0) = decide (n.val ≠ 0 ∧ n.val ≠ 64) := by decide +kernel
  intro c
  exact h ⟨c.toNat, c.toNat_lt⟩
theorem decE_of (s : ByteArray) (h20 : 20 ≤ s.size) {b0 b1 b2 b3 b4 ok : Bool} (e0 : (((s[0]'(by omega)).toNat : Int) / 16 != 4) = b0) (e1 : (((s[0]'(by omega)).toNat : Int) % 16 != 5) = b1) {nl : Nat} (hnl : nl = numL ((s.data.toList.drop 2).take 2)) (e2 : ((nl : Int) != (s.size : Int)) = b2)
    (hok : ok = ((ofL (s.data.toList.take 20) : Int) == 0)) (e3 : (bits .andNot .u8 ((s[6]'(by omega)).toNat : Int) 64 != 0) = b3) (e4 : (((s[7]'(by omega)).toNat : Int) != 0) = b4) :
    decE s.data.toList = if b0 = true then 51 else if b1 = true then 52 else if b2 = true then 53 else if ok = false then 55 else if b3 = true ∨ b4 = true then 54 else 0 := by
  have hl : s.data.toList.length = s.size := rfl
  unfold decE
  rw [at0_get s 0 (by omega), at0_get s 6 (by omega), at0_get s 7 (by omega), if_neg (by omega)]
  rw [andNot64] at e3
  have p0 : (b0 = true) = ((s[0]'(by omega)).toNat / 16 ≠ 4) := by rw [← e0, bne_iff_ne, eq_iff_iff]; omega
  have p1 : (b1 = true) = ((s[0]'(by omega)).toNat % 16 ≠ 5) := by rw [← e1, bne_iff_ne, eq_iff_iff]; omega
  have p2 : (b2 = true) = (numL ((s.data.toList.drop 2).take 2) ≠ s.data.toList.length) := by rw [← e2, ← hnl, bne_iff_ne, eq_iff_iff, hl]; omega
  have p3 : (ok = false) = (ofL (s.data.toList.take 20) ≠ 0) := by rw [hok, beq_eq_false_iff_ne, eq_iff_iff]; omega
  have p4 : (b3 = true ∨ b4 = true) = (((s[6]'(by omega)).toNat ≠ 0 ∧ (s[6]'(by omega)).toNat ≠ 64) ∨ (s[7]'(by omega)).toNat ≠ 0) := by
    rw [← e3, ← e4, bne_iff_ne, decide_eq_true_iff, eq_iff_iff]
    omega
  simp only [p0, p1, p2, p3, p4]
theorem below_set7 {B x : Nat} {w W : World} (h : Below B w W) (hx : B ≤ x) (v0 v1 v2 v3 v4 v5 v6 : Value) :
    Below B w (((((((W.setCell ⟨x, 0, none⟩ v0).setCell ⟨x, 1, none⟩ v1).setCell ⟨x, 2, none⟩ v2).setCell ⟨x, 3, none⟩ v3).setCell ⟨x, 4, none⟩ v4).setCell ⟨x, 5, none⟩ v5).setCell ⟨x, 6, none⟩ v6) :=
  ((((((h.setCell hx v0).setCell hx v1).setCell hx v2).setCell hx v3).setCell hx v4).setCell hx v5).setCell hx v6
theorem blk_set7 {W : World} {x : Nat} {T : TypeId} {a0 a1 a2 a3 a4 a5 a6 : Value} (h : Blk W x T #[a0, a1, a2, a3, a4, a5, a6]) (v0 v1 v2 v3 v4 v5 v6 : Value) :
    Blk (((((((W.setCell ⟨x, 0, none⟩ v0).setCell ⟨x, 1, none⟩ v1).setCell ⟨x, 2, none⟩ v2).setCell ⟨x, 3, none⟩ v3).setCell ⟨x, 4, none⟩ v4).setCell ⟨x, 5, none⟩ v5).setCell ⟨x, 6, none⟩ v6) x T #[v0, v1, v2, v3, v4, v5, v6] := by
  have := ((((((h.set_ 0 v0).set_ 1 v1).set_ 2 v2).set_ 3 v3).set_ 4 v4).set_ 5 v5).set_ 6 v6
  simpa using this
theorem num_ext (s : ByteArray) (i j : Nat) : numL (s.extract i j).data.toList = numL ((s.data.toList.drop i).take (j - i)) := by
  rw [ByteArray.data_extract, Array.toList_extract, List.extract_eq_take_drop]
theorem str_drop (s : ByteArray) (i : Nat) : (⟨(s.data.toList.drop i).toArray⟩ : ByteArray) = s.extract i s.size := by
  apply ByteArray.ext
  apply Array.toList_inj.1
  rw [ByteArray.data_extract, Array.toList_extract, List.extract_eq_take_drop]
  exact (List.take_of_length_le (by simp)).symm
theorem decV_done (s : ByteArray) (h20 : 20 ≤ s.size) (h : decE s.data.toList = 0) {u1 u2 u3 : Nat} (h1 : u1 = numL (s.extract 4 6).data.toList) (h2 : u2 = numL (s.extract 12 16).data.toList) (h3 : u3 = numL (s.extract 16 20).data.toList) {df : Bool} (hdf : (((s[6]'(by omega)).toNat : Int) == 64) = df) :
    decV s.data.toList = .tuple #[.agg #[.int .u32 (u2 : Int), .int .u32 (u3 : Int), .int .u8 ((s[9]'(by omega)).toNat : Int), .int .u8 ((s[8]'(by omega)).toNat : Int), .int .u8 ((s[1]'(by omega)).toNat : Int), .int .u16 ((u1 : Int) % 65536), .bool df], .string (s.extract 20 s.size), .int .i64 0] := by
  rw [decV_ok h, str_drop]
  unfold decH IPh.cells
  simp only [getD_get s 9 (by omega), getD_get s 8 (by omega), getD_get s 1 (by omega), at0_get s 6 (by omega)]
  rw [h1, h2, h3, num_ext, num_ext, num_ext]
  have e : ((s[6]'(by omega)).toNat == 64) = df := by
    rw [← hdf, Bool.eq_iff_iff, beq_iff_eq, beq_iff_eq]
    omega
  rw [e]
  simp
theorem dsOf {wr W : World} {x : Nat} (hx : Blk wr x 48 zeroC) (hb : OldS wr W) : OldS wr W ∧ (∀ i, W.frozen? ⟨x, i, none⟩ = false) ∧ W.cell? ⟨x, 0, none⟩ = some (.int .u32 0) ∧ W.cell? ⟨x, 1, none⟩ = some (.int .u32 0) ∧ W.cell? ⟨x, 2, none⟩ = some (.int .u8 0) ∧ W.cell? ⟨x, 3, none⟩ = some (.int .u8 0) ∧ W.cell? ⟨x, 4, none⟩ = some (.int .u8 0) ∧ W.cell? ⟨x, 5, none⟩ = some (.int .u16 0) ∧ W.cell? ⟨x, 6, none⟩ = some (.bool false) := by
  have h := hx.below hb hx.lt
  exact ⟨hb, h.frozen, h.cell 0, h.cell 1, h.cell 2, h.cell 3, h.cell 4, h.cell 5, h.cell 6⟩
end Go.Proofs.Ytbfmgdcnpefciaa
