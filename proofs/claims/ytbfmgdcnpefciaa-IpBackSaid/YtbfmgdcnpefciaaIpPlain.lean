/- PLAIN: heads of packets (layer 5). -/
import Derived.Test.YtbfmgdcnpefciaaIp
set_option linter.unusedVariables false
set_option linter.unusedSimpArgs false
namespace Go.Proofs.Ytbfmgdcnpefciaa
open Go.RowKit

theorem wordsL_app : ∀ (a b : List UInt8), a.length % 2 = 0 → wordsL (a ++ b) = wordsL a ++ wordsL b
  | [], b, _ => rfl
  | [a], b, h => by simp at h
  | a :: c :: t, b, h => by
    have := wordsL_app t b (by simp only [List.length_cons] at h; omega)
    simp only [List.cons_append, wordsL, this]
/-- two zeroes in a text turn no checksum -/
theorem ofL_zero (a b : List UInt8) (h : a.length % 2 = 0) : ofL (a ++ ([0, 0] ++ b)) = ofL (a ++ b) := by
  unfold ofL
  rw [wordsL_app _ _ h, wordsL_app _ _ h]
  have : wordsL ([0, 0] ++ b) = 0 :: wordsL b := by simp [wordsL]
  rw [this, List.sum_append, List.sum_append, List.sum_cons, Nat.zero_add]

/-- a head -/
structure IPh where
  src : Nat
  dst : Nat
  proto : UInt8
  ttl : UInt8
  tos : UInt8
  id : Nat
  df : Bool
def IPh.ok (h : IPh) : Prop := h.src < 4294967296 ∧ h.dst < 4294967296 ∧ h.id < 65536
def IPh.cells (h : IPh) : Array Value := #[.int .u32 (h.src : Int), .int .u32 (h.dst : Int), (.int .u8 (h.proto.toNat : Int)), (.int .u8 (h.ttl.toNat : Int)), (.int .u8 (h.tos.toNat : Int)), .int .u16 (h.id : Int), .bool h.df]
def frontL (h : IPh) (n : Nat) : List UInt8 := [69, h.tos] ++ be2 n ++ be2 h.id ++ [if h.df then 64 else 0, 0, h.ttl, h.proto]
def backL (h : IPh) : List UInt8 := be4 h.src ++ be4 h.dst
def sumL (h : IPh) (n : Nat) : Nat := ofL (frontL h n ++ backL h)
def headL (h : IPh) (n s : Nat) : List UInt8 := frontL h n ++ be2 s ++ backL h
def encL (h : IPh) (load : List UInt8) : List UInt8 := headL h (20 + load.length) (sumL h (20 + load.length)) ++ load
theorem frontL_length (h : IPh) (n : Nat) : (frontL h n).length = 10 := rfl
theorem headL_length (h : IPh) (n s : Nat) : (headL h n s).length = 20 := rfl
theorem sumL_lt (h : IPh) (n : Nat) : sumL h n < 65536 := by have := ofL_le (frontL h n ++ backL h); unfold sumL; omega
theorem sumL_head (h : IPh) (n : Nat) : ofL (headL h n 0) = sumL h n := by
  unfold sumL headL
  have : be2 0 = [0, 0] := rfl
  rw [this, List.append_assoc, ofL_zero _ _ (by rw [frontL_length])]
end Go.Proofs.Ytbfmgdcnpefciaa
