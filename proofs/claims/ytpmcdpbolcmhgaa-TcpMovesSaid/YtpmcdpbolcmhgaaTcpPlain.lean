/- PLAIN: heads of segments (layer 6). -/
import Derived.Test.YtpmcdpbolcmhgaaTcp
set_option linter.unusedVariables false
set_option linter.unusedSimpArgs false
namespace Go.Proofs.Ytpmcdpbolcmhgaa
open Go.RowKit

theorem wordsL_app : ∀ (a b : List UInt8), a.length % 2 = 0 → wordsL (a ++ b) = wordsL a ++ wordsL b
  | [], b, _ => rfl
  | [a], b, h => by simp at h
  | a :: c :: t, b, h => by
    have := wordsL_app t b (by simp only [List.length_cons] at h; omega)
    simp only [List.cons_append, wordsL, this]
/-- two zeroes in a text turn no checksum -/
theorem ofL_zero (a b : List UInt8) (h : a.length % 2 = 0) : ofL (a ++ ([0, 0] ++ b)) = ofL (a ++ b) := by
  unfold ofL
  rw [wordsL_app _ _ h, wordsL_app _ _ h]
  have : wordsL ([0, 0] ++ b) = 0 :: wordsL b := by simp [wordsL]
  rw [this, List.sum_append, List.sum_append, List.sum_cons, Nat.zero_add]

/-- a head -/
structure TCPh where
  src : Nat
  dst : Nat
  seq : Nat
  ack : Nat
  flags : UInt8
  window : Nat
  urgent : Nat
  opts : ByteArray
def TCPh.ok (h : TCPh) : Prop := h.src < 65536 ∧ h.dst < 65536 ∧ h.seq < 4294967296 ∧ h.ack < 4294967296 ∧ h.window < 65536 ∧ h.urgent < 65536
def TCPh.cells (h : TCPh) : Array Value := #[.int .u16 (h.src : Int), .int .u16 (h.dst : Int), .int .u32 (h.seq : Int), .int .u32 (h.ack : Int), .int .u8 (h.flags.toNat : Int), .int .u16 (h.window : Int), .int .u16 (h.urgent : Int), .string h.opts]
/-- what a sum is of ahead of a segment -/
def aheadL (s d n : Nat) : List UInt8 := be4 s ++ be4 d ++ [0, 6] ++ be2 n
/-- the byte which says how long a head is -/
def offB (m : Nat) : UInt8 := UInt8.ofNat (m / 4 * 16)
def frontL (h : TCPh) : List UInt8 := be2 h.src ++ be2 h.dst ++ be4 h.seq ++ be4 h.ack ++ [offB (20 + h.opts.size), h.flags] ++ be2 h.window
def backL (h : TCPh) (data : List UInt8) : List UInt8 := be2 h.urgent ++ h.opts.data.toList ++ data
/-- the segment with a checksum -/
def rawL (h : TCPh) (data : List UInt8) (s : Nat) : List UInt8 := frontL h ++ be2 s ++ backL h data
def sumL (s d : Nat) (h : TCPh) (data : List UInt8) : Nat := ofL (aheadL s d (20 + h.opts.size + data.length) ++ frontL h ++ backL h data)
def encL (s d : Nat) (h : TCPh) (data : List UInt8) : List UInt8 := rawL h data (sumL s d h data)
theorem aheadL_length (s d n : Nat) : (aheadL s d n).length = 12 := rfl
theorem frontL_length (h : TCPh) : (frontL h).length = 16 := rfl
theorem backL_length (h : TCPh) (data : List UInt8) : (backL h data).length = 2 + h.opts.size + data.length := by
  unfold backL
  rw [List.length_append, List.length_append, Array.length_toList]
  rfl
theorem rawL_length (h : TCPh) (data : List UInt8) (s : Nat) : (rawL h data s).length = 20 + h.opts.size + data.length := by
  unfold rawL
  rw [List.length_append, List.length_append, backL_length, frontL_length, show (be2 s).length = 2 from rfl]
  omega
theorem sumL_lt (s d : Nat) (h : TCPh) (data : List UInt8) : sumL s d h data < 65536 := by
  have := ofL_le (aheadL s d (20 + h.opts.size + data.length) ++ frontL h ++ backL h data)
  unfold sumL; omega
theorem sumL_raw (s d : Nat) (h : TCPh) (data : List UInt8) : ofL (aheadL s d (20 + h.opts.size + data.length) ++ rawL h data 0) = sumL s d h data := by
  unfold sumL rawL
  have : be2 0 = [0, 0] := rfl
  rw [this, List.append_assoc, ← List.append_assoc, ofL_zero _ _ (by rw [List.length_append, aheadL_length, frontL_length])]
theorem str_cat (a b : List UInt8) : (⟨a.toArray⟩ : ByteArray) ++ ⟨b.toArray⟩ = ⟨(a ++ b).toArray⟩ := by
  apply ByteArray.ext
  rw [ByteArray.data_append]
  simp
theorem str_of (s : ByteArray) : s = ⟨s.data.toList.toArray⟩ := by simp
theorem conv_two (a b : UInt8) (x y : Int) (hx : x = (a.toNat : Int)) (hy : y = (b.toNat : Int)) (W : World) (g c : Nat) (h0 : W.cell? ⟨g, 0, none⟩ = some (.int .u8 x)) (h1 : W.cell? ⟨g, 1, none⟩ = some (.int .u8 y)) :
    (convert 38 9 (.slice (some ⟨g, 0, none⟩) 2 c)).run Try.prog W = .ok (.string ⟨#[a, b]⟩) W := by
  subst hx hy
  exact run_bytes_back W ⟨g, 0, none⟩ 2 c [a, b] rfl (by
    intro j hj
    rw [add_plain, Nat.zero_add]
    match j, hj with
    | 0, _ => exact h0
    | 1, _ => exact h1)
end Go.Proofs.Ytpmcdpbolcmhgaa
