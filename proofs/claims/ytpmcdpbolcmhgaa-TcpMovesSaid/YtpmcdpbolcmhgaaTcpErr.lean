/- Contracts of layer 6 (tcp): Encode, where it says what is wrong. -/
import Derived.Test.YtpmcdpbolcmhgaaTcpEnc
set_option linter.unusedVariables false
set_option linter.unusedSimpArgs false
namespace Go.Proofs.Ytpmcdpbolcmhgaa
open Go.RowKit

set_option maxHeartbeats 1000000 in
theorem enc_long (s d : Nat) (h : TCPh) (data : ByteArray) (w : World) (hm : h.opts.size % 4 = 0) (hm2 : h.opts.size ≤ 40) (hf : h.flags.toNat < 64) (hl : 65515 < 20 + h.opts.size + data.size) (hd : data.size ≤ 131072) :
    Calls Try.prog 11 #[.int .u32 (s : Int), .int .u32 (d : Int), .agg h.cells, .string data] w fun e w' => e = .returned (.tuple #[.string ⟨#[]⟩, .int .i64 4]) ∧ Below w.heap.size w w' := by
  obtain ⟨src, dst, seq, ack, flags, window, urgent, opts⟩ := h
  simp only at hm hm2 hf hl
  unfold TCPh.cells
  simp only
  obtain ⟨n, hn⟩ : ∃ n, n = 20 + opts.size := ⟨_, rfl⟩
  have e1 : (20 : Int) + (opts.size : Int) = (n : Int) := by omega
  obtain ⟨m, hmm⟩ : ∃ m, m = n + data.size := ⟨_, rfl⟩
  have e2 : (n : Int) + (data.size : Int) = (m : Int) := by omega
  have hm3 : m ≤ 200000 := by omega
  have i1 : (n : Int) % 4 = 0 := by omega
  have i2 : (opts.size : Int) ≤ 40 := by omega
  have i3 : (flags.toNat : Int) / 64 = 0 := by omega
  have i4 : (65515 : Int) < (m : Int) := by omega
  have Hn := Lib.hid hn
  clear hn
  have Hmm := Lib.hid hmm
  clear hmm
  go_enter Try.func11, Try.ntmps11
  go_wp2
  go_ret2
  exact ⟨rfl, (Below.refl _ _).alloc (Nat.le_refl _) _⟩
set_option maxHeartbeats 1000000 in
theorem enc_arg (s d : Nat) (h : TCPh) (data : ByteArray) (w : World) (hm : ¬ (h.opts.size % 4 = 0 ∧ h.opts.size ≤ 40 ∧ h.flags.toNat < 64)) (hd : h.opts.size ≤ 131072) :
    Calls Try.prog 11 #[.int .u32 (s : Int), .int .u32 (d : Int), .agg h.cells, .string data] w fun e w' => e = .returned (.tuple #[.string ⟨#[]⟩, .int .i64 2]) ∧ Below w.heap.size w w' := by
  obtain ⟨src, dst, seq, ack, flags, window, urgent, opts⟩ := h
  simp only at hm hd
  unfold TCPh.cells
  simp only
  obtain ⟨n, hn⟩ : ∃ n, n = 20 + opts.size := ⟨_, rfl⟩
  have e1 : (20 : Int) + (opts.size : Int) = (n : Int) := by omega
  have hn3 : n ≤ 131092 := by omega
  by_cases i1 : opts.size % 4 = 0
  · have i1 : (n : Int) % 4 = 0 := by omega
    by_cases i2 : opts.size ≤ 40
    · have i3 : ((flags.toNat : Int) / 64 != 0) = true := by rw [bne_iff_ne]; omega
      have i2 : (opts.size : Int) ≤ 40 := by omega
      have Hm := Lib.hid hm
      clear hm
      have Hn := Lib.hid hn
      clear hn
      go_enter Try.func11, Try.ntmps11
      go_wp2
      go_ret2
      exact ⟨rfl, (Below.refl _ _).alloc (Nat.le_refl _) _⟩
    · have i2 : (40 : Int) < (opts.size : Int) := by omega
      have Hm := Lib.hid hm
      clear hm
      have Hn := Lib.hid hn
      clear hn
      go_enter Try.func11, Try.ntmps11
      go_wp2
      go_ret2
      exact ⟨rfl, (Below.refl _ _).alloc (Nat.le_refl _) _⟩
  · have i1 : ((n : Int) % 4 != 0) = true := by rw [bne_iff_ne]; omega
    have Hm := Lib.hid hm
    clear hm
    have Hn := Lib.hid hn
    clear hn
    go_enter Try.func11, Try.ntmps11
    go_wp2
    go_ret2
    exact ⟨rfl, (Below.refl _ _).alloc (Nat.le_refl _) _⟩
end Go.Proofs.Ytpmcdpbolcmhgaa
