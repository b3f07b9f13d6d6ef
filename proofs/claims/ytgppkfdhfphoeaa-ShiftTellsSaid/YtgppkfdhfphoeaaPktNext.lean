/- Layer 8 (pkt): where a segment ends; transomlaw08.Heavy. -/
import Derived.Test.YtgppkfdhfphoeaaShiftSeg
set_option linter.unusedVariables false
set_option linter.unusedSimpArgs false
namespace Go.Proofs.Ytgppkfdhfphoeaa
open Go.RowKit Go.BigFrame

def nextV (s4 : Int) (f k : Nat) : Int := (s4 + (k : Int) + (ones3 (f % 4) : Int)) % 4294967296
set_option maxRecDepth 100000 in
set_option maxHeartbeats 4000000 in
theorem next_any (w : World) (s0 s1 s2 s3 s4 s5 : Int) (f : Nat) (s7 s8 s9 : Int) (s10 s12 : Bool) (A : Option Addr) (n c : Nat) (s13 s14 : Int) (d : ByteArray) (hf : f < 256) (hd : d.size ≤ maxLen) :
    Calls Try.prog 11 #[.agg #[.int .u32 s0, .int .u16 s1, .int .u32 s2, .int .u16 s3, .int .u32 s4, .int .u32 s5, .int .u8 (f : Int), .int .u16 s7, .int .u16 s8, .int .i64 s9, .bool s10, .slice A n c, .bool s12, .int .u32 s13, .int .u32 s14, .string d]] w fun e w' => e = .returned (.int .u32 (nextV s4 f d.size)) ∧ Below w.heap.size w w' := by
  have h3 : bits .and .u8 (f : Int) 3 = ((f % 4 : Nat) : Int) := by
    have := u8_and_nat f 3 hf (by decide)
    rw [Nat.and_two_pow_sub_one_eq_mod f 2] at this
    exact this
  have ho := fun W => ones_any (f % 4) (by omega) W
  obtain ⟨k, hk⟩ : ∃ k : Int, k = ((f % 4 : Nat) : Int) := ⟨_, rfl⟩
  obtain ⟨q, hq⟩ : ∃ q : Int, q = (ones3 (f % 4) : Int) := ⟨_, rfl⟩
  have hV : nextV s4 f d.size = ((s4 + (d.size : Int)) % 4294967296 + q % 4294967296) % 4294967296 := by
    unfold nextV
    rw [← hq]
    omega
  rw [← hk] at h3 ho
  rw [← hq] at ho
  rw [hV]
  have hz : (d.size : Int) ≤ 9223372036854775807 := by unfold maxLen at hd; omega
  have hz0 : (0 : Int) ≤ (d.size : Int) := by omega
  have Ho := Lib.hid ho
  have hb0 : Below w.heap.size w w := Below.refl _ _
  have HB := Lib.hid hb0
  clear ho hk hq hV hd hb0
  generalize (f : Int) = F at *
  clear hf
  go_enter Try.func11, Try.ntmps11
  go_upto_region 1 with fail
  have hs := Blk.new w 39 #[.int .u32 s0, .int .u16 s1, .int .u32 s2, .int .u16 s3, .int .u32 s4, .int .u32 s5, .int .u8 F, .int .u16 s7, .int .u16 s8, .int .i64 s9, .bool s10, .slice A n c, .bool s12, .int .u32 s13, .int .u32 s14, .string d]
  have hB := HB.out.alloc HB.out.size (.cells #[.int .u32 s0, .int .u16 s1, .int .u32 s2, .int .u16 s3, .int .u32 s4, .int .u32 s5, .int .u8 F, .int .u16 s7, .int .u16 s8, .int .i64 s9, .bool s10, .slice A n c, .bool s12, .int .u32 s13, .int .u32 s14, .string d] 39)
  clear HB
  obtain ⟨gs, hge⟩ : ∃ g, g = w.heap.size := ⟨_, rfl⟩
  rw [← hge] at hs ⊢
  clear hge
  generalize w.alloc _ = w1 at *
  have Hs := Lib.hid hs
  clear hs
  have HB := Lib.hid hB
  clear hB
  have c4 := Hs.out.cell 4
  have c6 := Hs.out.cell 6
  have c15 := Hs.out.cell 15
  simp at c4 c6 c15
  have hBn : ∀ m, Below w.heap.size w (w1.drewN m) := below_drewN HB.out
  have HBn := Lib.hid hBn
  clear hBn
  go_quiet (first | (go_at_call 21; exact quiet_left (Ho.out _)))
  go_wp2
  go_ret
  exact ⟨rfl, HBn.out _⟩
set_option maxHeartbeats 1000000 in
theorem heavy_any (w : World) (s0 s1 s2 s3 s4 s5 s6 s7 s8 s9 : Int) (s10 s12 : Bool) (A : Option Addr) (n c : Nat) (s13 s14 : Int) (d : ByteArray) (hn : n ≤ maxLen) (hd : d.size ≤ maxLen) :
    Calls Try.prog 8 #[.agg #[.int .u32 s0, .int .u16 s1, .int .u32 s2, .int .u16 s3, .int .u32 s4, .int .u32 s5, .int .u8 s6, .int .u16 s7, .int .u16 s8, .int .i64 s9, .bool s10, .slice A n c, .bool s12, .int .u32 s13, .int .u32 s14, .string d]] w fun e w' => e = .returned (.bool (decide ((d.size : Int) > 4096) || decide ((n : Int) > 100))) ∧ Below w.heap.size w w' := by
  have hz : (d.size : Int) ≤ 9223372036854775807 := by unfold maxLen at hd; omega
  have hm : (n : Int) ≤ 9223372036854775807 := by unfold maxLen at hn; omega
  have hb0 : Below w.heap.size w w := Below.refl _ _
  have HB := Lib.hid hb0
  clear hb0 hn hd
  go_enter Try.func8, Try.ntmps8
  go_upto_region 1 with fail
  have hs := Blk.new w 39 #[.int .u32 s0, .int .u16 s1, .int .u32 s2, .int .u16 s3, .int .u32 s4, .int .u32 s5, .int .u8 s6, .int .u16 s7, .int .u16 s8, .int .i64 s9, .bool s10, .slice A n c, .bool s12, .int .u32 s13, .int .u32 s14, .string d]
  have hB := HB.out.alloc HB.out.size (.cells #[.int .u32 s0, .int .u16 s1, .int .u32 s2, .int .u16 s3, .int .u32 s4, .int .u32 s5, .int .u8 s6, .int .u16 s7, .int .u16 s8, .int .i64 s9, .bool s10, .slice A n c, .bool s12, .int .u32 s13, .int .u32 s14, .string d] 39)
  clear HB
  obtain ⟨gs, hge⟩ : ∃ g, g = w.heap.size := ⟨_, rfl⟩
  rw [← hge] at hs ⊢
  clear hge
  generalize w.alloc _ = w1 at *
  have Hs := Lib.hid hs
  clear hs
  have HB := Lib.hid hB
  clear hB
  have c15 := Hs.out.cell 15
  have c11 := Hs.out.cell 11
  simp at c15 c11
  by_cases h : (d.size : Int) > 4096
  · go_wp2
    go_ret
    exact ⟨ret_bool (by simp; omega), HB.out⟩
  · go_wp2
    go_ret
    exact ⟨ret_bool (by simp; omega), HB.out⟩
end Go.Proofs.Ytgppkfdhfphoeaa
