/- Contracts of layer 6 (tcp): Decode, of what is too short, or too long. -/
import Derived.Test.YtpmcdpbolcmhgaaTcpDecPlain
set_option linter.unusedVariables false
set_option linter.unusedSimpArgs false
namespace Go.Proofs.Ytpmcdpbolcmhgaa
open Go.RowKit Go.BigFrame

set_option maxHeartbeats 1000000 in
theorem dec_short (s d : Nat) (t : ByteArray) (w : World) (h20 : t.size < 20) :
    Calls Try.prog 13 #[.int .u32 (s : Int), .int .u32 (d : Int), .string t] w fun e w' => e = .returned (decV s d t.data.toList) ∧ Below w.heap.size w w' := by
  have hE : decE s d t.data.toList = 50 := by
    unfold decE
    rw [if_pos (show t.data.toList.length < 20 from h20)]
  have hV := decV_bad hE (by decide)
  have HV := Lib.hid hV
  clear hV hE
  have i1 : (t.size : Int) < 20 := by omega
  go_enter Try.func13, Try.ntmps13
  go_wp2
  rw [HV.out]
  exact bodyPost_ret (v := badV 50) (by simp [results, Try.results13, go_sem, badV, zeroC]) rfl ⟨rfl, by first | exact ((Below.refl _ _).alloc (Nat.le_refl _) _) | exact Below.alloc (Below.refl _ _) (by simp) _⟩
set_option maxHeartbeats 1000000 in
theorem dec_long (s d : Nat) (t : ByteArray) (w : World) (h : 65515 < t.size) (hs : t.size ≤ 131072) :
    Calls Try.prog 13 #[.int .u32 (s : Int), .int .u32 (d : Int), .string t] w fun e w' => e = .returned (decV s d t.data.toList) ∧ Below w.heap.size w w' := by
  have hE : decE s d t.data.toList = 4 := by
    have hl : t.data.toList.length = t.size := rfl
    unfold decE
    rw [if_neg (by omega), if_pos (by omega)]
  have hV := decV_bad hE (by decide)
  have HV := Lib.hid hV
  clear hV hE
  have i1 : (65515 : Int) < (t.size : Int) := by omega
  have i2 : (t.size : Int) ≤ 131072 := by omega
  go_enter Try.func13, Try.ntmps13
  go_wp2
  rw [HV.out]
  exact bodyPost_ret (v := badV 4) (by simp [results, Try.results13, go_sem, badV, zeroC]) rfl ⟨rfl, by first | exact ((Below.refl _ _).alloc (Nat.le_refl _) _) | exact Below.alloc (Below.refl _ _) (by simp) _⟩
set_option maxHeartbeats 1000000 in
theorem ref_dec_short (s d : Nat) (t : ByteArray) (w : World) (h20 : t.size < 20) :
    Calls Try.prog 14 #[.int .u32 (s : Int), .int .u32 (d : Int), .string t] w fun e w' => e = .returned (decV s d t.data.toList) ∧ Below w.heap.size w w' := by
  have hE : decE s d t.data.toList = 50 := by
    unfold decE
    rw [if_pos (show t.data.toList.length < 20 from h20)]
  have hV := decV_bad hE (by decide)
  have HV := Lib.hid hV
  clear hV hE
  have i1 : (t.size : Int) < 20 := by omega
  go_enter Try.func14, Try.ntmps14
  go_wp2
  rw [HV.out]
  exact bodyPost_ret (v := badV 50) (by simp [results, Try.results14, go_sem, badV, zeroC]) rfl ⟨rfl, by first | exact ((Below.refl _ _).alloc (Nat.le_refl _) _) | exact Below.alloc (Below.refl _ _) (by simp) _⟩
set_option maxHeartbeats 1000000 in
theorem ref_dec_long (s d : Nat) (t : ByteArray) (w : World) (h : 65515 < t.size) (hs : t.size ≤ 131072) :
    Calls Try.prog 14 #[.int .u32 (s : Int), .int .u32 (d : Int), .string t] w fun e w' => e = .returned (decV s d t.data.toList) ∧ Below w.heap.size w w' := by
  have hE : decE s d t.data.toList = 4 := by
    have hl : t.data.toList.length = t.size := rfl
    unfold decE
    rw [if_neg (by omega), if_pos (by omega)]
  have hV := decV_bad hE (by decide)
  have HV := Lib.hid hV
  clear hV hE
  have i1 : (65515 : Int) < (t.size : Int) := by omega
  have i2 : (t.size : Int) ≤ 131072 := by omega
  go_enter Try.func14, Try.ntmps14
  go_wp2
  rw [HV.out]
  exact bodyPost_ret (v := badV 4) (by simp [results, Try.results14, go_sem, badV, zeroC]) rfl ⟨rfl, by first | exact ((Below.refl _ _).alloc (Nat.le_refl _) _) | exact Below.alloc (Below.refl _ _) (by simp) _⟩
end Go.Proofs.Ytpmcdpbolcmhgaa
