/- Contracts of layer 6 (tcp): the document's Sum. -/
import Derived.Test.YtpmcdpbolcmhgaaTcpRefEnc
set_option linter.unusedVariables false
set_option linter.unusedSimpArgs false
namespace Go.Proofs.Ytpmcdpbolcmhgaa
open Go.RowKit Go.BigFrame

set_option maxHeartbeats 2000000 in
theorem ref_sum (s d : Nat) (t : ByteArray) (w : World) (hs : s < 4294967296) (hd : d < 4294967296) (ht : t.size < 65536) :
    Calls Try.prog 30 #[.int .u32 (s : Int), .int .u32 (d : Int), .string t] w fun e w' => e = .returned (.int .u16 ((ofL (aheadL s d t.size ++ t.data.toList) : Nat) : Int)) ∧ Below w.heap.size w w' := by
  obtain ⟨m, hm⟩ : ∃ m, m = t.size := ⟨_, rfl⟩
  have e1 : (t.size : Int) = (m : Int) := by omega
  have hm2 : m < 65536 := by omega
  have z2 : ∀ n, (be2 n).length = 2 := fun _ => rfl
  have z4 : ∀ n, (be4 n).length = 4 := fun _ => rfl
  obtain ⟨X, hX⟩ : ∃ X : ByteArray, X = (⟨(be4 s).toArray⟩ : ByteArray) ++ ⟨(be4 d).toArray⟩ ++ ⟨#[0, 6]⟩ ++ ⟨(be2 m).toArray⟩ ++ t := ⟨_, rfl⟩
  have eX : X = ⟨(aheadL s d m ++ t.data.toList).toArray⟩ := by
    rw [hX]
    conv => lhs; rw [str_of t]
    rw [show (⟨#[0, 6]⟩ : ByteArray) = ⟨[0, 6].toArray⟩ from rfl]
    simp only [str_cat]
    rfl
  have b := fun W => ref_of X W (by rw [eX]; show (aheadL s d m ++ t.data.toList).length ≤ _; rw [List.length_append, aheadL_length, Array.length_toList]; show 12 + t.size ≤ 1099511627776; omega)
  rw [← hm]
  have b' : ∀ W : World, Calls Try.prog 49 #[.string ((⟨(be4 s).toArray⟩ : ByteArray) ++ ⟨(be4 d).toArray⟩ ++ ⟨#[0, 6]⟩ ++ ⟨(be2 m).toArray⟩ ++ t)] W fun e w' => e = .returned (.int .u16 ((ofL (aheadL s d m ++ t.data.toList) : Nat) : Int)) ∧ W = w' := by
    intro W
    have := b W
    rw [show ofL X.data.toList = ofL (aheadL s d m ++ t.data.toList) by rw [eX]] at this
    rw [← hX]
    exact this
  clear b
  have B' := Lib.hid b'
  clear b'
  have HX := Lib.hid hX
  clear hX
  have Hm := Lib.hid hm
  clear hm
  have EX := Lib.hid eX
  clear eX
  go_enter Try.func30, Try.ntmps30
  go_wp2_with fail
  with_reducible refine (ref_four s _ hs).mono ?_
  rintro e w1 ⟨rfl, hb1⟩
  go_wp2_with fail
  with_reducible refine (ref_four d _ hd).mono ?_
  rintro e w2 ⟨rfl, hb2⟩
  go_wp2_with fail
  with_reducible refine (ref_bytes m _ hm2).mono ?_
  rintro e w3 ⟨rfl, hb3⟩
  go_wp2_with fail
  with_reducible refine (B'.out _).mono ?_
  rintro e w4 ⟨rfl, rfl⟩
  go_wp2
  go_ret
  exact ⟨rfl, hb1.trans ((hb2.trans (hb3.mono hb2.size)).mono hb1.size)⟩
end Go.Proofs.Ytpmcdpbolcmhgaa
