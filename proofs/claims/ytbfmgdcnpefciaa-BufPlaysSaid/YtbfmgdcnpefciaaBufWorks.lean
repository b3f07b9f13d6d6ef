/- The example of layer 15 (buf) that the document fixes: works answers true. Contracts with the answers written out. -/
import Derived.Test.YtbfmgdcnpefciaaBufDrop
set_option linter.unusedVariables false
set_option linter.unusedSimpArgs false
namespace Go.Proofs.Ytbfmgdcnpefciaa
open Go.RowKit

theorem new_v (f m : Nat) (F M : Int) (hF : (f : Int) = F) (hM : (m : Int) = M) (w : World) (hf : f ≤ 4611686018427387904) (hm : m ≤ 65536) :
    Calls Try.prog 13 #[.int .u64 F, .int .i64 M] w fun e w' => e = .returned (.tuple #[.pointer (some ⟨w.heap.size + 1, 0, none⟩), .int .i64 0]) ∧ BufAt w' (w.heap.size + 1) w.heap.size f (List.replicate m 0) [] ∧ Below w.heap.size w w' ∧ w'.heap.size = w.heap.size + 2 := by
  subst hF hM
  exact new_ok f m w hf hm
theorem put_v (w : World) (b r f : Nat) (R l : List UInt8) (s : ByteArray) (n : Nat) (V : Int) (l' : List UInt8) (h : BufAt w b r f R l) (hs : s.size ≤ maxLen) (hf : f ≤ 9223372036854775807) (hn : n = min s.size (R.length - l.length))
    (hV : (n : Int) = V) (hl : l ++ s.data.toList.take n = l') :
    Calls Try.prog 14 #[.pointer (some ⟨b, 0, none⟩), .string s] w fun e w' => e = .returned (.int .i64 V) ∧ (∃ R', R'.length = R.length ∧ BufAt w' b r f R' l') ∧ Kept2 b r w w' := by
  subst hV hl
  exact put_at w b r f R l s n h hs hf hn
theorem get_v (w : World) (b r f : Nat) (R l : List UInt8) (q : Nat) (n Q : Int) (v : ByteArray) (h : BufAt w b r f R l) (hf : f ≤ 9223372036854775807) (hq : q < 18446744073709551616) (n0 : -9223372036854775808 ≤ n) (n1 : n ≤ 9223372036854775807)
    (hQ : (q : Int) = Q) (hv : (⟨(getL f l q n).toArray⟩ : ByteArray) = v) :
    Calls Try.prog 16 #[.pointer (some ⟨b, 0, none⟩), .int .u64 Q, .int .i64 n] w fun e w' => e = .returned (.string v) ∧ Below w.heap.size w w' := by
  subst hQ hv
  exact get_at w b r f R l q n h hf hq n0 n1
theorem drop_v (w : World) (b r f : Nat) (R l : List UInt8) (q d : Nat) (Q V : Int) (f' : Nat) (l' : List UInt8) (h : BufAt w b r f R l) (hf : f ≤ 9223372036854775807) (hq : q < 18446744073709551616)
    (hQ : (q : Int) = Q) (hd : dropN f l q = d) (hV : (d : Int) = V) (hf' : f + d = f') (hl : l.drop d = l') :
    Calls Try.prog 18 #[.pointer (some ⟨b, 0, none⟩), .int .u64 Q] w fun e w' => e = .returned (.int .i64 V) ∧ BufAt w' b r f' R l' ∧ Kept2 b r w w' := by
  subst hQ hV hf' hl hd
  exact drop_at w b r f R l q h hf hq
theorem room_v (w : World) (b r f : Nat) (R l : List UInt8) (V : Int) (h : BufAt w b r f R l) (hV : ((R.length - l.length : Nat) : Int) = V) :
    Calls Try.prog 22 #[.pointer (some ⟨b, 0, none⟩)] w fun e w' => e = .returned (.int .i64 V) ∧ ∃ n, w' = w.drewN n := by
  subst hV
  exact room_at w b r f R l h
theorem to_v (w : World) (b r f : Nat) (R l : List UInt8) (V : Int) (h : BufAt w b r f R l) (hf : f + l.length < 18446744073709551616) (hV : ((f + l.length : Nat) : Int) = V) :
    Calls Try.prog 21 #[.pointer (some ⟨b, 0, none⟩)] w fun e w' => e = .returned (.int .u64 V) ∧ ∃ n, w' = w.drewN n := by
  subst hV
  exact to_at w b r f R l h hf
theorem from_v (w : World) (b r f : Nat) (R l : List UInt8) (V : Int) (h : BufAt w b r f R l) (hV : (f : Int) = V) :
    Calls Try.prog 20 #[.pointer (some ⟨b, 0, none⟩)] w fun e w' => e = .returned (.int .u64 V) ∧ w = w' := by
  subst hV
  exact from_at w b r f R l h
theorem BufAt.below {w w' : World} {b r f B : Nat} {R l : List UInt8} (h : BufAt w b r f R l) (hb : Below B w w') (h1 : b < B) (h2 : r < B) : BufAt w' b r f R l := ⟨Blk.below h.1 hb h1, Blk.below h.2.1 hb h2, h.2.2⟩
theorem BufAt.lt {w : World} {b r f : Nat} {R l : List UInt8} (h : BufAt w b r f R l) : b < w.heap.size ∧ r < w.heap.size := ⟨h.1.lt, h.2.1.lt⟩
theorem BufAt.below_ {w w' : World} {b r f : Nat} {R l : List UInt8} (h : BufAt w b r f R l) (hb : Below w.heap.size w w') : BufAt w' b r f R l := h.below hb h.lt.1 h.lt.2

set_option maxRecDepth 100000 in
set_option maxHeartbeats 2000000 in
theorem works_buf (w : World) : Calls Try.prog 12 #[] w fun e w' => e = .returned (.bool true) ∧ Below w.heap.size w w' := by
  go_enter Try.func12, Try.ntmps12
  go_wp2_with fail
  (with_reducible refine (new_v 10 5 10 5 rfl rfl _ (by omega) (by omega)).mono ?_)
  rintro e w1 ⟨rfl, h1, hB1, hs1⟩
  obtain ⟨b, hb⟩ : ∃ b, b = w.heap.size + 1 := ⟨_, rfl⟩
  obtain ⟨r, hr⟩ : ∃ r, r = w.heap.size := ⟨_, rfl⟩
  rw [← hb, ← hr] at h1
  rw [← hb]
  have k0 : w.heap.size ≤ b ∧ w.heap.size ≤ r := by omega
  clear hb hr
  go_wp2_with fail
  (with_reducible refine (put_v _ b r 10 _ [] ⟨#[97, 98, 99, 100, 101, 102, 103]⟩ 5 5 [97, 98, 99, 100, 101] h1 (by decide) (by omega) (by decide) rfl (by decide)).mono ?_)
  rintro e w2 ⟨rfl, ⟨R2, hR2, h2⟩, K2⟩
  have hB2 := hB1.trans (K2.below k0.1 k0.2 hB1.size)
  have hR2' : R2.length = 5 := by rw [hR2]; simp
  clear K2 hB1 hs1 h1 hR2
  go_wp2_with fail
  (with_reducible refine (get_v _ b r 10 _ _ 12 2 12 ⟨#[99, 100]⟩ h2 (by omega) (by omega) (by omega) (by omega) rfl (by decide)).mono ?_)
  rintro e w3 ⟨rfl, hb3⟩
  have h3 := h2.below_ hb3
  have hB3 := hB2.trans (hb3.mono hB2.size)
  clear h2 hB2 hb3
  go_wp2_with fail
  (with_reducible refine (drop_v _ b r 10 _ _ 13 3 13 3 13 [100, 101] h3 (by omega) (by omega) rfl (by decide) rfl (by omega) (by decide)).mono ?_)
  rintro e w4 ⟨rfl, h4, K4⟩
  have hB4 := hB3.trans (K4.below k0.1 k0.2 hB3.size)
  clear h3 hB3 K4
  go_wp2_with fail
  (with_reducible refine (put_v _ b r 13 _ _ ⟨#[120, 121, 122]⟩ 3 3 [100, 101, 120, 121, 122] h4 (by decide) (by omega) (by rw [hR2']; decide) rfl (by decide)).mono ?_)
  rintro e w5 ⟨rfl, ⟨R5, hR5, h5⟩, K5⟩
  have hB5 := hB4.trans (K5.below k0.1 k0.2 hB4.size)
  have hR5' : R5.length = 5 := by rw [hR5]; exact hR2'
  clear h4 hB4 K5 hR5
  go_wp2_with fail
  (with_reducible refine (get_v _ b r 13 _ _ 13 9 13 ⟨#[100, 101, 120, 121, 122]⟩ h5 (by omega) (by omega) (by omega) (by omega) rfl (by decide)).mono ?_)
  rintro e w6 ⟨rfl, hb6⟩
  have h6 := h5.below_ hb6
  have hB6 := hB5.trans (hb6.mono hB5.size)
  clear h5 hB5 hb6
  go_wp2_with fail
  (with_reducible refine (from_v _ b r 13 _ _ 13 h6 rfl).mono ?_)
  rintro e w' ⟨rfl, rfl⟩
  go_wp2_with fail
  (with_reducible refine (to_v _ b r 13 _ _ 18 h6 (by decide) rfl).mono ?_)
  rintro e w' ⟨rfl, n1, rfl⟩
  go_wp2_with fail
  (with_reducible refine (room_v _ b r 13 _ _ 0 (h6.drewN _) (by rw [hR5']; decide)).mono ?_)
  rintro e w' ⟨rfl, n2, rfl⟩
  go_wp2
  go_ret
  exact ⟨rfl, by first | exact below_drewN hB6 _ | exact below_drewN (below_drewN hB6 _) _⟩
end Go.Proofs.Ytbfmgdcnpefciaa
