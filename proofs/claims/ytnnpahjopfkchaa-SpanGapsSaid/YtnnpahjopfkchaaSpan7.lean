/- transomref02.Len. -/
import Derived.Test.YtnnpahjopfkchaaSpan5
import Derived.Laws.Bits64
set_option linter.unusedVariables false
set_option linter.unusedSimpArgs false
namespace Go.Proofs.Ytnnpahjopfkchaa
open Go.RowKit Go.BigFrame

section
variable {w : World} {A : Option Addr} {l : List Sp} {cap : Nat}
set_option maxRecDepth 100000 in
set_option maxHeartbeats 2000000 in
theorem rlen_any (hm : l.length ≤ 1000000) (hI : SpAt w.heap.size w A l) (hu : U64 l) : Calls Try.prog 23 #[.slice A l.length cap] w fun e w' => e = .returned (.int .u64 (lenN l : Int)) ∧ Below w.heap.size w w' := by
  have lm : (l.length : Int) ≤ 1000000 := by omega
  unfold lenN
  cases hmy : mayB l with
  | false =>
    have h0 : 0 < l.length := by
      cases l with
      | nil => exact absurd ((mayB_iff []).2 ⟨trivial, by simp⟩) (by rw [hmy]; decide)
      | cons _ _ => simp
    have h0z : (0 : Int) < (l.length : Int) := by omega
    have c0 := rmay_any (cap := cap) hm hI
    rw [hmy] at c0
    rw [if_neg (by decide)]
    clear hI hmy hu
    go_enter Try.func23, Try.ntmps23
    go_wp2
    go_loopw [3, 4] (fun s i wr => s = .int .u64 0 ∧ i = .int .i64 0 ∧ Hid (wr = w)) (fun _ i _ => l.length - (intOf i).toNat)
    case atStart => exact ⟨rfl, rfl, Lib.hid rfl⟩
    case round =>
      obtain ⟨rfl, rfl, HW⟩ := hrel
      have hw := HW.out
      clear HW
      subst hw
      go_wp2_with (go_at_call 14; with_reducible refine c0.mono ?_; rintro e w2 ⟨rfl, hb⟩)
      go_ret
      exact ⟨rfl, hb⟩
  | true =>
    have hn := ((mayB_iff l).1 hmy).1
    rw [if_pos rfl]
    obtain ⟨S, eS⟩ : ∃ S : Nat → Nat, S = lenK l := ⟨_, rfl⟩
    rw [← eS]
    have HX := Lib.hid (And.intro hI (And.intro hu (And.intro hn (And.intro eS hmy))))
    clear hI hmy hu hn eS
    go_enter Try.func23, Try.ntmps23
    go_wp2
    go_loopw [3, 4] (fun s i wr => ∃ k : Nat, s = .int .u64 (S k : Int) ∧ i = .int .i64 k ∧ k ≤ l.length ∧ Hid (Below w.heap.size w wr)) (fun _ i _ => l.length - (intOf i).toNat)
    case atStart => exact ⟨0, by rw [HX.out.2.2.2.1]; rfl, rfl, Nat.zero_le _, Lib.hid (Below.refl _ _)⟩
    case round =>
      obtain ⟨k, rfl, rfl, hk, HB⟩ := hrel
      by_cases h1 : k < l.length
      · have h1z : (k : Int) < (l.length : Int) := by omega
        have k0 : (0 : Int) ≤ (k : Int) := by omega
        have c1 := rmay_any (cap := cap) hm ((HX.out.1.below HB.out).mono HB.out.size)
        rw [HX.out.2.2.2.2] at c1
        go_upto_region 5 with (go_at_call 14; with_reducible refine c1.mono ?_; rintro e w2 ⟨rfl, hb⟩)
        have hB2 := HB.out.trans (hb.mono HB.out.size)
        obtain ⟨b, off, rfl, hb, r1, r2⟩ := (HX.out.1.below hB2).at_ h1
        rw [← spn_get l h1] at r1 r2
        have hu1 := HX.out.2.1.spn h1
        have ho := (norm_okA HX.out.2.2.1 k h1).1
        have hle := lenK_le HX.out.2.2.1 k h1
        have hst : S (k + 1) = S k + ((spn l k).2 - (spn l k).1) := by rw [HX.out.2.2.2.1]; rfl
        rw [← HX.out.2.2.2.1] at hle
        obtain ⟨x, ex⟩ : ∃ x, x = spn l k := ⟨_, rfl⟩
        rw [← ex] at r1 r2 hu1 ho hle hst
        obtain ⟨d, ed⟩ : ∃ d : Nat, d = (S k + x.2) % 18446744073709551616 := ⟨_, rfl⟩
        obtain ⟨t, et⟩ : ∃ t : Nat, t = S (k + 1) := ⟨_, rfl⟩
        have e1 : IntKind.u64.wrap ((S k : Int) + (x.2 : Int)) = (d : Int) := by rw [IntKind.wrap_u64]; omega
        have e2 : IntKind.u64.wrap ((d : Int) - (x.1 : Int)) = (t : Int) := by rw [IntKind.wrap_u64]; omega
        have HT := Lib.hid et
        have HB1 := Lib.hid hB2
        clear ex hu1 ho hle hst et hB2 ed c1 HB
        go_quiet (fail)
        go_wp2
        go_roundw
        case rel => exact ⟨k + 1, by rw [← HT.out], by go_num, h1, by first | exact HB1 | exact Lib.hid (below_drewN HB1.out _)⟩
        case measure => simp [intOf]; omega
      · obtain rfl : k = l.length := by omega
        have h1z : ¬ (l.length : Int) < (l.length : Int) := by omega
        go_wp2
        go_ret
        exact ⟨rfl, HB.out⟩
end
end Go.Proofs.Ytnnpahjopfkchaa
