/- Contracts of layer 15 (buf), second part: Put. -/
import Derived.Test.YtbfmgdcnpefciaaBuf
import Derived.Deep.DeepCutAuto
set_option linter.unusedVariables false
set_option linter.unusedSimpArgs false
namespace Go.Proofs.Ytbfmgdcnpefciaa
open Go.RowKit

set_option maxHeartbeats 2000000 in
theorem put_at (w : World) (b r f : Nat) (R l : List UInt8) (s : ByteArray) (n : Nat) (h : BufAt w b r f R l) (hs : s.size ≤ maxLen) (hf : f ≤ 9223372036854775807) (hn : n = min s.size (R.length - l.length)) :
    Calls Try.prog 14 #[.pointer (some ⟨b, 0, none⟩), .string s] w fun e w' => e = .returned (.int .i64 (n : Int)) ∧ (∃ R', R'.length = R.length ∧ BufAt w' b r f R' (l ++ s.data.toList.take n)) ∧ Kept2 b r w w' := by
  unfold maxLen at hs
  have hl := h.le
  have h4 := h.2.2.2
  have hmin : min (s.size : Int) ((R.length - l.length : Nat) : Int) = (n : Int) := by omega
  have hn1 : n ≤ s.size := by omega
  have hn2 : n ≤ R.length - l.length := by omega
  have HMI := Lib.hid hmin
  have HN := Lib.hid hn
  clear hmin hn
  go_enter Try.func14, Try.ntmps14
  go_wp2_with fail
  (with_reducible refine (room_at _ b r f R l h).mono ?_)
  rintro e w' ⟨rfl, n1, rfl⟩
  go_upto_region 2 with fail
  first | rw [HMI.out] | rw [← HN.out]
  by_cases h0 : n = 0
  · subst h0
    go_wp2
    go_ret
    exact ⟨rfl, ⟨R, rfl, by simpa using h.drewN _⟩, Kept2.refl.drewN _⟩
  · have e0 : ((n : Int) == 0) = false := by rw [beq_eq_false_iff_ne]; omega
    obtain ⟨t0, ht0⟩ : ∃ t0, t0 = f + l.length := ⟨_, rfl⟩
    have ct := fun n => to_at (w.drewN n) b r f R l (h.drewN n) (by omega)
    have cs := fun n => slot_at (w.drewN n) b r f R l (h.drewN n) (f + l.length) (by omega) (by omega)
    rw [← ht0] at ct cs
    obtain ⟨p, hp⟩ : ∃ p, p = t0 % R.length := ⟨_, rfl⟩
    have hpl : p < R.length := by rw [hp]; exact Nat.mod_lt _ (by omega)
    rw [← hp] at cs
    have HT := Lib.hid ht0
    have HP := Lib.hid hp
    have CT := Lib.hid ct
    have CS := Lib.hid cs
    clear ct cs ht0 hp
    go_wp2_with fail
    (with_reducible refine (CT.out _).mono ?_)
    rintro e w' ⟨rfl, n2, rfl⟩
    go_wp2_with fail
    (with_reducible refine (CS.out _).mono ?_)
    rintro e w' ⟨rfl, rfl⟩
    go_upto_region 5 with fail
    have hW := h.drewN (n1 + n2)
    have kW : Kept2 b r w (w.drewN (n1 + n2)) := Kept2.refl.drewN _
    generalize w.drewN (n1 + n2) = W at *
    have c0 := hW.c0
    have i1 : (p : Int) ≤ (R.length : Int) := by omega
    have i2 : (0 : Int) ≤ (p : Int) := by omega
    have i3 : (n : Int) ≤ (s.size : Int) := by omega
    have i4 : (0 : Int) ≤ (n : Int) := by omega
    have hne : ¬ R.length = p := by omega
    have hbr := hW.ne
    obtain ⟨k, hk⟩ : ∃ k, k = min (R.length - p) n := ⟨_, rfl⟩
    have hk1 : k ≤ n := by omega
    have hk2 : p + k ≤ R.length := by omega
    have hll : s.data.toList.length = s.size := rfl
    obtain ⟨T, hT⟩ : ∃ T, T = s.data.toList.take n := ⟨_, rfl⟩
    have hTl : T.length = n := by rw [hT, List.length_take]; omega
    have e1 : (s.extract 0 n).data.toList.take k = T.take k := by rw [ByteArray.data_extract, hT]; simp [List.take_take, Nat.min_eq_left hk1]
    have z1 : (s.extract 0 n).size = n := by simp; omega
    have e2 : (s.extract k n).data.toList.take (n - k) = T.drop k := by
      rw [ByteArray.data_extract, Array.toList_extract, List.extract_eq_take_drop, List.take_take, Nat.min_self, hT, List.drop_take]
    have z2 : (s.extract k n).size = n - k := by simp; omega
    have hput := holds_put (R := R) (T := T) (l := l) (f := f) (k := k) hW.2.2.1 (by omega) (by omega) (by rw [hTl, ← HT.out, ← HP.out]; exact hk)
    rw [← HT.out, ← HP.out] at hput
    have hlaid := laid_length (R := R) (T := T) (s := p) (k := k) hk2 (by omega) (by omega)
    have E1 := Lib.hid e1
    have E2 := Lib.hid e2
    have HPUT := Lib.hid hput
    have HT2 := Lib.hid hT
    have HKM := Lib.hid hk
    clear e1 e2 hput hT hk
    go_still_tail 9, (by kernel_rfl)
    change wpList _ _ _ _ _ W.drew
    refine wpList_copy_str rfl _ _ _ _ rfl Try.underlying42 r p (R.length - p) (R.length - p) (s.extract 0 n) R k (by simp [Act.eval]) (by simp [Act.eval]) (by have := HKM.out; rw [z1]; omega) hW.2.1 hk2 ?_
    intro w1 hb1 hg1
    rw [E1.out] at hb1
    have hB1 : Blk w1 b 63 #[.slice (some ⟨r, 0, none⟩) R.length R.length, .int .u64 (f : Int), .int .i64 (l.length : Int)] := Blk.grown (Blk.drew hW.1) hg1 (by intro e; injection e with e; exact hbr e)
    have kWd : Kept2 b r w W.drew := ⟨Below.drew kW.1, kW.2⟩
    have k1 := kWd.trans (Kept2.of_grown (b := b) (r := r) hg1 (.inr rfl))
    clear kWd
    have d0 : w1.cell? ⟨b, 0, none⟩ = some (.slice (some ⟨r, 0, none⟩) R.length R.length) := by have := hB1.cell 0; simpa using this
    clear hg1 c0 hW kW
    have HK1 := Lib.hid k1
    clear k1
    have i5 : (k : Int) ≤ (n : Int) := by omega
    have i6 : (0 : Int) ≤ (k : Int) := by omega
    go_upto_region 6 with fail
    go_still_tail 8, (by kernel_rfl)
    change wpList _ _ _ _ _ w1.drew
    refine wpList_copy_str rfl _ _ _ _ rfl Try.underlying42 r 0 R.length R.length (s.extract k n) _ (n - k) (by simp [Act.eval]) (by simp [Act.eval]) (by rw [z2]; omega) hb1 (by simp only [List.length_append, List.length_take, List.length_drop]; omega) ?_
    intro w2 hb2 hg2
    rw [E2.out] at hb2
    have hR2 : Blk w2 r 5 ((laid R T p k).map u8v).toArray := by
      have : laid R T p k = List.take 0 (R.take p ++ (T.take k ++ R.drop (p + k))) ++ (T.drop k ++ List.drop (0 + (n - k)) (R.take p ++ (T.take k ++ R.drop (p + k)))) := by
        unfold laid
        rw [List.take_zero, List.nil_append, Nat.zero_add, hTl]
      rw [this]
      exact hb2
    have hB2 : Blk w2 b 63 #[.slice (some ⟨r, 0, none⟩) R.length R.length, .int .u64 (f : Int), .int .i64 (l.length : Int)] := Blk.grown (Blk.drew hB1) hg2 (by intro e; injection e with e; exact hbr e)
    have kWd : Kept2 b r w w1.drew := ⟨Below.drew HK1.out.1, HK1.out.2⟩
    have k2 := kWd.trans (Kept2.of_grown (b := b) (r := r) hg2 (.inr rfl))
    have d2 : w2.cell? ⟨b, 2, none⟩ = some (.int .i64 (l.length : Int)) := by have := hB2.cell 2; simpa using this
    have f2 := hB2.frozen 2
    clear kWd hb2 hg2 hb1 d0
    have HK2 := Lib.hid k2
    clear k2 HK1
    go_wp2
    go_ret
    refine ⟨rfl, ⟨laid R T p k, hlaid, ?_, ?_, ?_, ?_⟩, ?_⟩
    · rw [hlaid, ← HT2.out, List.length_append, hTl]
      have := hB2.set_ 2 (.int .i64 ((l.length : Int) + (n : Int)))
      simpa using this
    · exact hR2.far (p := ⟨b, 2, none⟩) (by intro e; exact hbr e.symm) _
    · rw [← HT2.out]; exact HPUT.out
    · rw [hlaid]; exact h4
    · exact HK2.out.trans (Kept2.of_grown (b := b) (r := r) (only_set (World.grownBy.refl w2 _) 2 _) (.inl rfl))
end Go.Proofs.Ytbfmgdcnpefciaa
