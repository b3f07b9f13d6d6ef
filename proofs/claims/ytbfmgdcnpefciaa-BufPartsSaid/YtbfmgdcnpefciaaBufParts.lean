/- The statement BufParts: it makes no difference whether a text is put at once, or in parts, as far as there is room; for any text, any most, any place. -/
import Derived.Test.YtbfmgdcnpefciaaBufWorks
import Derived.Deep.RegionHeld3
set_option linter.unusedVariables false
set_option linter.unusedSimpArgs false
namespace Go.Proofs.Ytbfmgdcnpefciaa.bufParts
open Go.ChangeShapes Go.WideShapes Go.ChangeAt Go.RowKit
open Go.ChangeMaps (open_string shut_string)

/-- two buffers with the same bytes, each in its own ring -/
def Two (w : World) (b1 r1 b2 r2 m : Nat) (l : List UInt8) (W : World) : Prop := (∃ R, R.length = m ∧ BufAt W b1 r1 3 R l) ∧ (∃ R, R.length = m ∧ BufAt W b2 r2 3 R l) ∧ Below w.heap.size w W
theorem Two.below {w W W' : World} {b1 r1 b2 r2 m : Nat} {l : List UInt8} (h : Two w b1 r1 b2 r2 m l W) (hb : Below W.heap.size W W') : Two w b1 r1 b2 r2 m l W' := by
  obtain ⟨⟨R1, e1, h1⟩, ⟨R2, e2, h2⟩, h3⟩ := h
  exact ⟨⟨R1, e1, h1.below_ hb⟩, ⟨R2, e2, h2.below_ hb⟩, h3.trans (hb.mono h3.size)⟩
theorem Two.drew {w W : World} {b1 r1 b2 r2 m : Nat} {l : List UInt8} (h : Two w b1 r1 b2 r2 m l W) : Two w b1 r1 b2 r2 m l W.drew := h.below (Below.drew (Below.refl _ _))
theorem getL_all (l : List UInt8) (n : Nat) (h : l.length = n) : getL 3 l 3 ((n : Int) + 1) = l := by
  unfold getL
  by_cases h0 : n = 0
  · have : l = [] := List.eq_nil_of_length_eq_zero (by omega)
    subst this
    simp
  · rw [if_neg (by omega), Nat.sub_self, List.drop_zero, show ((n : Int) + 1).toNat = n + 1 by omega, List.take_of_length_le (by omega)]
theorem ext_list (s : ByteArray) (n : Nat) (h : n ≤ s.size) : (⟨(s.data.toList.take n).toArray⟩ : ByteArray) = s.extract 0 n := by
  apply ByteArray.ext
  apply Array.toList_inj.1
  rw [ByteArray.data_extract]
  simp

set_option maxRecDepth 100000 in
set_option maxHeartbeats 4000000 in
theorem walk (a0 : ByteArray) (a1 a2 : Int) (w : World) (w0 : a0.size ≤ maxLen) (w1 : (Lit.int .u16 a1).wf = true) (w2 : (Lit.int .u16 a2).wf = true) :
    Calls Try.prog 6 #[.string a0, .int .u16 a1, .int .u16 a2] w fun e w' => e = .returned (.bool true) ∧ Below w.heap.size w w' := by
  obtain ⟨l1, g1⟩ := bounds_u16 w1
  obtain ⟨l2, g2⟩ := bounds_u16 w2
  clear w1 w2
  by_cases h1 : 8192 < a0.size
  · go_enter Try.func6, Try.ntmps6
    go_wp2_with fail
    (with_reducible refine (works_buf _).mono ?_)
    rintro e w3 ⟨rfl, hb3⟩
    go_wp2
    go_ret
    exact ⟨rfl, hb3⟩
  obtain ⟨m, hm⟩ : ∃ m : Nat, (m : Int) = a1 % 9000 := ⟨(a1 % 9000).toNat, Int.toNat_of_nonneg (by omega)⟩
  have hmb : m ≤ 8999 := by omega
  obtain ⟨k, hk⟩ : ∃ k : Nat, (k : Int) = a2 % ((a0.size : Int) + 1) := ⟨(a2 % ((a0.size : Int) + 1)).toNat, Int.toNat_of_nonneg (Int.emod_nonneg _ (by omega))⟩
  have hkl : k ≤ a0.size := by have := Int.emod_lt_of_pos a2 (show (0 : Int) < (a0.size : Int) + 1 by omega); omega
  have kk0 : (0 : Int) ≤ (k : Int) := by omega
  have kk1 : (k : Int) ≤ (a0.size : Int) := by omega
  obtain ⟨n, hn⟩ : ∃ n, n = min a0.size m := ⟨_, rfl⟩
  have hns : n ≤ a0.size := by omega
  have N := fun w => new_v 3 m 3 (a1 % 9000) rfl hm w (by omega) (by omega)
  have HN := Lib.hid N
  have HK := Lib.hid hk
  clear N hk hm
  go_enter Try.func6, Try.ntmps6
  go_wp2_with fail
  (with_reducible refine (HN.out _).mono ?_)
  rintro e w3 ⟨rfl, hA, hB3, hs3⟩
  obtain ⟨b1, hb1⟩ : ∃ b, b = w.heap.size + 1 := ⟨_, rfl⟩
  obtain ⟨r1, hr1⟩ : ∃ r, r = w.heap.size := ⟨_, rfl⟩
  rw [← hb1, ← hr1] at hA
  rw [← hb1]
  have Hb1 := Lib.hid hb1
  clear hb1
  have Hr1 := Lib.hid hr1
  clear hr1
  go_wp2_with fail
  (with_reducible refine (HN.out _).mono ?_)
  rintro e w4 ⟨rfl, hC, hB4, hs4⟩
  obtain ⟨b2, hb2⟩ : ∃ b, b = w3.heap.size + 1 := ⟨_, rfl⟩
  obtain ⟨r2, hr2⟩ : ∃ r, r = w3.heap.size := ⟨_, rfl⟩
  rw [← hb2, ← hr2] at hC
  rw [← hb2]
  have q0 := And.intro Hb1.out Hr1.out
  have hA4 := hA.below_ hB4
  have kB4 := hB3.trans (hB4.mono hB3.size)
  have q1 : w.heap.size ≤ b1 ∧ w.heap.size ≤ r1 ∧ w.heap.size ≤ b2 ∧ w.heap.size ≤ r2 := by omega
  have q2 : b1 ≠ b2 ∧ b1 ≠ r2 ∧ r1 ≠ b2 ∧ r1 ≠ r2 := by omega
  clear hA hB3 hB4 hs3 hs4 hb2 hr2 q0 Hb1 Hr1
  obtain ⟨T, hT⟩ : ∃ T, T = a0.data.toList.take n := ⟨_, rfl⟩
  have hll : a0.data.toList.length = a0.size := rfl
  have hTl : T.length = n := by rw [hT, List.length_take]; omega
  have HNn := Lib.hid hn
  clear hn
  go_upto_region 8 with fail
  rw [← HK.out]
  go_wp2_with fail
  (with_reducible refine (put_v _ b1 r1 3 _ [] a0 n (n : Int) T hA4 w0 (by omega) (by rw [List.length_replicate]; have := HNn.out; simp; omega) rfl (by rw [List.nil_append]; exact hT.symm)).mono ?_)
  rintro e w5 ⟨rfl, ⟨R1, e1, hA5⟩, K5⟩
  rw [List.length_replicate] at e1
  have hC5 : BufAt w5 b2 r2 3 (List.replicate m 0) [] := ⟨K5.blk hC.1 (fun e => q2.1 e.symm) (fun e => q2.2.2.1 e.symm), K5.blk hC.2.1 (fun e => q2.2.1 e.symm) (fun e => q2.2.2.2 e.symm), hC.2.2⟩
  have kB5 := kB4.trans (K5.below q1.1 q1.2.1 kB4.size)
  clear hA4 hC kB4 K5
  have ex : (a0.extract 0 k).data.toList = a0.data.toList.take k := by rw [ByteArray.data_extract]; simp
  have exz : (a0.extract 0 k).size = k := by simp; omega
  go_upto_region 9 with fail
  by_cases hkm : k ≤ m
  · go_wp2_with fail
    (with_reducible refine (put_v _ b2 r2 3 _ [] (a0.extract 0 k) k (k : Int) (a0.data.toList.take k) hC5 (by unfold maxLen; omega) (by omega) (by rw [List.length_replicate, exz]; simp; omega) rfl (by rw [List.nil_append, ex, List.take_take, Nat.min_self])).mono ?_)
    rintro e w6 ⟨rfl, ⟨R2, e2, hC6⟩, K6⟩
    rw [List.length_replicate] at e2
    have hA6 : BufAt w6 b1 r1 3 R1 T := ⟨K6.blk hA5.1 q2.1 q2.2.1, K6.blk hA5.2.1 q2.2.2.1 q2.2.2.2, hA5.2.2⟩
    have kB6 := kB5.trans (K6.below q1.2.2.1 q1.2.2.2 kB5.size)
    clear hA5 hC5 kB5 K6
    obtain ⟨n2, hn2⟩ : ∃ n2, n2 = min (a0.size - k) (m - k) := ⟨_, rfl⟩
    have hnn : n = k + n2 := by have := HNn.out; omega
    have exs : (a0.extract k a0.size).size = a0.size - k := by simp
    have exd : (a0.extract k a0.size).data.toList = a0.data.toList.drop k := by
      rw [ByteArray.data_extract, Array.toList_extract, List.extract_eq_take_drop]
      exact List.take_of_length_le (by simp)
    have htk : (a0.data.toList.take k).length = k := by rw [List.length_take]; omega
    have hTT : a0.data.toList.take k ++ (a0.extract k a0.size).data.toList.take n2 = T := by rw [exd, hT, hnn, List.take_add]
    have HN2 := Lib.hid hn2
    have HNN := Lib.hid hnn
    have hn2b : n2 ≤ 8999 := by omega
    have hn2c : (0 : Int) ≤ (n2 : Int) := by omega
    clear hn2 hnn
    go_upto_region 11 with fail
    go_wp2_with fail
    (with_reducible refine (put_v _ b2 r2 3 R2 (a0.data.toList.take k) (a0.extract k a0.size) n2 (n2 : Int) T hC6 (by unfold maxLen; omega) (by omega) (by rw [htk, exs, e2]; exact HN2.out) rfl hTT).mono ?_)
    rintro e w7 ⟨rfl, ⟨R3, e3, hC7⟩, K7⟩
    rw [e2] at e3
    have hA7 : BufAt w7 b1 r1 3 R1 T := ⟨K7.blk hA6.1 q2.1 q2.2.1, K7.blk hA6.2.1 q2.2.2.1 q2.2.2.2, hA6.2.2⟩
    have kB7 := kB6.trans (K7.below q1.2.2.1 q1.2.2.2 kB6.size)
    clear hA6 hC6 kB6 K7
    have eqn : ((n : Int) == (k : Int) + (n2 : Int)) = true := by rw [beq_iff_eq]; have := HNN.out; omega
    have hT6 : Two w b1 r1 b2 r2 m T w7 := ⟨⟨R1, e1, hA7⟩, ⟨R3, e3, hC7⟩, kB7⟩
    clear hA7 hC7 kB7
    have GA : ∀ W, Two w b1 r1 b2 r2 m T W → Calls Try.prog 16 #[.pointer (some ⟨b1, 0, none⟩), .int .u64 3, .int .i64 ((n : Int) + 1)] W fun e w' => e = .returned (.string (a0.extract 0 n)) ∧ Below W.heap.size W w' := by
      intro W h
      obtain ⟨⟨R, e, h⟩, _, _⟩ := h
      exact get_v W b1 r1 3 R T 3 ((n : Int) + 1) 3 (a0.extract 0 n) h (by omega) (by omega) (by omega) (by omega) rfl (by rw [getL_all T n hTl, hT]; exact ext_list a0 n hns)
    have GB : ∀ W, Two w b1 r1 b2 r2 m T W → Calls Try.prog 16 #[.pointer (some ⟨b2, 0, none⟩), .int .u64 3, .int .i64 ((n : Int) + 1)] W fun e w' => e = .returned (.string (a0.extract 0 n)) ∧ Below W.heap.size W w' := by
      intro W h
      obtain ⟨_, ⟨R, e, h⟩, _⟩ := h
      exact get_v W b2 r2 3 R T 3 ((n : Int) + 1) 3 (a0.extract 0 n) h (by omega) (by omega) (by omega) (by omega) rfl (by rw [getL_all T n hTl, hT]; exact ext_list a0 n hns)
    have GT := fun W (h : Two w b1 r1 b2 r2 m T W) => (by
      obtain ⟨⟨R, e, h⟩, _, _⟩ := h
      exact (to_v W b1 r1 3 R T ((3 + n : Nat) : Int) h (by omega) (by rw [hTl])).mono fun e w' ⟨x, y⟩ => ⟨x, by obtain ⟨k, rfl⟩ := y; exact below_n W k⟩ : Calls Try.prog 21 #[.pointer (some ⟨b1, 0, none⟩)] W fun e w' => e = .returned (.int .u64 ((3 + n : Nat) : Int)) ∧ Below W.heap.size W w')
    have GU := fun W (h : Two w b1 r1 b2 r2 m T W) => (by
      obtain ⟨_, ⟨R, e, h⟩, _⟩ := h
      exact (to_v W b2 r2 3 R T ((3 + n : Nat) : Int) h (by omega) (by rw [hTl])).mono fun e w' ⟨x, y⟩ => ⟨x, by obtain ⟨k, rfl⟩ := y; exact below_n W k⟩ : Calls Try.prog 21 #[.pointer (some ⟨b2, 0, none⟩)] W fun e w' => e = .returned (.int .u64 ((3 + n : Nat) : Int)) ∧ Below W.heap.size W w')
    have GR := fun W (h : Two w b1 r1 b2 r2 m T W) => (by
      obtain ⟨⟨R, e, h⟩, _, _⟩ := h
      exact (room_v W b1 r1 3 R T ((m - n : Nat) : Int) h (by rw [hTl, e])).mono fun e w' ⟨x, y⟩ => ⟨x, by obtain ⟨k, rfl⟩ := y; exact below_n W k⟩ : Calls Try.prog 22 #[.pointer (some ⟨b1, 0, none⟩)] W fun e w' => e = .returned (.int .i64 ((m - n : Nat) : Int)) ∧ Below W.heap.size W w')
    have GS := fun W (h : Two w b1 r1 b2 r2 m T W) => (by
      obtain ⟨_, ⟨R, e, h⟩, _⟩ := h
      exact (room_v W b2 r2 3 R T ((m - n : Nat) : Int) h (by rw [hTl, e])).mono fun e w' ⟨x, y⟩ => ⟨x, by obtain ⟨k, rfl⟩ := y; exact below_n W k⟩ : Calls Try.prog 22 #[.pointer (some ⟨b2, 0, none⟩)] W fun e w' => e = .returned (.int .i64 ((m - n : Nat) : Int)) ∧ Below W.heap.size W w')
    generalize ((3 + n : Nat) : Int) = v1 at *
    generalize ((m - n : Nat) : Int) = v2 at *
    have HGA := Lib.hid GA
    have HGB := Lib.hid GB
    have HGT := Lib.hid GT
    have HGU := Lib.hid GU
    have HGR := Lib.hid GR
    have HGS := Lib.hid GS
    clear GA GB GT GU GR GS
    have s1 : (n : Int) ≤ (a0.size : Int) := by omega
    have s0 : (0 : Int) ≤ (n : Int) := by omega
    have s2 : IntKind.i64.wrap ((n : Int) + 1) = (n : Int) + 1 := by rw [IntKind.wrap_i64]; omega
    go_upto_region 12 with fail
    go_region_held3 (fun w' => Two w b1 r1 b2 r2 m T w') (first
      | exact Two.drew (by assumption)
      | exact Two.below (by assumption) hb) (first
      | (go_at_call 21; with_reducible refine (HGT.out _ ?_).mono ?_; (focus assumption); rintro e w' ⟨rfl, hb⟩)
      | (go_at_call 21; with_reducible refine (HGU.out _ ?_).mono ?_; (focus assumption); rintro e w' ⟨rfl, hb⟩)
      | (go_at_call 16; with_reducible refine (HGA.out _ ?_).mono ?_; (focus assumption); rintro e w' ⟨rfl, hb⟩)
      | (go_at_call 16; with_reducible refine (HGB.out _ ?_).mono ?_; (focus assumption); rintro e w' ⟨rfl, hb⟩)
      | (go_at_call 22; with_reducible refine (HGR.out _ ?_).mono ?_; (focus assumption); rintro e w' ⟨rfl, hb⟩)
      | (go_at_call 22; with_reducible refine (HGS.out _ ?_).mono ?_; (focus assumption); rintro e w' ⟨rfl, hb⟩)
      | (go_at_call 12; with_reducible refine (works_buf _).mono ?_; rintro e w' ⟨rfl, hb⟩))
    all_goals go_wp2
    all_goals go_ret
    all_goals exact ⟨rfl, And.right (And.right (by assumption : Two w b1 r1 b2 r2 m T _))⟩
  · have hnm : n = m := by have := HNn.out; omega
    have hTm : a0.data.toList.take m = T := by rw [hT, hnm]
    have HNM := Lib.hid hnm
    clear hnm
    go_wp2_with fail
    (with_reducible refine (put_v _ b2 r2 3 _ [] (a0.extract 0 k) m (m : Int) T hC5 (by unfold maxLen; omega) (by omega) (by rw [List.length_replicate, exz]; simp; omega) rfl (by rw [List.nil_append, ex, List.take_take, Nat.min_eq_left (by omega)]; exact hTm)).mono ?_)
    rintro e w6 ⟨rfl, ⟨R2, e2, hC6⟩, K6⟩
    rw [List.length_replicate] at e2
    have hA6 : BufAt w6 b1 r1 3 R1 T := ⟨K6.blk hA5.1 q2.1 q2.2.1, K6.blk hA5.2.1 q2.2.2.1 q2.2.2.2, hA5.2.2⟩
    have kB6 := kB5.trans (K6.below q1.2.2.1 q1.2.2.2 kB5.size)
    clear hA5 hC5 kB5 K6
    have eqk : ((m : Int) == (k : Int)) = false := by rw [beq_eq_false_iff_ne]; omega
    have eqn : ((n : Int) == (m : Int)) = true := by rw [beq_iff_eq]; have := HNM.out; omega
    have hT6 : Two w b1 r1 b2 r2 m T w6 := ⟨⟨R1, e1, hA6⟩, ⟨R2, e2, hC6⟩, kB6⟩
    clear hA6 hC6 kB6
    have GA : ∀ W, Two w b1 r1 b2 r2 m T W → Calls Try.prog 16 #[.pointer (some ⟨b1, 0, none⟩), .int .u64 3, .int .i64 ((n : Int) + 1)] W fun e w' => e = .returned (.string (a0.extract 0 n)) ∧ Below W.heap.size W w' := by
      intro W h
      obtain ⟨⟨R, e, h⟩, _, _⟩ := h
      exact get_v W b1 r1 3 R T 3 ((n : Int) + 1) 3 (a0.extract 0 n) h (by omega) (by omega) (by omega) (by omega) rfl (by rw [getL_all T n hTl, hT]; exact ext_list a0 n hns)
    have GB : ∀ W, Two w b1 r1 b2 r2 m T W → Calls Try.prog 16 #[.pointer (some ⟨b2, 0, none⟩), .int .u64 3, .int .i64 ((n : Int) + 1)] W fun e w' => e = .returned (.string (a0.extract 0 n)) ∧ Below W.heap.size W w' := by
      intro W h
      obtain ⟨_, ⟨R, e, h⟩, _⟩ := h
      exact get_v W b2 r2 3 R T 3 ((n : Int) + 1) 3 (a0.extract 0 n) h (by omega) (by omega) (by omega) (by omega) rfl (by rw [getL_all T n hTl, hT]; exact ext_list a0 n hns)
    have GT := fun W (h : Two w b1 r1 b2 r2 m T W) => (by
      obtain ⟨⟨R, e, h⟩, _, _⟩ := h
      exact (to_v W b1 r1 3 R T ((3 + n : Nat) : Int) h (by omega) (by rw [hTl])).mono fun e w' ⟨x, y⟩ => ⟨x, by obtain ⟨k, rfl⟩ := y; exact below_n W k⟩ : Calls Try.prog 21 #[.pointer (some ⟨b1, 0, none⟩)] W fun e w' => e = .returned (.int .u64 ((3 + n : Nat) : Int)) ∧ Below W.heap.size W w')
    have GU := fun W (h : Two w b1 r1 b2 r2 m T W) => (by
      obtain ⟨_, ⟨R, e, h⟩, _⟩ := h
      exact (to_v W b2 r2 3 R T ((3 + n : Nat) : Int) h (by omega) (by rw [hTl])).mono fun e w' ⟨x, y⟩ => ⟨x, by obtain ⟨k, rfl⟩ := y; exact below_n W k⟩ : Calls Try.prog 21 #[.pointer (some ⟨b2, 0, none⟩)] W fun e w' => e = .returned (.int .u64 ((3 + n : Nat) : Int)) ∧ Below W.heap.size W w')
    have GR := fun W (h : Two w b1 r1 b2 r2 m T W) => (by
      obtain ⟨⟨R, e, h⟩, _, _⟩ := h
      exact (room_v W b1 r1 3 R T ((m - n : Nat) : Int) h (by rw [hTl, e])).mono fun e w' ⟨x, y⟩ => ⟨x, by obtain ⟨k, rfl⟩ := y; exact below_n W k⟩ : Calls Try.prog 22 #[.pointer (some ⟨b1, 0, none⟩)] W fun e w' => e = .returned (.int .i64 ((m - n : Nat) : Int)) ∧ Below W.heap.size W w')
    have GS := fun W (h : Two w b1 r1 b2 r2 m T W) => (by
      obtain ⟨_, ⟨R, e, h⟩, _⟩ := h
      exact (room_v W b2 r2 3 R T ((m - n : Nat) : Int) h (by rw [hTl, e])).mono fun e w' ⟨x, y⟩ => ⟨x, by obtain ⟨k, rfl⟩ := y; exact below_n W k⟩ : Calls Try.prog 22 #[.pointer (some ⟨b2, 0, none⟩)] W fun e w' => e = .returned (.int .i64 ((m - n : Nat) : Int)) ∧ Below W.heap.size W w')
    generalize ((3 + n : Nat) : Int) = v1 at *
    generalize ((m - n : Nat) : Int) = v2 at *
    have HGA := Lib.hid GA
    have HGB := Lib.hid GB
    have HGT := Lib.hid GT
    have HGU := Lib.hid GU
    have HGR := Lib.hid GR
    have HGS := Lib.hid GS
    clear GA GB GT GU GR GS
    have s1 : (n : Int) ≤ (a0.size : Int) := by omega
    have s0 : (0 : Int) ≤ (n : Int) := by omega
    have s2 : IntKind.i64.wrap ((n : Int) + 1) = (n : Int) + 1 := by rw [IntKind.wrap_i64]; omega
    go_upto_region 12 with fail
    go_region_held3 (fun w' => Two w b1 r1 b2 r2 m T w') (first
      | exact Two.drew (by assumption)
      | exact Two.below (by assumption) hb) (first
      | (go_at_call 21; with_reducible refine (HGT.out _ ?_).mono ?_; (focus assumption); rintro e w' ⟨rfl, hb⟩)
      | (go_at_call 21; with_reducible refine (HGU.out _ ?_).mono ?_; (focus assumption); rintro e w' ⟨rfl, hb⟩)
      | (go_at_call 16; with_reducible refine (HGA.out _ ?_).mono ?_; (focus assumption); rintro e w' ⟨rfl, hb⟩)
      | (go_at_call 16; with_reducible refine (HGB.out _ ?_).mono ?_; (focus assumption); rintro e w' ⟨rfl, hb⟩)
      | (go_at_call 22; with_reducible refine (HGR.out _ ?_).mono ?_; (focus assumption); rintro e w' ⟨rfl, hb⟩)
      | (go_at_call 22; with_reducible refine (HGS.out _ ?_).mono ?_; (focus assumption); rintro e w' ⟨rfl, hb⟩)
      | (go_at_call 12; with_reducible refine (works_buf _).mono ?_; rintro e w' ⟨rfl, hb⟩))
    all_goals go_wp2
    all_goals go_ret
    all_goals exact ⟨rfl, And.right (And.right (by assumption : Two w b1 r1 b2 r2 m T _))⟩

theorem own : ownKnob Try.prog.godebug = none := by kernel_rfl
theorem laidOut : laidOutB Try.prog = true := by kernel_rfl
set_option maxRecDepth 100000 in
theorem lifted (os : Os) (started : os.Started) (H : Type) (enc : TypeId × Value → H) :
    ReturnsInHanded {} Try.checked os 6 .any (Rows.bufPartsSpec.pre6 enc Try.prog Try.f6 Rows.bufPartsRow.domain false) (Rows.bufPartsSpec.post enc Try.prog Try.f6 false true false false) := by
  refine returnsInHanded_of_change (C := Try.checked) own started (by kernel_rfl) Try.func6
    (ChangeSpec.witness6 (enc := enc) (C := Try.checked) false ⟨#[], #[.string ByteArray.empty, .int .u16 0, .int .u16 0], []⟩ 8 (by kernel_rfl) (by kernel_rfl) (by kernel_rfl) (by kernel_rfl)) ?_
  intro W base args ds gs before hval0 hW hcnd _
  have hval : ∀ (j : Nat) t v, Try.f6.params[j]? = some t → args[j]? = some v → Value.okWide Try.prog W .any base t v := hval0
  have hW' := hW
  obtain ⟨p, q, hA0, hV, rfl, hfz, hnd⟩ := hW
  have hA : DataW.TrodAll enc Try.prog W 0 (fun _ => true) true Try.f6.params.toList args.toList ds p := hA0
  rw [Try.params6] at hA hval
  obtain ⟨v0, vs0, d0, ds0, p0, q0, hargs, rfl, rfl, h0, r0⟩ := trodAll_cons hA
  obtain ⟨v1, vs1, d1, ds1, p1, q1, rfl, rfl, rfl, h1, r1⟩ := trodAll_cons r0
  obtain ⟨v2, vs2, d2, ds2, p2, q2, rfl, rfl, rfl, h2, r2⟩ := trodAll_cons r1
  obtain ⟨rfl, rfl, rfl⟩ := trodAll_nil r2
  obtain rfl : args = #[v0, v1, v2] := by cases args; simp_all
  obtain ⟨rfl, rfl⟩ := trodVars_none hV
  obtain ⟨a0, rfl, rfl, rfl, w0⟩ := open_string Try.underlying9 (hval 0 9 v0 rfl rfl) h0
  obtain ⟨a1, rfl, rfl, rfl, w1⟩ := open_int Try.underlying41 (hval 1 41 v1 rfl rfl) h1
  obtain ⟨a2, rfl, rfl, rfl, w2⟩ := open_int Try.underlying41 (hval 2 41 v2 rfl rfl) h2
  clear hA0 hval0
  refine (walk a0 a1 a2 W w0 w1 w2).mono fun e W' ⟨he, bel⟩ => ?_
  subst he
  exact ⟨_, rfl, _, _, _, [], _, [], hW', trodAll_mk1 (shut_bool Try.underlying4 _), (trodAll_cons_mk (shut_string Try.underlying9 w0) (trodAll_cons_mk (shut_int Try.underlying41 w1) (trodAll_cons_mk (shut_int Try.underlying41 w2) trodAll_mk0))), rfl, bel.frame _, fun h => by cases h⟩

theorem over : Rows.bufPartsRow.holds Try.pinned (OpenSpec.ofChange Rows.bufPartsSpec) :=
  OpenClaim.holds_of_wide 6 Try.f6 rfl rfl rfl rfl rfl rfl rfl ⟨rfl, rfl, rfl, rfl, rfl⟩ rfl rfl rfl rfl rfl (by kernel_rfl) Try.func6 (by kernel_rfl)
    (of_decide_eq_true (by kernel_rfl)) (by unfold Func.isWrapper; first | (rw [if_pos (by decide +kernel)]; kernel_rfl) | (rw [if_neg (by decide +kernel)]; exact ⟨rfl, rfl⟩))
    (fun os started H enc _ => lifted os started H enc)

/-- THE STATEMENT -/
theorem proved : Rows.BufPartsSaid := over
#print axioms proved
end Go.Proofs.Ytbfmgdcnpefciaa.bufParts
