/- The statement SumTurns: a checksum which is turned along with words is that of the text with the other words; for any text, any place, any other bytes. -/
import Derived.Test.YtcfomapeiaobaaaSumAlive
import Derived.Test.YtcfomapeiaobaaaSumTurnsP
import Derived.Lib.MinMax
import Derived.Deep.DeepCutAuto
set_option linter.unusedVariables false
set_option linter.unusedSimpArgs false
namespace Go.Proofs.Ytcfomapeiaobaaa.sumTurns
open Go.ChangeShapes Go.WideShapes Go.ChangeAt Go.RowKit
open Go.ChangeMaps (open_string shut_string)

theorem ext_take (s : ByteArray) (k : Nat) : (s.extract 0 k).data.toList = s.data.toList.take k := by rw [ByteArray.data_extract]; simp
theorem ext_drop (s : ByteArray) (k : Nat) : (s.extract k s.size).data.toList = s.data.toList.drop k := by
  rw [ByteArray.data_extract, Array.toList_extract, List.extract_eq_take_drop]
  exact List.take_of_length_le (by simp)
theorem w64 (n : Int) (h : -9223372036854775808 ≤ n ∧ n ≤ 9223372036854775807) : wrap64 n = n := by unfold wrap64; omega
theorem split_mid (l : List UInt8) (k n : Nat) : l = l.take k ++ ((l.drop k).take n ++ l.drop (k + n)) := by
  have h := List.take_append_drop n (l.drop k)
  rw [List.drop_drop] at h
  rw [h, List.take_append_drop]
theorem split_two (l : List UInt8) (k : Nat) (h : k + 1 < l.length) : l = l.take k ++ (l[k] :: l[k + 1] :: l.drop (k + 2)) := by
  rw [← List.drop_eq_getElem_cons h, ← List.drop_eq_getElem_cons (by omega), List.take_append_drop]
theorem two_first (s : ByteArray) (h : 1 < s.size) : s.data.toList.take 2 = [s[0], s[1]] := by
  have hl : 1 < s.data.toList.length := h
  have e := split_two s.data.toList 0 (by omega)
  rw [List.take_zero, List.nil_append] at e
  rw [e]
  rfl
theorem drop_sum (l : List UInt8) (i m : Nat) (hm : m % 2 = 0) : (wordsL (l.drop (i + m))).sum ≤ (wordsL (l.drop i)).sum := by
  rcases Nat.lt_or_ge m (l.drop i).length with h | h
  · have e := List.take_append_drop m (l.drop i)
    rw [List.drop_drop] at e
    have this : (wordsL ((l.drop i).take m ++ l.drop (i + m))).sum = (wordsL (l.drop i)).sum := by rw [e]
    rw [wordsL_append _ _ (by rw [List.length_take]; omega), List.sum_append] at this
    omega
  · rw [List.drop_of_length_le (l := l) (i := i + m) (by rw [List.length_drop] at h; omega)]
    exact Nat.zero_le _
theorem ext_mid (s : ByteArray) (k n : Nat) : (s.extract k (k + n)).data.toList = (s.data.toList.drop k).take n := by
  rw [ByteArray.data_extract, Array.toList_extract, List.extract_eq_take_drop, Nat.add_sub_cancel_left]

set_option maxRecDepth 100000 in
set_option maxHeartbeats 4000000 in
theorem walk (a0 : ByteArray) (a1 : Int) (a2 : ByteArray) (w : World) (w0 : a0.size ≤ maxLen) (w1 : (Lit.int .u16 a1).wf = true) (w2 : a2.size ≤ maxLen) :
    Calls Try.prog 12 #[.string a0, .int .u16 a1, .string a2] w fun e w' => e = .returned (.bool true) ∧ Below w.heap.size w w' := by
  obtain ⟨l1, g1⟩ := bounds_u16 w1
  clear w1
  unfold maxLen at w0 w2
  by_cases h1 : 2048 < a0.size
  · go_enter Try.func12, Try.ntmps12
    go_wp2_with fail
    (with_reducible refine (alive_sum _).mono ?_)
    rintro e w3 ⟨rfl, hb3⟩
    go_wp2
    go_ret
    exact ⟨rfl, hb3⟩
  by_cases h2 : 2048 < a2.size
  · go_enter Try.func12, Try.ntmps12
    go_wp2_with fail
    (with_reducible refine (alive_sum _).mono ?_)
    rintro e w3 ⟨rfl, hb3⟩
    go_wp2
    go_ret
    exact ⟨rfl, hb3⟩
  go_enter Try.func12, Try.ntmps12
  go_upto_region 4 with fail
  obtain ⟨s, hs⟩ : ∃ s, a0.extract 0 (a0.size / 2 * 2) = s := ⟨_, rfl⟩
  have hsz : s.size = a0.size / 2 * 2 := by rw [← hs]; simp; omega
  rw [hs]
  have hev : s.size % 2 = 0 := by omega
  have hsl : s.size ≤ 2048 := by omega
  clear hs hsz
  obtain ⟨k, hk⟩ : ∃ k : Nat, (k : Int) = a1 % ((s.size : Int) / 2 + 1) * 2 := ⟨(a1 % ((s.size : Int) / 2 + 1) * 2).toNat, Int.toNat_of_nonneg (by have := Int.emod_nonneg a1 (show (s.size : Int) / 2 + 1 ≠ 0 by omega); omega)⟩
  have hkl : k ≤ s.size := by have := Int.emod_lt_of_pos a1 (show (0 : Int) < (s.size : Int) / 2 + 1 by omega); omega
  have hke : k % 2 = 0 := by omega
  have m1 : 0 ≤ a1 % ((s.size : Int) / 2 + 1) := by omega
  have m2 : a1 % ((s.size : Int) / 2 + 1) ≤ 2048 := by omega
  have HK := Lib.hid hk
  clear hk
  go_upto_region 5 with fail
  rw [← HK.out]
  clear m1 m2 l1 g1
  obtain ⟨n, hn⟩ : ∃ n : Nat, (n : Int) = min ((s.size : Int) - (k : Int)) (a2.size : Int) / 2 * 2 := ⟨min (s.size - k) a2.size / 2 * 2, by omega⟩
  have hnk : k + n ≤ s.size := by omega
  have hna : n ≤ a2.size := by omega
  have hne : n % 2 = 0 := by omega
  have HN := Lib.hid hn
  clear hn
  have i0 : (0 : Int) ≤ (s.size : Int) - (k : Int) := by omega
  go_upto_region 6 with fail
  rw [← HN.out]
  clear i0 h1 h2
  have i1 : (0 : Int) ≤ (k : Int) := by omega
  have i2 : (k : Int) ≤ (s.size : Int) := by omega
  have i3 : (0 : Int) ≤ (n : Int) := by omega
  have i4 : (n : Int) ≤ (a2.size : Int) := by omega
  have i5 : (0 : Int) ≤ (k : Int) + (n : Int) := by omega
  have i6 : (k : Int) + (n : Int) ≤ (s.size : Int) := by omega
  go_region
  obtain ⟨t, ht⟩ : ∃ t, t = s.extract 0 k ++ a2.extract 0 n ++ s.extract (k + n) s.size := ⟨_, rfl⟩
  have htl : t.data.toList = s.data.toList.take k ++ (a2.data.toList.take n ++ s.data.toList.drop (k + n)) := by
    rw [ht, ByteArray.data_append, Array.toList_append, ByteArray.data_append, Array.toList_append, ext_take, ext_take, ext_drop, List.append_assoc]
  have htz : t.size ≤ maxLen := by
    have : t.data.toList.length ≤ 4096 := by rw [htl]; simp; omega
    unfold maxLen
    show t.data.toList.length ≤ _
    omega
  rw [← ht]
  clear ht
  obtain ⟨R, hR⟩ : ∃ R, R = (wordsL (s.data.toList.take k)).sum + (wordsL (s.data.toList.drop (k + n))).sum := ⟨_, rfl⟩
  have HRd := Lib.hid hR
  clear hR
  have Htl := Lib.hid htl
  clear htl
  have Htz := Lib.hid htz
  clear htz
  go_wp2_with fail
  go_loopw [11, 10] (fun i b wr => ∃ (j : Nat) (sure : Bool) (m : Nat), j ≤ s.size ∧ j % 2 = 0 ∧ i = .int .i64 (j : Int) ∧ b = .bool sure ∧ Hid (sure = true → 0 < R) ∧ wr = w.drewN m) (fun i _ _ => s.size - (intOf i).toNat)
  case atStart => exact ⟨0, false, 1, by omega, rfl, rfl, rfl, Lib.hid (fun h => by cases h), rfl⟩
  case round =>
    obtain ⟨j, sure, m, hj, hj2, rfl, rfl, HS, rfl⟩ := hrel
    by_cases hlt : j < s.size
    · have hj1 : j + 1 < s.size := by omega
      have b1 : s[j].toNat < 256 := s[j].toNat_lt
      have b2 : s[j + 1].toNat < 256 := s[j + 1].toNat_lt
      have j1 : (j : Int) < (s.size : Int) := by omega
      have j3 : (j : Int) + 1 < (s.size : Int) := by omega
      have j4 : (0 : Int) ≤ (j : Int) + 1 := by omega
      have hout := word_out s.data.toList k (k + n) j hke (by omega) hj2 hj1
      rw [← HRd.out] at hout
      have HO := Lib.hid hout
      clear hout
      go_upto_region 11 with fail
      go_region
      have hv : (s.data.toList[j]'hlt).toNat * 256 + (s.data.toList[j + 1]'hj1).toNat = s[j].toNat * 256 + s[j + 1].toNat := rfl
      have hO := HO.out
      rw [hv] at hO
      obtain ⟨v, hv2⟩ : ∃ v, v = s[j].toNat * 256 + s[j + 1].toNat := ⟨_, rfl⟩
      rw [show (s[j].toNat : Int) * 256 + (s[j + 1].toNat : Int) = (v : Int) by omega]
      rw [← hv2] at hO
      have hO2 := Lib.hid hO
      clear hv hO HO hv2
      rcases Bool.eq_false_or_eq_true sure with rfl | rfl
      · go_wp2
        go_roundw
        case rel => exact ⟨j + 2, true, m + 1, by omega, by omega, by go_num, rfl, HS, rfl⟩
        case measure => simp [intOf]; omega
      · by_cases c1 : j < k
        · have e1 : decide ((j : Int) < (k : Int)) = true := by simpa using c1
          by_cases c3 : v = 0
          · have e3 : ((v : Int) != 0) = false := by rw [bne_eq_false_iff_eq]; omega
            go_wp2
            go_roundw
            case rel => exact ⟨j + 2, false, m + 1, by omega, by omega, by go_num, rfl, Lib.hid (fun h => by cases h), rfl⟩
            case measure => simp [intOf]; omega
          · have e3 : ((v : Int) != 0) = true := by rw [bne_iff_ne]; omega
            by_cases c4 : v = 65535
            · have e4 : ((v : Int) != 65535) = false := by rw [bne_eq_false_iff_eq]; omega
              go_wp2
              go_roundw
              case rel => exact ⟨j + 2, false, m + 1, by omega, by omega, by go_num, rfl, Lib.hid (fun h => by cases h), rfl⟩
              case measure => simp [intOf]; omega
            · have e4 : ((v : Int) != 65535) = true := by rw [bne_iff_ne]; omega
              go_wp2
              go_roundw
              case rel => exact ⟨j + 2, true, m + 1, by omega, by omega, by go_num, rfl, Lib.hid (fun _ => by have := hO2.out (.inl c1); omega), rfl⟩
              case measure => simp [intOf]; omega
        · have e1 : decide ((j : Int) < (k : Int)) = false := by simpa using c1
          by_cases c2 : k + n ≤ j
          · have e2 : decide ((k : Int) + (n : Int) ≤ (j : Int)) = true := by rw [decide_eq_true_eq]; omega
            by_cases c3 : v = 0
            · have e3 : ((v : Int) != 0) = false := by rw [bne_eq_false_iff_eq]; omega
              go_wp2
              go_roundw
              case rel => exact ⟨j + 2, false, m + 1, by omega, by omega, by go_num, rfl, Lib.hid (fun h => by cases h), rfl⟩
              case measure => simp [intOf]; omega
            · have e3 : ((v : Int) != 0) = true := by rw [bne_iff_ne]; omega
              by_cases c4 : v = 65535
              · have e4 : ((v : Int) != 65535) = false := by rw [bne_eq_false_iff_eq]; omega
                go_wp2
                go_roundw
                case rel => exact ⟨j + 2, false, m + 1, by omega, by omega, by go_num, rfl, Lib.hid (fun h => by cases h), rfl⟩
                case measure => simp [intOf]; omega
              · have e4 : ((v : Int) != 65535) = true := by rw [bne_iff_ne]; omega
                go_wp2
                go_roundw
                case rel => exact ⟨j + 2, true, m + 1, by omega, by omega, by go_num, rfl, Lib.hid (fun _ => by have := hO2.out (.inr c2); omega), rfl⟩
                case measure => simp [intOf]; omega
          · have e2 : decide ((k : Int) + (n : Int) ≤ (j : Int)) = false := by rw [decide_eq_false_iff_not]; omega
            go_wp2
            go_roundw
            case rel => exact ⟨j + 2, false, m + 1, by omega, by omega, by go_num, rfl, Lib.hid (fun h => by cases h), rfl⟩
            case measure => simp [intOf]; omega
    · obtain rfl : j = s.size := by omega
      have hb0 : Below w.heap.size w (w.drewN m) := below_drewN (Below.refl _ _) m
      generalize w.drewN m = w2 at *
      have HB0 := Lib.hid hb0
      clear hb0
      rcases Bool.eq_false_or_eq_true sure with rfl | rfl
      · have hR0 := HS.out rfl
        rw [HRd.out] at hR0
        have hsp := split_mid s.data.toList k n
        have hll : s.data.toList.length = s.size := rfl
        have hla : a2.data.toList.length = a2.size := rfl
        have htt := turns_text (s.data.toList.take k) ((s.data.toList.drop k).take n) (a2.data.toList.take n) (s.data.toList.drop (k + n)) (by rw [List.length_take]; omega) (by rw [List.length_take, List.length_drop]; omega) (by rw [List.length_take, List.length_take, List.length_drop]; omega) hR0
        rw [← hsp, ← Htl.out] at htt
        have zx : (s.extract k (k + n)).size = n := by simp; omega
        have zy : (a2.extract 0 n).size = n := by simp; omega
        have tx : (s.extract k (k + n)).data.toList.take n = (s.data.toList.drop k).take n := by rw [ext_mid, List.take_take, Nat.min_self]
        have ty : (a2.extract 0 n).data.toList.take n = a2.data.toList.take n := by rw [ext_take, List.take_take, Nat.min_self]
        have hsz : s.size ≤ maxLen := by unfold maxLen; omega
        have q1l := ofL_le s.data.toList
        have q2l := ofL_le t.data.toList
        have u1 := fun w => turns_lit (ofL s.data.toList) (s.extract k (k + n)) (a2.extract 0 n) _ (ofL t.data.toList : Int) rfl (by rw [zx, zy, Nat.min_self, tx, ty, htt]) w (by omega) (by omega) (by omega)
        have os := fun g W (h : Blk W g 9 #[.string s]) => of_lit [s] _ (by rw [catS_one]) (by simp [hsz]) g 1 1 W rfl (by omega) h
        have ot := fun g W (h : Blk W g 9 #[.string t]) => of_lit [t] _ (by rw [catS_one]) (by simp [Htz.out]) g 1 1 W rfl (by omega) h
        obtain ⟨qs, hqs⟩ : ∃ q, q = ofL s.data.toList := ⟨_, rfl⟩
        obtain ⟨qt, hqt⟩ : ∃ q, q = ofL t.data.toList := ⟨_, rfl⟩
        rw [← hqs] at q1l u1 os
        rw [← hqt] at q2l u1 ot
        clear hsp htt zx zy tx ty hR0
        have U1 := Lib.hid u1
        have OS := Lib.hid os
        have OT := Lib.hid ot
        have HQS := Lib.hid hqs
        clear u1 os ot hqs hqt hsz hll hla
        go_upto_region 15 with fail
        have hb0 := HB0.out
        have i7 : (k : Int) ≤ (k : Int) + (n : Int) := by omega
        have i8 : k ≤ k + n := by omega
        have i9 : IntKind.i64.wrap ((k : Int) + (n : Int)) = (k : Int) + (n : Int) := by rw [IntKind.wrap_i64]; omega
        have i10 : ((k : Int) + (n : Int)).toNat = k + n := by omega
        go_cut [118] from 102 to 118 (fun d wx => d = .bool false ∧ Below w.heap.size w wx)
        case first =>
          go_region_held3 (fun w' => Below w.heap.size w w') (first
            | exact Below.drew (by assumption)
            | exact Below.alloc (by assumption) (Below.size (by assumption)) _
            | exact Below.trans (by assumption) (Below.mono hb (Below.size (by assumption)))) (first
            | (go_at_call 36; with_reducible refine (OS.out _ _ ?_).mono ?_; (first | (with_reducible exact Blk.new _ _ _) | (with_reducible exact Blk.alloc (Blk.new _ _ _) _) | (with_reducible exact Blk.newB _ _ _ _) | (with_reducible exact Blk.drew (Blk.new _ _ _)) | (with_reducible exact Blk.drew (Blk.alloc (Blk.new _ _ _) _)) | (with_reducible exact Blk.drew (Blk.newB _ _ _ _)) | ((with_reducible refine Blk.below (Blk.new _ _ _) hb ?_); focus (simp <;> omega)) | ((with_reducible refine Blk.below (Blk.alloc (Blk.new _ _ _) _) hb ?_); focus (simp <;> omega)) | ((with_reducible refine Blk.below (Blk.newB _ _ _ _) hb ?_); focus (simp <;> omega)) | ((with_reducible refine Blk.below (Blk.drew (Blk.new _ _ _)) hb ?_); focus (simp <;> omega)) | ((with_reducible refine Blk.below (Blk.drew (Blk.alloc (Blk.new _ _ _) _)) hb ?_); focus (simp <;> omega)) | ((with_reducible refine Blk.below (Blk.drew (Blk.newB _ _ _ _)) hb ?_); focus (simp <;> omega))); rintro e w' ⟨rfl, hb⟩; have hbS := hb)
            | (go_at_call 36; with_reducible refine (OT.out _ _ ?_).mono ?_; (first | (with_reducible exact Blk.new _ _ _) | (with_reducible exact Blk.alloc (Blk.new _ _ _) _) | (with_reducible exact Blk.newB _ _ _ _) | (with_reducible exact Blk.drew (Blk.new _ _ _)) | (with_reducible exact Blk.drew (Blk.alloc (Blk.new _ _ _) _)) | (with_reducible exact Blk.drew (Blk.newB _ _ _ _)) | ((with_reducible refine Blk.below (Blk.new _ _ _) hb ?_); focus (simp <;> omega)) | ((with_reducible refine Blk.below (Blk.alloc (Blk.new _ _ _) _) hb ?_); focus (simp <;> omega)) | ((with_reducible refine Blk.below (Blk.newB _ _ _ _) hb ?_); focus (simp <;> omega)) | ((with_reducible refine Blk.below (Blk.drew (Blk.new _ _ _)) hb ?_); focus (simp <;> omega)) | ((with_reducible refine Blk.below (Blk.drew (Blk.alloc (Blk.new _ _ _) _)) hb ?_); focus (simp <;> omega)) | ((with_reducible refine Blk.below (Blk.drew (Blk.newB _ _ _ _)) hb ?_); focus (simp <;> omega))); rintro e w' ⟨rfl, hb⟩)
            | (go_at_call 36; with_reducible refine (OT.out _ _ ?_).mono ?_; (first | ((with_reducible refine Blk.below (Blk.below (Blk.new _ _ _) hbS ?_) hb ?_); (focus (simp <;> omega)); (focus (have hz := hbS.size; simp at hz; omega))) | ((with_reducible refine Blk.below (Blk.below (Blk.alloc (Blk.new _ _ _) _) hbS ?_) hb ?_); (focus (simp <;> omega)); (focus (have hz := hbS.size; simp at hz; omega))) | ((with_reducible refine Blk.below (Blk.below (Blk.newB _ _ _ _) hbS ?_) hb ?_); (focus (simp <;> omega)); (focus (have hz := hbS.size; simp at hz; omega))) | ((with_reducible refine Blk.below (Blk.below (Blk.drew (Blk.new _ _ _)) hbS ?_) hb ?_); (focus (simp <;> omega)); (focus (have hz := hbS.size; simp at hz; omega))) | ((with_reducible refine Blk.below (Blk.below (Blk.drew (Blk.alloc (Blk.new _ _ _) _)) hbS ?_) hb ?_); (focus (simp <;> omega)); (focus (have hz := hbS.size; simp at hz; omega))) | ((with_reducible refine Blk.below (Blk.below (Blk.drew (Blk.newB _ _ _ _)) hbS ?_) hb ?_); (focus (simp <;> omega)); (focus (have hz := hbS.size; simp at hz; omega)))); rintro e w' ⟨rfl, hb⟩)
            | (go_at_call 43; with_reducible refine (U1.out _).mono ?_; rintro e w' ⟨rfl, hb⟩))
          all_goals (go_wp2_with fail)
          all_goals go_meet
          all_goals exact ⟨rfl, by assumption⟩
        case rest =>
          obtain ⟨rfl, hb6⟩ := hcut
          have HB6 := Lib.hid hb6
          clear hb6 hb0
          by_cases hn2 : 2 ≤ n
          · have e1 : decide ((2 : Int) ≤ (n : Int)) = true := by rw [decide_eq_true_eq]; omega
            have k1 : k < s.size := by omega
            have k2 : k + 1 < s.size := by omega
            have p1 : 0 < a2.size := by omega
            have p2 : 1 < a2.size := by omega
            have x1 : s[k].toNat < 256 := s[k].toNat_lt
            have x2 : s[k + 1].toNat < 256 := s[k + 1].toNat_lt
            have x3 : a2[0].toNat < 256 := a2[0].toNat_lt
            have x4 : a2[1].toNat < 256 := a2[1].toNat_lt
            have r1 := or_word s[k].toNat s[k + 1].toNat x1 x2
            have r2 := or_word a2[0].toNat a2[1].toNat x3 x4
            have y1 : (k : Int) < (s.size : Int) := by omega
            have y2 : (k : Int) + 1 < (s.size : Int) := by omega
            have y3 : (0 : Int) ≤ (k : Int) + 1 := by omega
            have y4 : (0 : Int) < (a2.size : Int) := by omega
            have y5 : (1 : Int) < (a2.size : Int) := by omega
            have y6 : (2 : Int) ≤ (a2.size : Int) := by omega
            have y7 : (k : Int) + 2 ≤ (s.size : Int) := by omega
            have y8 : (0 : Int) ≤ (k : Int) + 2 := by omega
            go_upto_region 18 with fail
            go_region
            go_upto_region 19 with fail
            go_region
            go_upto_region 20 with fail
            go_region
            obtain ⟨wo, hwo⟩ : ∃ v : Nat, v = s[k].toNat * 256 + s[k + 1].toNat := ⟨_, rfl⟩
            obtain ⟨wn, hwn⟩ : ∃ v : Nat, v = a2[0].toNat * 256 + a2[1].toNat := ⟨_, rfl⟩
            rw [show (s[k].toNat : Int) * 256 + (s[k + 1].toNat : Int) = (wo : Int) by omega, show (a2[0].toNat : Int) * (256 : Int) + (a2[1].toNat : Int) = (wn : Int) by omega]
            obtain ⟨o, ho⟩ : ∃ o, o = s.extract 0 k ++ a2.extract 0 2 ++ s.extract (k + 2) s.size := ⟨_, rfl⟩
            have hol : o.data.toList = s.data.toList.take k ++ (a2[0] :: a2[1] :: s.data.toList.drop (k + 2)) := by
              rw [ho, ByteArray.data_append, Array.toList_append, ByteArray.data_append, Array.toList_append, ext_take, ext_take, ext_drop, List.append_assoc, two_first a2 p2]
              rfl
            have hoz : o.size ≤ maxLen := by
              have : o.data.toList.length ≤ 4096 := by rw [hol]; simp; omega
              unfold maxLen
              show o.data.toList.length ≤ _
              omega
            rw [← ho]
            clear ho
            have hR1 : 0 < (wordsL (s.data.toList.take k)).sum + (wordsL (s.data.toList.drop (k + 2))).sum := by
              have h0 := HS.out rfl
              rw [HRd.out] at h0
              have := drop_sum s.data.toList (k + 2) (n - 2) (by omega)
              rw [show k + 2 + (n - 2) = k + n by omega] at this
              omega
            have hl2 : s.data.toList.length = s.size := rfl
            have hsp := split_two s.data.toList k (by omega)
            have htt := turn_text (s.data.toList.take k) (s.data.toList.drop (k + 2)) s[k] s[k + 1] a2[0] a2[1] (by rw [List.length_take]; omega) hR1
            have e0 : s.data.toList[k]'(by omega) = s[k] := rfl
            have e2 : s.data.toList[k + 1]'(by omega) = s[k + 1] := rfl
            rw [e0, e2] at hsp
            rw [← hsp, ← hol, ← HQS.out] at htt
            rw [← hwo, ← hwn] at htt
            have tn := fun w => turn_lit qs wo wn _ _ _ (ofL o.data.toList : Int) rfl rfl rfl (by rw [htt]) w (by omega) (by omega) (by omega)
            clear hwo hwn
            have oo := fun g W (h : Blk W g 9 #[.string o]) => of_lit [o] _ (by rw [catS_one]) (by simp [hoz]) g 1 1 W rfl (by omega) h
            have q3l := ofL_le o.data.toList
            generalize ofL o.data.toList = qo at *
            have e5 : ((qo : Int) == (qo : Int)) = true := by simp
            have TN := Lib.hid tn
            have OO := Lib.hid oo
            clear tn oo htt hsp hol hoz hR1 e0 e2 r1 r2 hl2
            have hb6 := HB6.out
            go_wp2_with fail
            (with_reducible refine (OS.out _ _ (Blk.drew (Blk.drew (Blk.drew (Blk.new _ _ _))))).mono ?_)
            rintro e w7 ⟨rfl, hb7⟩
            have k6 := (((hb6.alloc hb6.size (.cells #[.string s] 9)).drew).drew).drew
            have k7 := k6.trans (hb7.mono k6.size)
            clear hb6 k6 hb7
            have HK7 := Lib.hid k7
            clear k7
            go_wp2_with fail
            (with_reducible refine (TN.out _).mono ?_)
            rintro e w8 ⟨rfl, hb8⟩
            have k8 := HK7.out.trans (hb8.mono HK7.out.size)
            clear hb8
            have HK8 := Lib.hid k8
            clear k8
            go_wp2_with fail
            (with_reducible refine (OO.out _ _ (Blk.new _ _ _)).mono ?_)
            rintro e w9 ⟨rfl, hb9⟩
            have k8 := HK8.out
            have k9 := k8.alloc k8.size (.cells #[.string o] 9)
            have k10 := k9.trans (hb9.mono k9.size)
            clear k8 k9 hb9
            have HK10 := Lib.hid k10
            clear k10
            go_wp2_with fail
            (with_reducible refine (alive_sum _).mono ?_)
            rintro e w10 ⟨rfl, hb10⟩
            go_wp2
            go_ret
            exact ⟨rfl, HK10.out.trans (hb10.mono HK10.out.size)⟩
          · have e1 : decide ((2 : Int) ≤ (n : Int)) = false := by rw [decide_eq_false_iff_not]; omega
            go_wp2_with fail
            go_wp2_with fail
            (with_reducible refine (alive_sum _).mono ?_)
            rintro e w3 ⟨rfl, hb3⟩
            go_wp2
            go_ret
            exact ⟨rfl, HB6.out.trans (hb3.mono HB6.out.size)⟩
      · go_wp2_with fail
        go_wp2_with fail
        (with_reducible refine (alive_sum _).mono ?_)
        rintro e w3 ⟨rfl, hb3⟩
        go_wp2
        go_ret
        exact ⟨rfl, HB0.out.trans (hb3.mono HB0.out.size)⟩

theorem own : ownKnob Try.prog.godebug = none := by kernel_rfl
theorem laidOut : laidOutB Try.prog = true := by kernel_rfl
set_option maxRecDepth 100000 in
theorem lifted (os : Os) (started : os.Started) (H : Type) (enc : TypeId × Value → H) :
    ReturnsInHanded {} Try.checked os 12 .any (Rows.sumTurnsSpec.pre6 enc Try.prog Try.f12 Rows.sumTurnsRow.domain false) (Rows.sumTurnsSpec.post enc Try.prog Try.f12 false true false false) := by
  refine returnsInHanded_of_change (C := Try.checked) own started (by kernel_rfl) Try.func12
    (ChangeSpec.witness6 (enc := enc) (C := Try.checked) false ⟨#[], #[.string ByteArray.empty, .int .u16 0, .string ByteArray.empty], []⟩ 8 (by kernel_rfl) (by kernel_rfl) (by kernel_rfl) (by kernel_rfl)) ?_
  intro W base args ds gs before hval0 hW hcnd _
  have hval : ∀ (j : Nat) t v, Try.f12.params[j]? = some t → args[j]? = some v → Value.okWide Try.prog W .any base t v := hval0
  have hW' := hW
  obtain ⟨p, q, hA0, hV, rfl, hfz, hnd⟩ := hW
  have hA : DataW.TrodAll enc Try.prog W 0 (fun _ => true) true Try.f12.params.toList args.toList ds p := hA0
  rw [Try.params12] at hA hval
  obtain ⟨v0, vs0, d0, ds0, p0, q0, hargs, rfl, rfl, h0, r0⟩ := trodAll_cons hA
  obtain ⟨v1, vs1, d1, ds1, p1, q1, rfl, rfl, rfl, h1, r1⟩ := trodAll_cons r0
  obtain ⟨v2, vs2, d2, ds2, p2, q2, rfl, rfl, rfl, h2, r2⟩ := trodAll_cons r1
  obtain ⟨rfl, rfl, rfl⟩ := trodAll_nil r2
  obtain rfl : args = #[v0, v1, v2] := by cases args; simp_all
  obtain ⟨rfl, rfl⟩ := trodVars_none hV
  obtain ⟨a0, rfl, rfl, rfl, w0⟩ := open_string Try.underlying9 (hval 0 9 v0 rfl rfl) h0
  obtain ⟨a1, rfl, rfl, rfl, w1⟩ := open_int Try.underlying40 (hval 1 40 v1 rfl rfl) h1
  obtain ⟨a2, rfl, rfl, rfl, w2⟩ := open_string Try.underlying9 (hval 2 9 v2 rfl rfl) h2
  clear hA0 hval0
  refine (walk a0 a1 a2 W w0 w1 w2).mono fun e W' ⟨he, bel⟩ => ?_
  subst he
  exact ⟨_, rfl, _, _, _, [], _, [], hW', trodAll_mk1 (shut_bool Try.underlying4 _), (trodAll_cons_mk (shut_string Try.underlying9 w0) (trodAll_cons_mk (shut_int Try.underlying40 w1) (trodAll_cons_mk (shut_string Try.underlying9 w2) trodAll_mk0))), rfl, bel.frame _, fun h => by cases h⟩

theorem over : Rows.sumTurnsRow.holds Try.pinned (OpenSpec.ofChange Rows.sumTurnsSpec) :=
  OpenClaim.holds_of_wide 12 Try.f12 rfl rfl rfl rfl rfl rfl rfl ⟨rfl, rfl, rfl, rfl, rfl⟩ rfl rfl rfl rfl rfl (by kernel_rfl) Try.func12 (by kernel_rfl)
    (of_decide_eq_true (by kernel_rfl)) (by unfold Func.isWrapper; first | (rw [if_pos (by decide +kernel)]; kernel_rfl) | (rw [if_neg (by decide +kernel)]; exact ⟨rfl, rfl⟩))
    (fun os started H enc _ => lifted os started H enc)

/-- THE STATEMENT -/
theorem proved : Rows.SumTurnsSaid := over
#print axioms proved
end Go.Proofs.Ytcfomapeiaobaaa.sumTurns
