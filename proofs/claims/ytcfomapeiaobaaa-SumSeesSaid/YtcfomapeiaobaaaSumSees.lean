/- The statement SumSees: a text in which one word is another one has another checksum, but for a word 0 that becomes 65535, or the other way round; for any text, any place, any word. -/
import Derived.Test.YtcfomapeiaobaaaSumAlive
import Derived.Test.YtcfomapeiaobaaaBytes
import Derived.Deep.DeepCutAuto
set_option linter.unusedVariables false
set_option linter.unusedSimpArgs false
namespace Go.Proofs.Ytcfomapeiaobaaa.sumSees
open Go.ChangeShapes Go.WideShapes Go.ChangeAt Go.RowKit
open Go.ChangeMaps (open_string shut_string)

theorem wordsL_append : ∀ (a b : List UInt8), a.length % 2 = 0 → wordsL (a ++ b) = wordsL a ++ wordsL b
  | [], b, _ => rfl
  | [x], b, h => absurd h (by simp)
  | x :: y :: t, b, h => by
    have := wordsL_append t b (by simp only [List.length_cons] at h; omega)
    simp only [List.cons_append, wordsL, this]
/-- the sum of a text's words, with one of them another -/
theorem sum_word (l : List UInt8) (k : Nat) (hk : k + 1 < l.length) (he : k % 2 = 0) (a b : UInt8) :
    ∃ R, (wordsL l).sum = R + (l[k].toNat * 256 + l[k + 1].toNat) ∧ (wordsL ((l.set k a).set (k + 1) b)).sum = R + (a.toNat * 256 + b.toNat) := by
  have e : l = l.take k ++ l[k] :: l[k + 1] :: l.drop (k + 2) := by
    rw [← List.drop_eq_getElem_cons hk, ← List.drop_eq_getElem_cons (by omega), List.take_append_drop]
  have e2 : (l.set k a).set (k + 1) b = l.take k ++ a :: b :: l.drop (k + 2) := by
    have hl : (l.take k).length = k := by rw [List.length_take]; omega
    generalize l[k] = x at e
    generalize l[k + 1] = y at e
    generalize l.take k = p at *
    generalize l.drop (k + 2) = r at *
    subst e
    subst hl
    rw [List.set_append_right _ _ (by omega), Nat.sub_self, List.set_cons_zero, List.set_append_right _ _ (by omega), show p.length + 1 - p.length = 1 by omega, List.set_cons_succ, List.set_cons_zero]
  have hl : (l.take k).length % 2 = 0 := by rw [List.length_take]; omega
  refine ⟨(wordsL (l.take k)).sum + (wordsL (l.drop (k + 2))).sum, ?_, ?_⟩
  · have := congrArg (fun z => (wordsL z).sum) e
    simp only [wordsL_append _ _ hl, wordsL, List.sum_append, List.sum_cons] at this
    omega
  · rw [e2, wordsL_append _ _ hl]
    simp only [wordsL, List.sum_append, List.sum_cons]
    omega
theorem w64 (n : Int) (h : -9223372036854775808 ≤ n ∧ n ≤ 9223372036854775807) : wrap64 n = n := by unfold wrap64; omega
theorem wrapXY (x y : Nat) (hx : x < 256) (hy : y < 256) : wrap64 (wrap64 (wrap64 (x : Int) * 256) + wrap64 (y : Int)) = (x : Int) * 256 + (y : Int) := by
  rw [w64 (x : Int) (by omega), w64 ((x : Int) * 256) (by omega), w64 (y : Int) (by omega), w64 ((x : Int) * 256 + (y : Int)) (by omega)]
theorem nrm_same {a b : Nat} (h : a = b) : nrm a = nrm b := by rw [h]
theorem nrm_ne {R a b : Nat} (h : a % 65535 ≠ b % 65535) : nrm (R + a) ≠ nrm (R + b) := by
  unfold nrm
  intro e
  split at e <;> split at e <;> omega
theorem str_back (W1 : World) (g cap k : Nat) (l : List UInt8) (a b : UInt8) (hk : k + 1 < l.length) (hc : ∀ j (h : j < l.length), W1.cell? ⟨g, j, none⟩ = some (.int .u8 (l[j].toNat : Int))) :
    ∀ j (h : j < ((l.set k a).set (k + 1) b).length), ((W1.setCell ⟨g, k, none⟩ (.int .u8 (a.toNat : Int))).setCell ⟨g, k + 1, none⟩ (.int .u8 (b.toNat : Int))).cell? ((⟨g, 0, none⟩ : Addr).add j) = some (.int .u8 (((l.set k a).set (k + 1) b)[j].toNat : Int)) := by
  intro j hj
  have hjl : j < l.length := by simpa using hj
  rw [add_plain, Nat.zero_add]
  have c1 := hc (k + 1) hk
  have c0 := hc k (by omega)
  have c1' : (W1.setCell ⟨g, k, none⟩ (.int .u8 (a.toNat : Int))).cell? ⟨g, k + 1, none⟩ = some (.int .u8 (l[k + 1].toNat : Int)) := by
    rw [World.cell?_setCell_other _ _ _ _ (by simp)]; exact c1
  by_cases h1 : j = k + 1
  · subst h1
    rw [World.cell?_setCell_same' _ _ _ (by rw [c1']; rfl)]
    simp
  · rw [World.cell?_setCell_other _ _ _ _ (by intro e; injection e with _ e; omega)]
    by_cases h0 : j = k
    · subst h0
      rw [World.cell?_setCell_same' _ _ _ (by rw [c0]; rfl), List.getElem_set_ne (by omega)]
      simp
    · rw [World.cell?_setCell_other _ _ _ _ (by intro e; injection e with _ e; omega), hc j hjl, List.getElem_set_ne (by omega), List.getElem_set_ne (by omega)]

set_option maxRecDepth 100000 in
set_option maxHeartbeats 4000000 in
theorem walk (a0 : ByteArray) (a1 a2 a3 : Int) (w : World) (w0 : a0.size ≤ maxLen) (w1 : (Lit.int .u16 a1).wf = true) (w2 : (Lit.int .u8 a2).wf = true) (w3 : (Lit.int .u8 a3).wf = true) :
    Calls Try.prog 13 #[.string a0, .int .u16 a1, .int .u8 a2, .int .u8 a3] w fun e w' => e = .returned (.bool true) ∧ Below w.heap.size w w' := by
  obtain ⟨l1, g1⟩ := bounds_u16 w1
  obtain ⟨l2, g2⟩ := bounds_u8 w2
  obtain ⟨l3, g3⟩ := bounds_u8 w3
  clear w1 w2 w3
  by_cases h1 : 2048 < a0.size
  · go_enter Try.func13, Try.ntmps13
    go_wp2_with fail
    (with_reducible refine (alive_sum _).mono ?_)
    rintro e w3 ⟨rfl, hb3⟩
    go_wp2
    go_ret
    exact ⟨rfl, hb3⟩
  go_enter Try.func13, Try.ntmps13
  go_upto_region 4 with fail
  obtain ⟨s, hs⟩ : ∃ s, a0.extract 0 (a0.size / 2 * 2) = s := ⟨_, rfl⟩
  have hsz : s.size = a0.size / 2 * 2 := by rw [← hs]; simp; omega
  rw [hs]
  have hev : s.size % 2 = 0 := by omega
  have hsl : s.size ≤ 2048 := by omega
  clear hs hsz
  by_cases hz : s.size = 0
  · have e1 : ((s.size : Int) == 0) = true := by rw [beq_iff_eq]; omega
    clear hz
    go_wp2_with fail
    (with_reducible refine (alive_sum _).mono ?_)
    rintro e w3 ⟨rfl, hb3⟩
    go_wp2
    go_ret
    exact ⟨rfl, hb3⟩
  have e1 : ((s.size : Int) == 0) = false := by rw [beq_eq_false_iff_ne]; omega
  obtain ⟨k, hk⟩ : ∃ k : Nat, (k : Int) = a1 % ((s.size : Int) / 2) * 2 := ⟨(a1 % ((s.size : Int) / 2) * 2).toNat, Int.toNat_of_nonneg (by have := Int.emod_nonneg a1 (show (s.size : Int) / 2 ≠ 0 by omega); omega)⟩
  have hkl : k + 1 < s.size := by have := Int.emod_lt_of_pos a1 (show (0 : Int) < (s.size : Int) / 2 by omega); omega
  have hke : k % 2 = 0 := by omega
  have hne : ¬ (s.size : Int) / 2 = 0 := by omega
  have m1 : 0 ≤ a1 % ((s.size : Int) / 2) := by omega
  have m2 : a1 % ((s.size : Int) / 2) ≤ 2048 := by omega
  have HK := Lib.hid hk
  clear hk
  go_upto_region 7 with fail
  rw [← HK.out]
  clear m1 m2 hne h1 l1 g1
  obtain ⟨A, rfl⟩ : ∃ A : UInt8, a2 = (A.toNat : Int) := ⟨UInt8.ofNat a2.toNat, by rw [UInt8.toNat_ofNat']; omega⟩
  obtain ⟨B, rfl⟩ : ∃ B : UInt8, a3 = (B.toNat : Int) := ⟨UInt8.ofNat a3.toNat, by rw [UInt8.toNat_ofNat']; omega⟩
  obtain ⟨W1, cap, hr, hB, hs1, hc, hf⟩ := run_bytes_list w s _ rfl
  have hll : s.data.toList.length = s.size := rfl
  rw [hll] at hr hf
  have hkL : k + 1 < s.data.toList.length := hkl
  have hback := str_back W1 w.heap.size cap k s.data.toList A B hkL hc
  obtain ⟨R, hR1, hR2⟩ := sum_word s.data.toList k hkL hke A B
  have c0 := hc k (by omega)
  have c1 := hc (k + 1) hkL
  have f0 := hf k (by omega)
  have f1 := hf (k + 1) hkl
  rw [show s.data.toList[k] = s[k] from rfl] at hR1 c0
  rw [show s.data.toList[k + 1] = s[k + 1] from rfl] at hR1 c1
  obtain ⟨X, hX⟩ : ∃ X, X = s[k] := ⟨_, rfl⟩
  obtain ⟨Y, hY⟩ : ∃ Y, Y = s[k + 1] := ⟨_, rfl⟩
  rw [← hX] at hR1 c0
  rw [← hY] at hR1 c1
  have Hback := Lib.hid hback
  clear hback
  have HR1 := Lib.hid hR1
  clear hR1
  have HR2 := Lib.hid hR2
  clear hR2
  have HB := Lib.hid hB
  clear hB
  clear hc hf hll hs1
  go_upto_region 10 with fail
  have hb2 : Below w.heap.size w ((W1.setCell ⟨w.heap.size, k, none⟩ (.int .u8 (A.toNat : Int))).setCell ⟨w.heap.size, k + 1, none⟩ (.int .u8 (B.toNat : Int))) :=
    (HB.out.setCell (p := ⟨w.heap.size, k, none⟩) (Nat.le_refl _) _).setCell (p := ⟨w.heap.size, k + 1, none⟩) (Nat.le_refl _) _
  obtain ⟨W2, hW2⟩ : ∃ W2, W2 = (W1.setCell ⟨w.heap.size, k, none⟩ (.int .u8 (A.toNat : Int))).setCell ⟨w.heap.size, k + 1, none⟩ (.int .u8 (B.toNat : Int)) := ⟨_, rfl⟩
  rw [← hW2] at hb2 Hback ⊢
  clear c0 c1 f0 f1 hr hW2
  have Hb2 := Lib.hid hb2
  clear hb2
  have hk1 : k < s.size := by omega
  have hkI0 : (k : Int) < (s.size : Int) := by omega
  have HX := Lib.hid hX
  have HY := Lib.hid hY
  clear hX hY
  have hkI2 : (k : Int) + 1 < (s.size : Int) := by omega
  have hkI3 : (0 : Int) ≤ (k : Int) + 1 := by omega
  go_region
  rw [← HX.out, ← HY.out]
  clear HX HY hkI0
  have hA := A.toNat_lt
  have hBt := B.toNat_lt
  have hXt := X.toNat_lt
  have hYt := Y.toNat_lt
  rw [show wrap64 (wrap64 (wrap64 (X.toNat : Int) * 256) + wrap64 (Y.toNat : Int)) = (X.toNat : Int) * 256 + (Y.toNat : Int) from wrapXY X.toNat Y.toNat hXt hYt]
  by_cases hsame : (X.toNat * 256 + Y.toNat) % 65535 = (A.toNat * 256 + B.toNat) % 65535
  · have s1 : (((X.toNat : Int) * 256 + (Y.toNat : Int)) % 65535 == ((A.toNat : Int) * 256 + (B.toNat : Int)) % 65535) = true := by rw [beq_iff_eq]; omega
    by_cases heq : X.toNat * 256 + Y.toNat = A.toNat * 256 + B.toNat
    · have s2 : (((X.toNat : Int) * 256 + (Y.toNat : Int)) != ((A.toNat : Int) * 256 + (B.toNat : Int))) = false := by rw [bne_eq_false_iff_eq]; omega

      have hst := run_bytes_back W2.drew ⟨w.heap.size, 0, none⟩ s.size cap ((s.data.toList.set k A).set (k + 1) B) (by simp) (fun j hj => Hback.out j hj)
      obtain ⟨t, ht⟩ : ∃ t : ByteArray, t = ⟨((s.data.toList.set k A).set (k + 1) B).toArray⟩ := ⟨_, rfl⟩
      rw [← ht] at hst
      have htl : t.data.toList = (s.data.toList.set k A).set (k + 1) B := by rw [ht]
      have htz : t.size ≤ maxLen := by
        have : t.data.toList.length = s.data.toList.length := by rw [htl]; simp
        unfold maxLen
        show t.data.toList.length ≤ _
        rw [this]
        show s.size ≤ _
        omega
      have hsz : s.size ≤ maxLen := by unfold maxLen; omega
      clear ht
      have qt : ofL (catS [t]) = 65535 - nrm (R + (A.toNat * 256 + B.toNat)) := by rw [catS_one, ofL, htl, HR2.out]
      have qs : ofL (catS [s]) = 65535 - nrm (R + (X.toNat * 256 + Y.toNat)) := by rw [catS_one, ofL, HR1.out]
      have hqq : ((((65535 - nrm (R + (A.toNat * 256 + B.toNat)) : Nat) : Int) == ((65535 - nrm (R + (X.toNat * 256 + Y.toNat)) : Nat) : Int))) = true := by rw [heq]; simp
      generalize 65535 - nrm (R + (A.toNat * 256 + B.toNat)) = q2 at *
      generalize 65535 - nrm (R + (X.toNat * 256 + Y.toNat)) = q1 at *
      have ot := fun g W (h : Blk W g 9 #[.string t]) => of_lit [t] _ (by rw [qt]) (by simp [htz]) g 1 1 W rfl (by omega) h
      have os := fun g W (h : Blk W g 9 #[.string s]) => of_lit [s] _ (by rw [qs]) (by simp [hsz]) g 1 1 W rfl (by omega) h
      clear qt qs htl htz hsz
      have Ot := Lib.hid ot
      clear ot
      have Os := Lib.hid os
      clear os
      go_wp2_with fail
      have hb3 := Hb2.out
      go_wp2_with fail
      (with_reducible refine (Ot.out _ _ (Blk.drew (Blk.new _ _ _))).mono ?_)
      rintro e w4 ⟨rfl, hb4⟩
      have k4 := (hb3.alloc hb3.size (.cells #[.string t] 9)).drew
      have k5 := k4.trans (hb4.mono k4.size)
      clear hb3 hb4 k4
      have HK5 := Lib.hid k5
      clear k5
      go_wp2_with fail
      (with_reducible refine (Os.out _ _ (Blk.new _ _ _)).mono ?_)
      rintro e w6 ⟨rfl, hb6⟩
      have k5 := HK5.out
      have k6 := k5.alloc k5.size (.cells #[.string s] 9)
      have k7 := k6.trans (hb6.mono k6.size)
      clear k5 k6 hb6
      have HK7 := Lib.hid k7
      clear k7
      go_wp2_with fail
      (with_reducible refine (alive_sum _).mono ?_)
      rintro e w8 ⟨rfl, hb8⟩
      go_wp2
      go_ret
      exact ⟨rfl, HK7.out.trans (hb8.mono HK7.out.size)⟩
    · have s2 : (((X.toNat : Int) * 256 + (Y.toNat : Int)) != ((A.toNat : Int) * 256 + (B.toNat : Int))) = true := by rw [bne_iff_ne]; omega
      go_wp2_with fail
      go_wp2_with fail
      (with_reducible refine (alive_sum _).mono ?_)
      rintro e w3 ⟨rfl, hb3⟩
      go_wp2
      go_ret
      exact ⟨rfl, (Below.drew Hb2.out).trans (hb3.mono Hb2.out.size)⟩
  · have s1 : (((X.toNat : Int) * 256 + (Y.toNat : Int)) % 65535 == ((A.toNat : Int) * 256 + (B.toNat : Int)) % 65535) = false := by rw [beq_eq_false_iff_ne]; omega

    have hst := run_bytes_back W2.drew ⟨w.heap.size, 0, none⟩ s.size cap ((s.data.toList.set k A).set (k + 1) B) (by simp) (fun j hj => Hback.out j hj)
    obtain ⟨t, ht⟩ : ∃ t : ByteArray, t = ⟨((s.data.toList.set k A).set (k + 1) B).toArray⟩ := ⟨_, rfl⟩
    rw [← ht] at hst
    have htl : t.data.toList = (s.data.toList.set k A).set (k + 1) B := by rw [ht]
    have htz : t.size ≤ maxLen := by
      have : t.data.toList.length = s.data.toList.length := by rw [htl]; simp
      unfold maxLen
      show t.data.toList.length ≤ _
      rw [this]
      show s.size ≤ _
      omega
    have hsz : s.size ≤ maxLen := by unfold maxLen; omega
    clear ht
    have qt : ofL (catS [t]) = 65535 - nrm (R + (A.toNat * 256 + B.toNat)) := by rw [catS_one, ofL, htl, HR2.out]
    have qs : ofL (catS [s]) = 65535 - nrm (R + (X.toNat * 256 + Y.toNat)) := by rw [catS_one, ofL, HR1.out]
    have hqq : ((((65535 - nrm (R + (A.toNat * 256 + B.toNat)) : Nat) : Int) == ((65535 - nrm (R + (X.toNat * 256 + Y.toNat)) : Nat) : Int))) = false := by
      have h1 := nrm_ne (R := R) hsame
      have h2 := nrm_le (R + (X.toNat * 256 + Y.toNat))
      have h3 := nrm_le (R + (A.toNat * 256 + B.toNat))
      rw [beq_eq_false_iff_ne]
      omega
    generalize 65535 - nrm (R + (A.toNat * 256 + B.toNat)) = q2 at *
    generalize 65535 - nrm (R + (X.toNat * 256 + Y.toNat)) = q1 at *
    have ot := fun g W (h : Blk W g 9 #[.string t]) => of_lit [t] _ (by rw [qt]) (by simp [htz]) g 1 1 W rfl (by omega) h
    have os := fun g W (h : Blk W g 9 #[.string s]) => of_lit [s] _ (by rw [qs]) (by simp [hsz]) g 1 1 W rfl (by omega) h
    clear qt qs htl htz hsz
    have Ot := Lib.hid ot
    clear ot
    have Os := Lib.hid os
    clear os
    go_wp2_with fail
    have hb3 := Hb2.out
    go_wp2_with fail
    (with_reducible refine (Ot.out _ _ (Blk.drew (Blk.new _ _ _))).mono ?_)
    rintro e w4 ⟨rfl, hb4⟩
    have k4 := (hb3.alloc hb3.size (.cells #[.string t] 9)).drew
    have k5 := k4.trans (hb4.mono k4.size)
    clear hb3 hb4 k4
    have HK5 := Lib.hid k5
    clear k5
    go_wp2_with fail
    (with_reducible refine (Os.out _ _ (Blk.new _ _ _)).mono ?_)
    rintro e w6 ⟨rfl, hb6⟩
    have k5 := HK5.out
    have k6 := k5.alloc k5.size (.cells #[.string s] 9)
    have k7 := k6.trans (hb6.mono k6.size)
    clear k5 k6 hb6
    have HK7 := Lib.hid k7
    clear k7
    go_wp2_with fail
    (with_reducible refine (alive_sum _).mono ?_)
    rintro e w8 ⟨rfl, hb8⟩
    go_wp2
    go_ret
    exact ⟨rfl, HK7.out.trans (hb8.mono HK7.out.size)⟩

theorem own : ownKnob Try.prog.godebug = none := by kernel_rfl
theorem laidOut : laidOutB Try.prog = true := by kernel_rfl
set_option maxRecDepth 100000 in
theorem lifted (os : Os) (started : os.Started) (H : Type) (enc : TypeId × Value → H) :
    ReturnsInHanded {} Try.checked os 13 .any (Rows.sumSeesSpec.pre6 enc Try.prog Try.f13 Rows.sumSeesRow.domain false) (Rows.sumSeesSpec.post enc Try.prog Try.f13 false true false false) := by
  refine returnsInHanded_of_change (C := Try.checked) own started (by kernel_rfl) Try.func13
    (ChangeSpec.witness6 (enc := enc) (C := Try.checked) false ⟨#[], #[.string ByteArray.empty, .int .u16 0, .int .u8 0, .int .u8 0], []⟩ 8 (by kernel_rfl) (by kernel_rfl) (by kernel_rfl) (by kernel_rfl)) ?_
  intro W base args ds gs before hval0 hW hcnd _
  have hval : ∀ (j : Nat) t v, Try.f13.params[j]? = some t → args[j]? = some v → Value.okWide Try.prog W .any base t v := hval0
  have hW' := hW
  obtain ⟨p, q, hA0, hV, rfl, hfz, hnd⟩ := hW
  have hA : DataW.TrodAll enc Try.prog W 0 (fun _ => true) true Try.f13.params.toList args.toList ds p := hA0
  rw [Try.params13] at hA hval
  obtain ⟨v0, vs0, d0, ds0, p0, q0, hargs, rfl, rfl, h0, r0⟩ := trodAll_cons hA
  obtain ⟨v1, vs1, d1, ds1, p1, q1, rfl, rfl, rfl, h1, r1⟩ := trodAll_cons r0
  obtain ⟨v2, vs2, d2, ds2, p2, q2, rfl, rfl, rfl, h2, r2⟩ := trodAll_cons r1
  obtain ⟨v3, vs3, d3, ds3, p3, q3, rfl, rfl, rfl, h3, r3⟩ := trodAll_cons r2
  obtain ⟨rfl, rfl, rfl⟩ := trodAll_nil r3
  obtain rfl : args = #[v0, v1, v2, v3] := by cases args; simp_all
  obtain ⟨rfl, rfl⟩ := trodVars_none hV
  obtain ⟨a0, rfl, rfl, rfl, w0⟩ := open_string Try.underlying9 (hval 0 9 v0 rfl rfl) h0
  obtain ⟨a1, rfl, rfl, rfl, w1⟩ := open_int Try.underlying40 (hval 1 40 v1 rfl rfl) h1
  obtain ⟨a2, rfl, rfl, rfl, w2⟩ := open_int Try.underlying5 (hval 2 5 v2 rfl rfl) h2
  obtain ⟨a3, rfl, rfl, rfl, w3⟩ := open_int Try.underlying5 (hval 3 5 v3 rfl rfl) h3
  clear hA0 hval0
  refine (walk a0 a1 a2 a3 W w0 w1 w2 w3).mono fun e W' ⟨he, bel⟩ => ?_
  subst he
  exact ⟨_, rfl, _, _, _, [], _, [], hW', trodAll_mk1 (shut_bool Try.underlying4 _), (trodAll_cons_mk (shut_string Try.underlying9 w0) (trodAll_cons_mk (shut_int Try.underlying40 w1) (trodAll_cons_mk (shut_int Try.underlying5 w2) (trodAll_cons_mk (shut_int Try.underlying5 w3) trodAll_mk0)))), rfl, bel.frame _, fun h => by cases h⟩

theorem over : Rows.sumSeesRow.holds Try.pinned (OpenSpec.ofChange Rows.sumSeesSpec) :=
  OpenClaim.holds_of_wide 13 Try.f13 rfl rfl rfl rfl rfl rfl rfl ⟨rfl, rfl, rfl, rfl, rfl⟩ rfl rfl rfl rfl rfl (by kernel_rfl) Try.func13 (by kernel_rfl)
    (of_decide_eq_true (by kernel_rfl)) (by unfold Func.isWrapper; first | (rw [if_pos (by decide +kernel)]; kernel_rfl) | (rw [if_neg (by decide +kernel)]; exact ⟨rfl, rfl⟩))
    (fun os started H enc _ => lifted os started H enc)

/-- THE STATEMENT -/
theorem proved : Rows.SumSeesSaid := over
#print axioms proved
end Go.Proofs.Ytcfomapeiaobaaa.sumSees
