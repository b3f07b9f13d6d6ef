/- The statement SumParts: it makes no difference into which parts a text is cut; the checksums of two texts, the first one of an even number of bytes, make that of both; a text which bears its checksum is right; for any text, any place. -/
import Derived.Test.YtcfomapeiaobaaaSumAlive
import Derived.Test.YtcfomapeiaobaaaBytes
import Derived.Deep.DeepCutAuto
set_option linter.unusedVariables false
set_option linter.unusedSimpArgs false
namespace Go.Proofs.Ytcfomapeiaobaaa.sumParts
open Go.ChangeShapes Go.WideShapes Go.ChangeAt Go.RowKit
open Go.ChangeMaps (open_string shut_string)

theorem wordsL_append : ∀ (a b : List UInt8), a.length % 2 = 0 → wordsL (a ++ b) = wordsL a ++ wordsL b
  | [], b, _ => rfl
  | [x], b, h => absurd h (by simp)
  | x :: y :: t, b, h => by
    have := wordsL_append t b (by simp only [List.length_cons] at h; omega)
    simp only [List.cons_append, wordsL, this]
theorem wordsL_zero : ∀ (a : List UInt8), a.length % 2 = 1 → wordsL (a ++ [0]) = wordsL a
  | [], h => absurd h (by simp)
  | [x], h => by simp [wordsL]
  | x :: y :: t, h => by
    have := wordsL_zero t (by simp only [List.length_cons] at h; omega)
    simp only [List.cons_append, wordsL, this]
theorem catS_two (a b : ByteArray) : catS [a, b] = a.data.toList ++ b.data.toList := by simp [catS]
theorem nrm_add (a b : Nat) : nrm (nrm a + nrm b) = nrm (a + b) := by
  unfold nrm
  by_cases ha : a = 0 <;> by_cases hb : b = 0 <;> simp only [ha, hb, if_true, if_false] <;> (repeat' split) <;> omega
theorem join_parts (a b : List UInt8) (h : a.length % 2 = 0) : joinL (ofL a) (ofL b) = ofL (a ++ b) := by
  unfold joinL ofL
  rw [wordsL_append a b h, List.sum_append, ← nrm_add]
  have h1 := nrm_le (wordsL a).sum
  have h2 := nrm_le (wordsL b).sum
  rw [show 131070 - (65535 - nrm (wordsL a).sum) - (65535 - nrm (wordsL b).sum) = nrm (wordsL a).sum + nrm (wordsL b).sum by omega]
theorem nrm_all (s : Nat) : nrm (s + (65535 - nrm s)) = 65535 := by
  unfold nrm
  by_cases hs : s = 0
  · subst hs; rfl
  · simp only [hs, if_false]
    split <;> omega
theorem bears (e : List UInt8) (q : Nat) (he : e.length % 2 = 0) (hq : q = 65535 - nrm (wordsL e).sum) (x y : UInt8) (hx : x.toNat = q / 256) (hy : y.toNat = q % 256) : ofL (e ++ [x, y]) = 0 := by
  unfold ofL
  rw [wordsL_append e _ he]
  have : wordsL [x, y] = [q] := by simp only [wordsL, hx, hy]; congr 1; omega
  rw [this, List.sum_append]
  simp only [List.sum_cons, List.sum_nil, Nat.add_zero]
  rw [hq, nrm_all]

set_option maxRecDepth 100000 in
set_option maxHeartbeats 4000000 in
theorem walk (a0 : ByteArray) (a1 : Int) (w : World) (w0 : a0.size ≤ maxLen) (w1 : (Lit.int .u16 a1).wf = true) :
    Calls Try.prog 11 #[.string a0, .int .u16 a1] w fun e w' => e = .returned (.bool true) ∧ Below w.heap.size w w' := by
  obtain ⟨l1, g1⟩ := bounds_u16 w1
  clear w1
  by_cases h1 : 4096 < a0.size
  · go_enter Try.func11, Try.ntmps11
    go_wp2_with fail
    (with_reducible refine (alive_sum _).mono ?_)
    rintro e w3 ⟨rfl, hb3⟩
    go_wp2
    go_ret
    exact ⟨rfl, hb3⟩
  obtain ⟨k, hk⟩ : ∃ k : Nat, (k : Int) = a1 % ((a0.size : Int) + 1) := ⟨(a1 % ((a0.size : Int) + 1)).toNat, Int.toNat_of_nonneg (Int.emod_nonneg _ (by omega))⟩
  have hkl : k ≤ a0.size := by have := Int.emod_lt_of_pos a1 (show (0 : Int) < (a0.size : Int) + 1 by omega); omega
  have hkl' : (k : Int) ≤ (a0.size : Int) := by omega
  have x2 : catS [a0.extract 0 k, a0.extract k a0.size] = a0.data.toList := by
    unfold catS
    rw [List.map_cons, List.map_cons, List.map_nil, List.flatten_cons, List.flatten_cons, List.flatten_nil, List.append_nil, ByteArray.data_extract, ByteArray.data_extract, Array.toList_extract, Array.toList_extract, List.extract_eq_take_drop, List.extract_eq_take_drop, Nat.sub_zero, List.drop_zero]
    have e : List.take (a0.size - k) (List.drop k a0.data.toList) = List.drop k a0.data.toList := List.take_of_length_le (by simp)
    rw [e, List.take_append_drop]
  have x3 : catS [⟨#[]⟩, a0, ⟨#[]⟩] = a0.data.toList := by simp [catS]
  have x1 : catS [a0] = a0.data.toList := catS_one a0
  have z1 : a0.size ≤ maxLen := w0
  have z2 : ∀ i j, (a0.extract i j).size ≤ maxLen := by intro i j; unfold maxLen; simp; omega
  have z3 : ((⟨#[]⟩ : ByteArray)).size ≤ maxLen := by decide
  have o1 := fun g W (h : Blk W g 9 #[.string a0]) => of_lit [a0] _ (by rw [x1]) (by simp [z1]) g 1 1 W rfl (by omega) h
  have o2 := fun g W (h : Blk W g 9 #[.string (a0.extract 0 k), .string (a0.extract k a0.size)]) => of_lit [a0.extract 0 k, a0.extract k a0.size] _ (by rw [x2]) (by simp only [List.mem_cons, List.not_mem_nil, or_false]; rintro x (rfl | rfl) <;> exact z2 _ _) g 2 2 W rfl (by omega) h
  have o3 := fun g W (h : Blk W g 9 #[.string ⟨#[]⟩, .string a0, .string ⟨#[]⟩]) => of_lit [⟨#[]⟩, a0, ⟨#[]⟩] _ (by rw [x3]) (by simp only [List.mem_cons, List.not_mem_nil, or_false]; rintro x (rfl | rfl | rfl) <;> assumption) g 3 3 W rfl (by omega) h
  have hq := ofL_le a0.data.toList
  generalize hqq : ofL a0.data.toList = q at *
  have HQ := Lib.hid hqq
  clear x1 x2 x3 hqq
  have O1 := Lib.hid o1
  clear o1
  have O2 := Lib.hid o2
  clear o2
  have O3 := Lib.hid o3
  clear o3
  have Z2 := Lib.hid z2
  clear z2
  go_enter Try.func11, Try.ntmps11
  go_upto_region 4 with fail
  rw [← hk]
  clear hk
  have hk0 : (0 : Int) ≤ (k : Int) := by omega
  go_cut [38] from 18 to 38 (fun d wx => d = .bool false ∧ Below w.heap.size w wx)
  case first =>
    go_region_held3 (fun w' => Below w.heap.size w w') (first
      | exact Below.drew (Below.refl _ _)
      | exact Below.alloc (by assumption) (Below.size (by assumption)) _
      | exact Below.trans (by assumption) (Below.mono hb (Below.size (by assumption)))) (first
      | (go_at_call 36; with_reducible refine (O1.out _ _ ?_).mono ?_; (first | (with_reducible exact Blk.new _ _ _) | (with_reducible exact Blk.alloc (Blk.new _ _ _) _) | (with_reducible exact Blk.newB _ _ _ _) | (with_reducible exact Blk.drew (Blk.new _ _ _)) | (with_reducible exact Blk.drew (Blk.alloc (Blk.new _ _ _) _)) | (with_reducible exact Blk.drew (Blk.newB _ _ _ _)) | ((with_reducible refine Blk.below (Blk.new _ _ _) hb ?_); focus (simp <;> omega)) | ((with_reducible refine Blk.below (Blk.alloc (Blk.new _ _ _) _) hb ?_); focus (simp <;> omega)) | ((with_reducible refine Blk.below (Blk.newB _ _ _ _) hb ?_); focus (simp <;> omega)) | ((with_reducible refine Blk.below (Blk.drew (Blk.new _ _ _)) hb ?_); focus (simp <;> omega)) | ((with_reducible refine Blk.below (Blk.drew (Blk.alloc (Blk.new _ _ _) _)) hb ?_); focus (simp <;> omega)) | ((with_reducible refine Blk.below (Blk.drew (Blk.newB _ _ _ _)) hb ?_); focus (simp <;> omega))); rintro e w' ⟨rfl, hb⟩)
      | (go_at_call 36; with_reducible refine (O2.out _ _ ?_).mono ?_; (first | (with_reducible exact Blk.new _ _ _) | (with_reducible exact Blk.alloc (Blk.new _ _ _) _) | (with_reducible exact Blk.newB _ _ _ _) | (with_reducible exact Blk.drew (Blk.new _ _ _)) | (with_reducible exact Blk.drew (Blk.alloc (Blk.new _ _ _) _)) | (with_reducible exact Blk.drew (Blk.newB _ _ _ _)) | ((with_reducible refine Blk.below (Blk.new _ _ _) hb ?_); focus (simp <;> omega)) | ((with_reducible refine Blk.below (Blk.alloc (Blk.new _ _ _) _) hb ?_); focus (simp <;> omega)) | ((with_reducible refine Blk.below (Blk.newB _ _ _ _) hb ?_); focus (simp <;> omega)) | ((with_reducible refine Blk.below (Blk.drew (Blk.new _ _ _)) hb ?_); focus (simp <;> omega)) | ((with_reducible refine Blk.below (Blk.drew (Blk.alloc (Blk.new _ _ _) _)) hb ?_); focus (simp <;> omega)) | ((with_reducible refine Blk.below (Blk.drew (Blk.newB _ _ _ _)) hb ?_); focus (simp <;> omega))); rintro e w' ⟨rfl, hb⟩)
      | (go_at_call 36; with_reducible refine (O3.out _ _ ?_).mono ?_; (first | (with_reducible exact Blk.new _ _ _) | (with_reducible exact Blk.alloc (Blk.new _ _ _) _) | (with_reducible exact Blk.newB _ _ _ _) | (with_reducible exact Blk.drew (Blk.new _ _ _)) | (with_reducible exact Blk.drew (Blk.alloc (Blk.new _ _ _) _)) | (with_reducible exact Blk.drew (Blk.newB _ _ _ _)) | ((with_reducible refine Blk.below (Blk.new _ _ _) hb ?_); focus (simp <;> omega)) | ((with_reducible refine Blk.below (Blk.alloc (Blk.new _ _ _) _) hb ?_); focus (simp <;> omega)) | ((with_reducible refine Blk.below (Blk.newB _ _ _ _) hb ?_); focus (simp <;> omega)) | ((with_reducible refine Blk.below (Blk.drew (Blk.new _ _ _)) hb ?_); focus (simp <;> omega)) | ((with_reducible refine Blk.below (Blk.drew (Blk.alloc (Blk.new _ _ _) _)) hb ?_); focus (simp <;> omega)) | ((with_reducible refine Blk.below (Blk.drew (Blk.newB _ _ _ _)) hb ?_); focus (simp <;> omega))); rintro e w' ⟨rfl, hb⟩))
    all_goals (go_wp2_with fail)
    all_goals go_meet
    all_goals exact ⟨rfl, by assumption⟩
  case rest =>
    obtain ⟨rfl, hb4⟩ := hcut
    go_wp2_with fail
    (with_reducible refine (O1.out _ _ (Blk.new _ _ _)).mono ?_)
    rintro e w5 ⟨rfl, hb5⟩
    have hb5' := (hb4.alloc hb4.size (.cells #[.string a0] 9)).trans (hb5.mono (hb4.alloc hb4.size (.cells #[.string a0] 9)).size)
    clear hb4 hb5
    have HB5 := Lib.hid hb5'
    clear hb5'
    go_upto_region 8 with fail
    obtain ⟨j, hj⟩ : ∃ j : Nat, j = k / 2 * 2 := ⟨_, rfl⟩
    have hj2 : j % 2 = 0 := by omega
    have hjl : j ≤ a0.size := by omega
    have hjl' : (j : Int) ≤ (a0.size : Int) := by omega
    have hj0 : (0 : Int) ≤ (j : Int) := by omega
    rw [show (k : Int) / 2 * 2 = (j : Int) by omega]
    clear hj
    have y1 : catS [a0.extract 0 j] = a0.data.toList.take j := by rw [catS_one, ByteArray.data_extract]; simp
    have y2 : catS [a0.extract j a0.size] = a0.data.toList.drop j := by
      rw [catS_one, ByteArray.data_extract, Array.toList_extract, List.extract_eq_take_drop]
      exact List.take_of_length_le (by simp)
    have oa := fun g W (h : Blk W g 9 #[.string (a0.extract 0 j)]) => of_lit [a0.extract 0 j] _ (by rw [y1]) (by simp only [List.mem_cons, List.not_mem_nil, or_false]; rintro x rfl; exact Z2.out _ _) g 1 1 W rfl (by omega) h
    have ob := fun g W (h : Blk W g 9 #[.string (a0.extract j a0.size)]) => of_lit [a0.extract j a0.size] _ (by rw [y2]) (by simp only [List.mem_cons, List.not_mem_nil, or_false]; rintro x rfl; exact Z2.out _ _) g 1 1 W rfl (by omega) h
    have hjn := join_parts (a0.data.toList.take j) (a0.data.toList.drop j) (by rw [List.length_take]; simp; omega)
    rw [List.take_append_drop, HQ.out] at hjn
    have b1 := ofL_le (a0.data.toList.take j)
    have b2 := ofL_le (a0.data.toList.drop j)
    generalize ofL (a0.data.toList.take j) = qa at *
    generalize ofL (a0.data.toList.drop j) = qb at *
    have j1 := fun w => join_lit qa qb _ _ (q : Int) rfl rfl (by rw [hjn]) w (by omega) (by omega)
    clear y1 y2 hjn
    have Oa := Lib.hid oa
    clear oa
    have Ob := Lib.hid ob
    clear ob
    have J1 := Lib.hid j1
    clear j1
    have hB5 := HB5.out
    go_cut [57] from 45 to 57 (fun d wx => d = .bool false ∧ Below w.heap.size w wx)
    case first =>
      go_region_held3 (fun w' => Below w.heap.size w w') (first
        | exact Below.drew (by assumption)
        | exact Below.alloc (by assumption) (Below.size (by assumption)) _
        | exact Below.trans (by assumption) (Below.mono hb (Below.size (by assumption)))) (first
        | (go_at_call 36; with_reducible refine (Oa.out _ _ ?_).mono ?_; (first | (with_reducible exact Blk.new _ _ _) | (with_reducible exact Blk.alloc (Blk.new _ _ _) _) | (with_reducible exact Blk.newB _ _ _ _) | (with_reducible exact Blk.drew (Blk.new _ _ _)) | (with_reducible exact Blk.drew (Blk.alloc (Blk.new _ _ _) _)) | (with_reducible exact Blk.drew (Blk.newB _ _ _ _)) | ((with_reducible refine Blk.below (Blk.new _ _ _) hb ?_); focus (simp <;> omega)) | ((with_reducible refine Blk.below (Blk.alloc (Blk.new _ _ _) _) hb ?_); focus (simp <;> omega)) | ((with_reducible refine Blk.below (Blk.newB _ _ _ _) hb ?_); focus (simp <;> omega)) | ((with_reducible refine Blk.below (Blk.drew (Blk.new _ _ _)) hb ?_); focus (simp <;> omega)) | ((with_reducible refine Blk.below (Blk.drew (Blk.alloc (Blk.new _ _ _) _)) hb ?_); focus (simp <;> omega)) | ((with_reducible refine Blk.below (Blk.drew (Blk.newB _ _ _ _)) hb ?_); focus (simp <;> omega))); rintro e w' ⟨rfl, hb⟩)
        | (go_at_call 36; with_reducible refine (Ob.out _ _ ?_).mono ?_; (first | (with_reducible exact Blk.new _ _ _) | (with_reducible exact Blk.alloc (Blk.new _ _ _) _) | (with_reducible exact Blk.newB _ _ _ _) | (with_reducible exact Blk.drew (Blk.new _ _ _)) | (with_reducible exact Blk.drew (Blk.alloc (Blk.new _ _ _) _)) | (with_reducible exact Blk.drew (Blk.newB _ _ _ _)) | ((with_reducible refine Blk.below (Blk.new _ _ _) hb ?_); focus (simp <;> omega)) | ((with_reducible refine Blk.below (Blk.alloc (Blk.new _ _ _) _) hb ?_); focus (simp <;> omega)) | ((with_reducible refine Blk.below (Blk.newB _ _ _ _) hb ?_); focus (simp <;> omega)) | ((with_reducible refine Blk.below (Blk.drew (Blk.new _ _ _)) hb ?_); focus (simp <;> omega)) | ((with_reducible refine Blk.below (Blk.drew (Blk.alloc (Blk.new _ _ _) _)) hb ?_); focus (simp <;> omega)) | ((with_reducible refine Blk.below (Blk.drew (Blk.newB _ _ _ _)) hb ?_); focus (simp <;> omega))); rintro e w' ⟨rfl, hb⟩)
        | (go_at_call 39; with_reducible refine (J1.out _).mono ?_; rintro e w' ⟨rfl, hb⟩))
      all_goals (go_wp2_with fail)
      all_goals go_meet
      all_goals exact ⟨rfl, by assumption⟩
    case rest =>
      obtain ⟨rfl, hb6⟩ := hcut
      have HB6 := Lib.hid hb6
      clear hB5 hb6
      obtain ⟨x, hx⟩ : ∃ x : UInt8, x.toNat = q / 256 := ⟨UInt8.ofNat (q / 256), by rw [UInt8.toNat_ofNat']; omega⟩
      obtain ⟨y, hy⟩ : ∃ y : UInt8, y.toNat = q % 256 := ⟨UInt8.ofNat (q % 256), by rw [UInt8.toNat_ofNat']; omega⟩
      by_cases hodd : a0.size % 2 = 1
      · have e1 : ((a0.size : Int) % 2 == 1) = true := by simp; omega
        go_wp2_with fail
        have hbk := run_bytes_back (wc.alloc (.cells #[.int .u8 ((q : Int) / 256), .int .u8 ((q : Int) % 256)] 5)) ⟨wc.heap.size, 0, none⟩ 2 2 [x, y] rfl (by
          intro i hi
          rw [add_plain, Nat.zero_add, (Blk.new wc 5 #[.int .u8 ((q : Int) / 256), .int .u8 ((q : Int) % 256)]).cell i]
          have : i = 0 ∨ i = 1 := by simp at hi; omega
          rcases this with rfl | rfl
          · simp [hx]
          · simp [hy])
        rw [hbk]
        clear hbk
        have R := fun g W (h : Blk W g 9 #[.string (a0 ++ (⟨#[0]⟩ : ByteArray)), .string ⟨#[x, y]⟩]) => right_lit [(a0 ++ (⟨#[0]⟩ : ByteArray)), ⟨#[x, y]⟩] true (by rw [catS_two, ByteArray.data_append, Array.toList_append, show (⟨#[0]⟩ : ByteArray).data.toList = [0] from rfl, bears _ q (by rw [List.length_append]; simp only [Array.length_toList, List.length_singleton]; show (a0.size + 1) % 2 = 0; omega) (by rw [wordsL_zero _ (by simp only [Array.length_toList]; exact hodd)]; exact HQ.out.symm) x y hx hy]; rfl) (by simp only [List.mem_cons, List.not_mem_nil, or_false]; rintro z (rfl | rfl); (rw [ByteArray.size_append]; unfold maxLen; show a0.size + 1 ≤ _; omega); (show 2 ≤ maxLen; decide)) g 2 2 W rfl (by omega) h
        have HR := Lib.hid R
        clear R
        go_wp2_with fail
        (with_reducible refine (HR.out _ _ (Blk.newB _ _ _ _)).mono ?_)
        rintro e w7 ⟨rfl, hb7⟩
        have hb6 := HB6.out
        have k6 := (hb6.alloc hb6.size (.cells #[.int .u8 ((q : Int) / 256), .int .u8 ((q : Int) % 256)] 5)).alloc (by have := hb6.size; simp; omega) (.cells #[.string (a0 ++ (⟨#[0]⟩ : ByteArray)), .string ⟨#[x, y]⟩] 9)
        have k7 := k6.trans (hb7.mono k6.size)
        clear hb6 k6 hb7
        have HK := Lib.hid k7
        clear k7
        go_wp2_with fail
        (with_reducible refine (alive_sum _).mono ?_)
        rintro e w8 ⟨rfl, hb8⟩
        go_wp2
        go_ret
        exact ⟨rfl, HK.out.trans (hb8.mono HK.out.size)⟩
      · have e1 : ((a0.size : Int) % 2 == 1) = false := by simp; omega
        go_wp2_with fail
        have hbk := run_bytes_back (wc.alloc (.cells #[.int .u8 ((q : Int) / 256), .int .u8 ((q : Int) % 256)] 5)) ⟨wc.heap.size, 0, none⟩ 2 2 [x, y] rfl (by
          intro i hi
          rw [add_plain, Nat.zero_add, (Blk.new wc 5 #[.int .u8 ((q : Int) / 256), .int .u8 ((q : Int) % 256)]).cell i]
          have : i = 0 ∨ i = 1 := by simp at hi; omega
          rcases this with rfl | rfl
          · simp [hx]
          · simp [hy])
        rw [hbk]
        clear hbk
        have R := fun g W (h : Blk W g 9 #[.string a0, .string ⟨#[x, y]⟩]) => right_lit [a0, ⟨#[x, y]⟩] true (by rw [catS_two, show a0.data.toList = a0.data.toList from rfl, bears _ q (by simp only [Array.length_toList]; show a0.size % 2 = 0; omega) (by exact HQ.out.symm) x y hx hy]; rfl) (by simp only [List.mem_cons, List.not_mem_nil, or_false]; rintro z (rfl | rfl); (exact z1); (show 2 ≤ maxLen; decide)) g 2 2 W rfl (by omega) h
        have HR := Lib.hid R
        clear R
        go_wp2_with fail
        (with_reducible refine (HR.out _ _ (Blk.newB _ _ _ _)).mono ?_)
        rintro e w7 ⟨rfl, hb7⟩
        have hb6 := HB6.out
        have k6 := (hb6.alloc hb6.size (.cells #[.int .u8 ((q : Int) / 256), .int .u8 ((q : Int) % 256)] 5)).alloc (by have := hb6.size; simp; omega) (.cells #[.string a0, .string ⟨#[x, y]⟩] 9)
        have k7 := k6.trans (hb7.mono k6.size)
        clear hb6 k6 hb7
        have HK := Lib.hid k7
        clear k7
        go_wp2_with fail
        (with_reducible refine (alive_sum _).mono ?_)
        rintro e w8 ⟨rfl, hb8⟩
        go_wp2
        go_ret
        exact ⟨rfl, HK.out.trans (hb8.mono HK.out.size)⟩

theorem own : ownKnob Try.prog.godebug = none := by kernel_rfl
theorem laidOut : laidOutB Try.prog = true := by kernel_rfl
set_option maxRecDepth 100000 in
theorem lifted (os : Os) (started : os.Started) (H : Type) (enc : TypeId × Value → H) :
    ReturnsInHanded {} Try.checked os 11 .any (Rows.sumPartsSpec.pre6 enc Try.prog Try.f11 Rows.sumPartsRow.domain false) (Rows.sumPartsSpec.post enc Try.prog Try.f11 false true false false) := by
  refine returnsInHanded_of_change (C := Try.checked) own started (by kernel_rfl) Try.func11
    (ChangeSpec.witness6 (enc := enc) (C := Try.checked) false ⟨#[], #[.string ByteArray.empty, .int .u16 0], []⟩ 8 (by kernel_rfl) (by kernel_rfl) (by kernel_rfl) (by kernel_rfl)) ?_
  intro W base args ds gs before hval0 hW hcnd _
  have hval : ∀ (j : Nat) t v, Try.f11.params[j]? = some t → args[j]? = some v → Value.okWide Try.prog W .any base t v := hval0
  have hW' := hW
  obtain ⟨p, q, hA0, hV, rfl, hfz, hnd⟩ := hW
  have hA : DataW.TrodAll enc Try.prog W 0 (fun _ => true) true Try.f11.params.toList args.toList ds p := hA0
  rw [Try.params11] at hA hval
  obtain ⟨v0, vs0, d0, ds0, p0, q0, hargs, rfl, rfl, h0, r0⟩ := trodAll_cons hA
  obtain ⟨v1, vs1, d1, ds1, p1, q1, rfl, rfl, rfl, h1, r1⟩ := trodAll_cons r0
  obtain ⟨rfl, rfl, rfl⟩ := trodAll_nil r1
  obtain rfl : args = #[v0, v1] := by cases args; simp_all
  obtain ⟨rfl, rfl⟩ := trodVars_none hV
  obtain ⟨a0, rfl, rfl, rfl, w0⟩ := open_string Try.underlying9 (hval 0 9 v0 rfl rfl) h0
  obtain ⟨a1, rfl, rfl, rfl, w1⟩ := open_int Try.underlying40 (hval 1 40 v1 rfl rfl) h1
  clear hA0 hval0
  refine (walk a0 a1 W w0 w1).mono fun e W' ⟨he, bel⟩ => ?_
  subst he
  exact ⟨_, rfl, _, _, _, [], _, [], hW', trodAll_mk1 (shut_bool Try.underlying4 _), (trodAll_cons_mk (shut_string Try.underlying9 w0) (trodAll_cons_mk (shut_int Try.underlying40 w1) trodAll_mk0)), rfl, bel.frame _, fun h => by cases h⟩

theorem over : Rows.sumPartsRow.holds Try.pinned (OpenSpec.ofChange Rows.sumPartsSpec) :=
  OpenClaim.holds_of_wide 11 Try.f11 rfl rfl rfl rfl rfl rfl rfl ⟨rfl, rfl, rfl, rfl, rfl⟩ rfl rfl rfl rfl rfl (by kernel_rfl) Try.func11 (by kernel_rfl)
    (of_decide_eq_true (by kernel_rfl)) (by unfold Func.isWrapper; first | (rw [if_pos (by decide +kernel)]; kernel_rfl) | (rw [if_neg (by decide +kernel)]; exact ⟨rfl, rfl⟩))
    (fun os started H enc _ => lifted os started H enc)

/-- THE STATEMENT -/
theorem proved : Rows.SumPartsSaid := over
#print axioms proved
end Go.Proofs.Ytcfomapeiaobaaa.sumParts
