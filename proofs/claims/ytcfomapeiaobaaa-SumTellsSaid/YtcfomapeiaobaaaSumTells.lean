/- The statement SumTells: which checksum texts have together, whether it is right, what two are together, what becomes of one when words become other ones: as the document says; for any texts, any words. -/
import Derived.Test.YtcfomapeiaobaaaSumAlive
set_option linter.unusedVariables false
set_option linter.unusedSimpArgs false
namespace Go.Proofs.Ytcfomapeiaobaaa.sumTells
open Go.ChangeShapes Go.WideShapes Go.ChangeAt Go.RowKit
open Go.ChangeMaps (open_string shut_string)

set_option maxHeartbeats 2000000 in
/-- the document's Turns -/
theorem ref_turns (s : Nat) (x y : ByteArray) (hs : s < 65536) (hx : x.size ≤ 1099511627776) (hy : y.size ≤ 1099511627776) (w : World) :
    Calls Try.prog 44 #[.int .u16 (s : Int), .string x, .string y] w fun e w' =>
      e = .returned (.int .u16 ((turnsL s ((wordsL (x.data.toList.take (min x.size y.size))).zip (wordsL (y.data.toList.take (min x.size y.size)))) : Nat) : Int)) ∧ ∃ n, w' = w.drewN n := by
  obtain ⟨n, hn⟩ : ∃ n, n = min x.size y.size := ⟨_, rfl⟩
  have hnx : n ≤ x.size := by omega
  have hny : n ≤ y.size := by omega
  have hmin : min (x.size : Int) (y.size : Int) = (n : Int) := by omega
  have HN := Lib.hid hn
  have HM := Lib.hid hmin
  clear hmin hn
  go_enter Try.func44, Try.ntmps44
  go_wp2_with fail
  first | rw [HM.out] | rw [← HN.out]
  go_loopw [8, 0] (fun i q wr => ∃ k st : Nat, k ≤ n + 1 ∧ i = .int .i64 (k : Int) ∧ q = .int .u16 (st : Int) ∧ st ≤ 65535 ∧ Hid (turnsL st ((wordsL ((x.data.toList.take n).drop k)).zip (wordsL ((y.data.toList.take n).drop k))) = turnsL s ((wordsL (x.data.toList.take n)).zip (wordsL (y.data.toList.take n)))) ∧ ∃ m, wr = w.drewN m) (fun i _ _ => n + 1 - (intOf i).toNat)
  case atStart => exact ⟨0, s, by omega, rfl, rfl, by omega, Lib.hid rfl, 0, rfl⟩
  case round =>
    obtain ⟨k, st, hk, rfl, rfl, hst, HS, m, rfl⟩ := hrel
    by_cases h : k < n
    · have hlx : k < (x.data.toList.take n).length := by simp; omega
      have hly : k < (y.data.toList.take n).length := by simp; omega
      have ex : (x.extract 0 n).data.toList = x.data.toList.take n := by rw [ByteArray.data_extract]; simp
      have ey : (y.extract 0 n).data.toList = y.data.toList.take n := by rw [ByteArray.data_extract]; simp
      have hsx : (x.extract 0 n).size = n := by simp; omega
      have hsy : (y.extract 0 n).size = n := by simp; omega
      have cx := fun w => ref_word (x.extract 0 n) k w (by omega) (by unfold maxLen; omega)
      have cy := fun w => ref_word (y.extract 0 n) k w (by omega) (by unfold maxLen; omega)
      rw [ex] at cx
      rw [ey] at cy
      have bx := wordAt_lt (x.data.toList.take n) k
      have by_ := wordAt_lt (y.data.toList.take n) k
      have hstep : (wordsL ((x.data.toList.take n).drop k)).zip (wordsL ((y.data.toList.take n).drop k)) = (wordAt (x.data.toList.take n) k, wordAt (y.data.toList.take n) k) :: (wordsL ((x.data.toList.take n).drop (k + 2))).zip (wordsL ((y.data.toList.take n).drop (k + 2))) := by
        rw [wordsL_step ((x.data.toList.take n).drop k) (by simp; omega), wordsL_step ((y.data.toList.take n).drop k) (by simp; omega), List.zip_cons_cons, List.drop_drop, List.drop_drop]
        rfl
      have hT := HS.out
      rw [hstep] at hT
      have hT2 : turnsL (turnL st (wordAt (x.data.toList.take n) k) (wordAt (y.data.toList.take n) k)) ((wordsL ((x.data.toList.take n).drop (k + 2))).zip (wordsL ((y.data.toList.take n).drop (k + 2)))) = turnsL s ((wordsL (x.data.toList.take n)).zip (wordsL (y.data.toList.take n))) := hT
      have HT := Lib.hid hT2
      generalize wordAt (x.data.toList.take n) k = p at *
      generalize wordAt (y.data.toList.take n) k = r at *
      have ct := fun w => ref_turn st p r w (by omega) bx by_
      have hle := turnL_le st p r
      generalize turnL st p r = t at *
      have CX := Lib.hid cx
      have CY := Lib.hid cy
      have CT := Lib.hid ct
      clear cx cy ct hT hT2 hstep ex ey hlx hly hsx hsy
      go_wp2
      obtain ⟨W, hW⟩ : ∃ W, W = w.drewN m := ⟨_, rfl⟩
      rw [← hW]
      have HW := Lib.hid hW
      clear hW
      have i1 : (n : Int) ≤ (x.size : Int) := by omega
      have i2 : (n : Int) ≤ (y.size : Int) := by omega
      have i3 : (0 : Int) ≤ (n : Int) := by omega
      go_quiet (first | (go_at_call 47; (with_reducible exact quiet_left (CX.out _))) | (go_at_call 47; (with_reducible exact quiet_left (CY.out _))) | (go_at_call 42; (with_reducible exact quiet_left (CT.out _))))
      go_wp2
      go_roundw
      case rel => exact ⟨k + 2, t, by omega, by go_num, rfl, hle, HT, _, by rw [HW.out]; exact World.drewN_drewN ..⟩
      case measure => simp [intOf]; omega
    · have he : (wordsL ((x.data.toList.take n).drop k)).zip (wordsL ((y.data.toList.take n).drop k)) = [] := by
        rw [List.drop_of_length_le (by simp; omega)]
        rfl
      have hT := HS.out
      rw [he] at hT
      have HT := Lib.hid (show st = _ from hT)
      clear he hT
      go_wp2
      go_ret
      exact ⟨ret_nat (by rw [HT.out, HN.out]), _, rfl⟩

/-- a row of strings that came in reads as a list -/
theorem strs_reads {w : World} {a : Option Addr} {len cap : Nat} {zs : List ByteArray} (h : IsStrs w a len cap zs) :
    ∃ ss : List ByteArray, ss.length = len ∧ len ≤ 9223372036854775807 ∧ Reads w w.heap.size 1 a len (ss.map Value.string) ∧ ∀ s ∈ ss, s.size ≤ maxLen := by
  rcases h with ⟨rfl, rfl, rfl, rfl⟩ | ⟨x, rfl, hl, hm, hz, hc, hwz⟩
  · exact ⟨[], rfl, by omega, Reads.none_, by simp⟩
  · unfold maxLen at hm
    refine ⟨zs.take len, by rw [List.length_take]; omega, by omega, ⟨by rw [List.length_map, List.length_take]; omega, fun hn => ⟨x, rfl, ?_, fun j u hu => ?_⟩⟩, fun y hy => hwz y (List.mem_of_mem_take hy)⟩
    · have := cell_lt (hc 0 (by omega))
      rwa [block_of_add] at this
    · rw [List.getElem?_map] at hu
      have hj : j < (zs.take len).length := by
        rcases Nat.lt_or_ge j (zs.take len).length with hj | hj
        · exact hj
        · rw [List.getElem?_eq_none hj] at hu; cases hu
      rw [List.length_take] at hj
      rw [List.getElem?_take_of_lt (by omega), List.getElem?_eq_getElem (by omega)] at hu
      rw [hc j (by omega)]
      simp only [Option.map_some, Option.some.injEq] at hu
      rw [← hu]
      simp [List.getD, List.getElem?_eq_getElem (show j < zs.length by omega)]

set_option maxRecDepth 100000 in
set_option maxHeartbeats 4000000 in
theorem walk (a0 : Option Addr) (len0 cap0 : Nat) (z0 : List ByteArray) (a1 a2 a3 : Int) (a4 a5 : ByteArray) (w : World) (w0 : IsStrs w a0 len0 cap0 z0) (w1 : (Lit.int .u16 a1).wf = true) (w2 : (Lit.int .u16 a2).wf = true) (w3 : (Lit.int .u16 a3).wf = true) (w4 : a4.size ≤ maxLen) (w5 : a5.size ≤ maxLen) :
    Calls Try.prog 10 #[.slice a0 len0 cap0, .int .u16 a1, .int .u16 a2, .int .u16 a3, .string a4, .string a5] w fun e w' => e = .returned (.bool true) ∧ Below w.heap.size w w' := by
  obtain ⟨ss, hl, hm, hr, hz⟩ := strs_reads w0
  obtain ⟨l1, g1⟩ := bounds_u16 w1
  obtain ⟨l2, g2⟩ := bounds_u16 w2
  obtain ⟨l3, g3⟩ := bounds_u16 w3
  obtain ⟨b1, rfl⟩ := Int.eq_ofNat_of_zero_le l1
  obtain ⟨b2, rfl⟩ := Int.eq_ofNat_of_zero_le l2
  obtain ⟨b3, rfl⟩ := Int.eq_ofNat_of_zero_le l3
  have q1 : b1 < 65536 := by omega
  have q2 : b2 < 65536 := by omega
  have q3 : b3 < 65536 := by omega
  clear w0 w1 w2 w3 l1 l2 l3 g1 g2 g3
  unfold maxLen at w4 w5
  by_cases h1 : 60 < len0
  · go_enter Try.func10, Try.ntmps10
    go_wp2_with fail
    (with_reducible refine (alive_sum _).mono ?_)
    rintro e w3 ⟨rfl, hb3⟩
    go_wp2
    go_ret
    exact ⟨rfl, hb3⟩
  by_cases h2 : 2048 < a4.size
  · go_enter Try.func10, Try.ntmps10
    go_wp2_with fail
    (with_reducible refine (alive_sum _).mono ?_)
    rintro e w3 ⟨rfl, hb3⟩
    go_wp2
    go_ret
    exact ⟨rfl, hb3⟩
  by_cases h3 : 2048 < a5.size
  · go_enter Try.func10, Try.ntmps10
    go_wp2_with fail
    (with_reducible refine (alive_sum _).mono ?_)
    rintro e w3 ⟨rfl, hb3⟩
    go_wp2
    go_ret
    exact ⟨rfl, hb3⟩
  have Hr := Lib.hid hr
  clear hr
  have Hz := Lib.hid hz
  clear hz
  have hlz : ss.length ≤ 60 := by omega
  go_enter Try.func10, Try.ntmps10
  go_wp2_with fail
  go_loopw [14, 13] (fun i s wr => ∃ (k : Nat) (c : ByteArray), k ≤ len0 ∧ i = .int .i64 (k : Int) ∧ s = .string c ∧ Hid (c.data.toList = catS (ss.take k)) ∧ c.size ≤ 512 * k ∧ w = wr) (fun i _ _ => len0 - (intOf i).toNat)
  case atStart => exact ⟨0, ByteArray.empty, Nat.zero_le _, rfl, rfl, Lib.hid rfl, by simp, rfl⟩
  case round =>
    obtain ⟨k, c, hk, rfl, rfl, HC, hcs, rfl⟩ := hrel
    by_cases hlt : k < len0
    · obtain ⟨ad, u, rfl, hbl, hu, hcell⟩ := Hr.out.at_ hlt
      have hkx : k < ss.length := by omega
      rw [List.getElem?_map, List.getElem?_eq_getElem hkx] at hu
      simp only [Option.map_some, Option.some.injEq] at hu
      subst hu
      have hnx := catS_succ hkx
      have HN := Lib.hid hnx
      clear hnx
      generalize ss[k] = x at *
      by_cases hx : 512 < x.size
      · go_wp2_with fail
        (with_reducible refine (alive_sum _).mono ?_)
        rintro e w3 ⟨rfl, hb3⟩
        go_wp2
        go_ret
        exact ⟨rfl, hb3⟩
      · go_wp2
        go_roundw
        case rel => exact ⟨k + 1, c ++ x, by omega, by go_num, rfl, Lib.hid (by rw [ByteArray.data_append, Array.toList_append, HC.out, HN.out]), by rw [ByteArray.size_append]; omega, trivial⟩
        case measure => simp [intOf]; omega
    · obtain rfl : k = len0 := by omega
      have hcs2 : c.size ≤ 1099511627776 := by omega
      have hall : c.data.toList = catS ss := by rw [HC.out, ← hl, List.take_length]
      have c2 := fun w => ref_of c w hcs2
      rw [hall] at c2
      have C2 := Lib.hid c2
      have C1 := fun w hr => of_any a0 k cap0 ss hl hm Hz.out w hr
      have C3 := fun w hr => right_any a0 k cap0 ss hl hm Hz.out w hr
      have HL := ofL_le (catS ss)
      generalize ofL (catS ss) = q at *
      have D1 := Lib.hid C1
      have D3 := Lib.hid C3
      clear c2 C1 C3 hall
      have j1 := fun w => join_any b1 b2 w q1 q2
      have j2 := fun w => ref_join b1 b2 w q1 q2
      have jl := joinL_le b1 b2
      generalize joinL b1 b2 = j at *
      have t1 := fun w => turn_below b1 b2 b3 w q1 q2 q3
      have t2 := fun w => ref_turn b1 b2 b3 w q1 q2 q3
      have tl := turnL_le b1 b2 b3
      generalize turnL b1 b2 b3 = t at *
      have u1 := fun w => turns_any b1 a4 a5 q1 (by omega) (by omega) w
      have u2 := fun w => ref_turns b1 a4 a5 q1 (by omega) (by omega) w
      have ul := turnsL_le (s := b1) (by omega) ((wordsL (a4.data.toList.take (min a4.size a5.size))).zip (wordsL (a5.data.toList.take (min a4.size a5.size))))
      generalize turnsL b1 ((wordsL (a4.data.toList.take (min a4.size a5.size))).zip (wordsL (a5.data.toList.take (min a4.size a5.size)))) = v at *
      have e1 : ((q : Int) == (q : Int)) = true := by simp
      have e2 : (((q : Int) == 0) == ((q : Int) == 0)) = true := by simp
      have e3 : ((j : Int) == (j : Int)) = true := by simp
      have e4 : ((t : Int) == (t : Int)) = true := by simp
      have e5 : ((v : Int) == (v : Int)) = true := by simp
      have J1 := Lib.hid j1
      clear j1
      have J2 := Lib.hid j2
      clear j2
      have T1 := Lib.hid t1
      clear t1
      have T2 := Lib.hid t2
      clear t2
      have U1 := Lib.hid u1
      clear u1
      have U2 := Lib.hid u2
      clear u2
      go_wp2_with fail
      (with_reducible refine (D1.out _ Hr.out).mono ?_)
      rintro e w3 ⟨rfl, hb3⟩
      go_wp2_with fail
      (with_reducible refine (C2.out _).mono ?_)
      rintro e w' ⟨rfl, rfl⟩
      have hr3 := (Hr.out.below hb3).more hb3.size
      go_wp2_with fail
      (with_reducible refine (D3.out _ hr3).mono ?_)
      rintro e w4 ⟨rfl, hb4⟩
      go_wp2_with fail
      (with_reducible refine (C2.out _).mono ?_)
      rintro e w' ⟨rfl, rfl⟩
      have hb4' := hb3.trans (hb4.mono hb3.size)
      clear hb3 hb4 hr3
      go_wp2_with fail
      (with_reducible refine (J1.out _).mono ?_)
      rintro e w5 ⟨rfl, hb5⟩
      go_wp2_with fail
      (with_reducible refine (J2.out _).mono ?_)
      rintro e w' ⟨rfl, rfl⟩
      go_wp2_with fail
      (with_reducible refine (T1.out _).mono ?_)
      rintro e w6 ⟨rfl, hb6⟩
      go_wp2_with fail
      (with_reducible refine (T2.out _).mono ?_)
      rintro e w' ⟨rfl, rfl⟩
      go_wp2_with fail
      (with_reducible refine (U1.out _).mono ?_)
      rintro e w7 ⟨rfl, hb7⟩
      go_wp2_with fail
      (with_reducible refine (U2.out _).mono ?_)
      rintro e w' ⟨rfl, n1, rfl⟩
      go_wp2_with fail
      (with_reducible refine (alive_sum _).mono ?_)
      rintro e w8 ⟨rfl, hb8⟩
      go_wp2
      go_ret
      have k5 := hb4'.trans (hb5.mono hb4'.size)
      have k6 := k5.trans (hb6.mono k5.size)
      have k7 := below_drewN (k6.trans (hb7.mono k6.size)) n1
      exact ⟨rfl, k7.trans (hb8.mono k7.size)⟩

theorem own : ownKnob Try.prog.godebug = none := by kernel_rfl
theorem laidOut : laidOutB Try.prog = true := by kernel_rfl
set_option maxRecDepth 100000 in
theorem lifted (os : Os) (started : os.Started) (H : Type) (enc : TypeId × Value → H) :
    ReturnsInHanded {} Try.checked os 10 .any (Rows.sumTellsSpec.pre6 enc Try.prog Try.f10 Rows.sumTellsRow.domain false) (Rows.sumTellsSpec.post enc Try.prog Try.f10 false true false false) := by
  refine returnsInHanded_of_change (C := Try.checked) own started (by kernel_rfl) Try.func10
    (ChangeSpec.witness6 (enc := enc) (C := Try.checked) false ⟨#[], #[.slice none 0 0, .int .u16 0, .int .u16 0, .int .u16 0, .string ByteArray.empty, .string ByteArray.empty], []⟩ 8 (by kernel_rfl) (by kernel_rfl) (by kernel_rfl) (by kernel_rfl)) ?_
  intro W base args ds gs before hval0 hW hcnd _
  have hval : ∀ (j : Nat) t v, Try.f10.params[j]? = some t → args[j]? = some v → Value.okWide Try.prog W .any base t v := hval0
  have hW' := hW
  obtain ⟨p, q, hA0, hV, rfl, hfz, hnd⟩ := hW
  have hA : DataW.TrodAll enc Try.prog W 0 (fun _ => true) true Try.f10.params.toList args.toList ds p := hA0
  rw [Try.params10] at hA hval
  obtain ⟨v0, vs0, d0, ds0, p0, q0, hargs, rfl, rfl, h0, r0⟩ := trodAll_cons hA
  obtain ⟨v1, vs1, d1, ds1, p1, q1, rfl, rfl, rfl, h1, r1⟩ := trodAll_cons r0
  obtain ⟨v2, vs2, d2, ds2, p2, q2, rfl, rfl, rfl, h2, r2⟩ := trodAll_cons r1
  obtain ⟨v3, vs3, d3, ds3, p3, q3, rfl, rfl, rfl, h3, r3⟩ := trodAll_cons r2
  obtain ⟨v4, vs4, d4, ds4, p4, q4, rfl, rfl, rfl, h4, r4⟩ := trodAll_cons r3
  obtain ⟨v5, vs5, d5, ds5, p5, q5, rfl, rfl, rfl, h5, r5⟩ := trodAll_cons r4
  obtain ⟨rfl, rfl, rfl⟩ := trodAll_nil r5
  obtain rfl : args = #[v0, v1, v2, v3, v4, v5] := by cases args; simp_all
  obtain ⟨rfl, rfl⟩ := trodVars_none hV
  obtain ⟨a0, len0, cap0, rfl⟩ := okWide_slice Try.underlying59 (hval 0 59 v0 rfl rfl)
  have k0 := h0
  have lt0 : ∀ x ∈ p0, x.block < W.heap.size := by obtain ⟨m, hm⟩ := k0; exact DataW.trod_lt m _ _ _ hm
  obtain ⟨z0, w0⟩ : ∃ zs, IsStrs W a0 len0 cap0 zs := by
    obtain ⟨fuel, hf⟩ := h0
    rcases open_strings Try.underlying59 Try.underlying9 (by kernel_rfl) hf with ⟨hcs, _⟩ | ⟨x, l, c, zs, hcs, _, hl, hm, hz, _, hcell, hwz⟩
    · simp [Value.cells] at hcs
      obtain ⟨rfl, rfl, rfl⟩ := hcs
      exact ⟨[], .inl ⟨rfl, rfl, rfl, rfl⟩⟩
    · simp [Value.cells] at hcs
      obtain ⟨rfl, rfl, rfl⟩ := hcs
      exact ⟨zs, .inr ⟨_, rfl, hl, hm, by simpa using hz, hcell, hwz⟩⟩
  obtain ⟨a1, rfl, rfl, rfl, w1⟩ := open_int Try.underlying40 (hval 1 40 v1 rfl rfl) h1
  obtain ⟨a2, rfl, rfl, rfl, w2⟩ := open_int Try.underlying40 (hval 2 40 v2 rfl rfl) h2
  obtain ⟨a3, rfl, rfl, rfl, w3⟩ := open_int Try.underlying40 (hval 3 40 v3 rfl rfl) h3
  obtain ⟨a4, rfl, rfl, rfl, w4⟩ := open_string Try.underlying9 (hval 4 9 v4 rfl rfl) h4
  obtain ⟨a5, rfl, rfl, rfl, w5⟩ := open_string Try.underlying9 (hval 5 9 v5 rfl rfl) h5
  clear hA0 hval0
  refine (walk a0 len0 cap0 z0 a1 a2 a3 a4 a5 W w0 w1 w2 w3 w4 w5).mono fun e W' ⟨he, bel⟩ => ?_
  subst he
  exact ⟨_, rfl, _, _, _, [], _, [], hW', trodAll_mk1 (shut_bool Try.underlying4 _), (trodAll_cons_mk (Below.trod laidOut (by kernel_rfl) (of_decide_eq_true (by kernel_rfl)) k0 bel lt0) (trodAll_cons_mk (shut_int Try.underlying40 w1) (trodAll_cons_mk (shut_int Try.underlying40 w2) (trodAll_cons_mk (shut_int Try.underlying40 w3) (trodAll_cons_mk (shut_string Try.underlying9 w4) (trodAll_cons_mk (shut_string Try.underlying9 w5) trodAll_mk0)))))), rfl, bel.frame _, fun h => by cases h⟩

theorem over : Rows.sumTellsRow.holds Try.pinned (OpenSpec.ofChange Rows.sumTellsSpec) :=
  OpenClaim.holds_of_wide 10 Try.f10 rfl rfl rfl rfl rfl rfl rfl ⟨rfl, rfl, rfl, rfl, rfl⟩ rfl rfl rfl rfl rfl (by kernel_rfl) Try.func10 (by kernel_rfl)
    (of_decide_eq_true (by kernel_rfl)) (by unfold Func.isWrapper; first | (rw [if_pos (by decide +kernel)]; kernel_rfl) | (rw [if_neg (by decide +kernel)]; exact ⟨rfl, rfl⟩))
    (fun os started H enc _ => lifted os started H enc)

/-- THE STATEMENT -/
theorem proved : Rows.SumTellsSaid := over
#print axioms proved
end Go.Proofs.Ytcfomapeiaobaaa.sumTells
