/- The statement IpBack: what was written is read; a packet of which one bit of the head is turned is not read, nor one that is cut off, or longer; for any head, any load, any bit and any cut. -/
import Derived.Test.YtbfmgdcnpefciaaIpLaws
import Derived.Test.YtbfmgdcnpefciaaAggs
set_option linter.unusedVariables false
set_option linter.unusedSimpArgs false
namespace Go.Proofs.Ytbfmgdcnpefciaa.ipBack
open Go.ChangeShapes Go.WideShapes Go.ChangeAt Go.RowKit
open Go.ChangeMaps (open_string shut_string)

theorem dec_bad (s : ByteArray) (e : Nat) (h : decE s.data.toList = e) (h0 : e ≠ 0) (w : World) (hs : s.size ≤ 1099511627776) :
    Calls Try.prog 26 #[.string s] w fun r w' => r = .returned (.tuple #[.agg #[.int .u32 0, .int .u32 0, .int .u8 0, .int .u8 0, .int .u8 0, .int .u16 0, .bool false], .string ⟨#[]⟩, .int .i64 (e : Int)]) ∧ Below w.heap.size w w' := by
  have := dec_all s w hs
  rw [decV_bad h h0] at this
  exact this
theorem str_set (W1 : World) (g k : Nat) (l : List UInt8) (a : UInt8) (hk : k < l.length) (hc : ∀ j (h : j < l.length), W1.cell? ⟨g, j, none⟩ = some (.int .u8 (l[j].toNat : Int))) :
    ∀ j (h : j < (l.set k a).length), (W1.setCell ⟨g, k, none⟩ (.int .u8 (a.toNat : Int))).cell? ((⟨g, 0, none⟩ : Addr).add j) = some (.int .u8 ((l.set k a)[j].toNat : Int)) := by
  intro j hj
  have hjl : j < l.length := by simpa using hj
  rw [add_plain, Nat.zero_add]
  by_cases h0 : j = k
  · subst h0
    rw [World.cell?_setCell_same' _ _ _ (by rw [hc j hjl]; rfl)]
    simp
  · rw [World.cell?_setCell_other _ _ _ _ (by intro e; injection e with _ e; omega), hc j hjl, List.getElem_set_ne (by omega)]
theorem xor_pow (c : UInt8) (j : Nat) (hj : j < 8) : bits .xor .u8 (c.toNat : Int) ((2 : Int) ^ j % 256) = (((c ^^^ UInt8.ofNat (2 ^ j)).toNat : Nat) : Int) := by
  have hc := c.toNat_lt
  have e : ((2 : Int) ^ j % 256) = ((2 ^ j % 256 : Nat) : Int) := by
    have : j = 0 ∨ j = 1 ∨ j = 2 ∨ j = 3 ∨ j = 4 ∨ j = 5 ∨ j = 6 ∨ j = 7 := by omega
    rcases this with rfl | rfl | rfl | rfl | rfl | rfl | rfl | rfl <;> rfl
  rw [e, u8_xor_nat _ _ (by omega) (Nat.mod_lt _ (by decide)), UInt8.toNat_xor, UInt8.toNat_ofNat']
set_option maxRecDepth 100000 in
set_option maxHeartbeats 4000000 in
theorem walk (a0_0 a0_1 a0_2 a0_3 a0_4 a0_5 : Int) (a0_6 : Bool) (a1 : ByteArray) (a2 a3 : Int) (w : World)
    (w0_0 : (Lit.int .u32 a0_0).wf = true) (w0_1 : (Lit.int .u32 a0_1).wf = true) (w0_2 : (Lit.int .u8 a0_2).wf = true) (w0_3 : (Lit.int .u8 a0_3).wf = true) (w0_4 : (Lit.int .u8 a0_4).wf = true) (w0_5 : (Lit.int .u16 a0_5).wf = true)
    (w1 : a1.size ≤ maxLen) (w2 : (Lit.int .u8 a2).wf = true) (w3 : (Lit.int .u16 a3).wf = true) :
    Calls Try.prog 9 #[.agg #[.int .u32 a0_0, .int .u32 a0_1, .int .u8 a0_2, .int .u8 a0_3, .int .u8 a0_4, .int .u16 a0_5, .bool a0_6], .string a1, .int .u8 a2, .int .u16 a3] w fun e w' => e = .returned (.bool true) ∧ Below w.heap.size w w' := by
  unfold maxLen at w1
  obtain ⟨l2, g2⟩ := bounds_u8 w2
  obtain ⟨l3, g3⟩ := bounds_u16 w3
  have hx := Blk.new w 48 #[.int .u32 a0_0, .int .u32 a0_1, .int .u8 a0_2, .int .u8 a0_3, .int .u8 a0_4, .int .u16 a0_5, .bool a0_6]
  have hb0 : Below w.heap.size w (w.alloc (.cells #[.int .u32 a0_0, .int .u32 a0_1, .int .u8 a0_2, .int .u8 a0_3, .int .u8 a0_4, .int .u16 a0_5, .bool a0_6] 48)) := (Below.refl _ _).alloc (Nat.le_refl _) _
  obtain ⟨H, hok, hH⟩ := head_of a0_0 a0_1 a0_2 a0_3 a0_4 a0_5 a0_6 w0_0 w0_1 w0_2 w0_3 w0_4 w0_5
  clear w0_0 w0_1 w0_2 w0_3 w0_4 w0_5 w2 w3
  have Hx := Lib.hid hx
  clear hx
  have Hb0 := Lib.hid hb0
  clear hb0
  by_cases h1 : 2048 < a1.size
  · clear hH
    go_enter Try.func9, Try.ntmps9
    go_wp2_with fail
    (with_reducible refine (alive_ip _).mono ?_)
    rintro e w4 ⟨rfl, hb4⟩
    go_wp2
    go_ret
    exact ⟨rfl, Hb0.out.trans (hb4.mono (by simp <;> omega))⟩
  have i1 : (a1.size : Int) ≤ 2048 := by omega
  have hll : a1.data.toList.length = a1.size := rfl
  obtain ⟨E, hE⟩ : ∃ E : ByteArray, E = ⟨(encL H a1.data.toList).toArray⟩ := ⟨_, rfl⟩
  have hEl : E.data.toList = encL H a1.data.toList := by rw [hE]
  have hEz : E.size = 20 + a1.size := by
    have := enc_len H a1.data.toList
    rw [← hEl] at this
    exact this
  have c1 := fun W => enc_ok H a1 W hok (by omega)
  have d1 := fun W => dec_all E W (by omega)
  rw [hEl, dec_enc hok (by omega)] at d1
  rw [← hE] at c1
  rw [hH] at c1 d1
  obtain ⟨K, hK⟩ : ∃ K, K = a2 % 160 := ⟨_, rfl⟩
  obtain ⟨i, hi⟩ : ∃ i : Nat, (i : Int) = K / 8 := ⟨(K / 8).toNat, by omega⟩
  obtain ⟨j, hj⟩ : ∃ j : Nat, (j : Int) = K % 8 := ⟨(K % 8).toNat, by omega⟩
  have hi20 : i < 20 := by omega
  have hj8 : j < 8 := by omega
  have K1 : 0 ≤ K := by omega
  have K2 : K < 160 := by omega
  have i2 : (E.size : Int) = 20 + (a1.size : Int) := by omega
  have hie : i < E.size := by omega
  -- the flipped one
  have hil : i < (encL H a1.data.toList).length := by rw [enc_len]; omega
  obtain ⟨F, hF⟩ : ∃ F : List UInt8, F = (encL H a1.data.toList).set i ((encL H a1.data.toList)[i] ^^^ UInt8.ofNat (2 ^ j)) := ⟨_, rfl⟩
  have hFe := decE_flip (h := H) (l := a1.data.toList) i j hi20 hj8 hil
  rw [← hF] at hFe
  have hFl : F.length = E.size := by rw [hF, List.length_set, enc_len, hEz, hll]
  obtain ⟨e1, he1⟩ : ∃ e, e = decE F := ⟨_, rfl⟩
  have d2 := fun W => dec_bad ⟨F.toArray⟩ e1 (by rw [he1]) (by rw [he1]; exact hFe) W (by show F.length ≤ _; omega)
  -- cut off
  obtain ⟨c, hc⟩ : ∃ c : Nat, (c : Int) = a3 % (E.size : Int) := ⟨(a3 % (E.size : Int)).toNat, Int.toNat_of_nonneg (Int.emod_nonneg _ (by omega))⟩
  have hcl : c < E.size := by have := Int.emod_lt_of_pos a3 (show (0 : Int) < (E.size : Int) by omega); omega
  have hCe := decE_cut (h := H) (l := a1.data.toList) (by omega) c (by omega)
  have hCl : (E.extract 0 c).data.toList = (encL H a1.data.toList).take c := by rw [← hEl, ByteArray.data_extract]; simp
  rw [← hCl] at hCe
  obtain ⟨e2, he2⟩ : ∃ e, e = decE (E.extract 0 c).data.toList := ⟨_, rfl⟩
  have d3 := fun W => dec_bad (E.extract 0 c) e2 he2.symm (by rw [he2]; exact hCe) W (by simp; omega)
  -- longer
  have hMl : (E ++ ⟨#[0]⟩ : ByteArray).data.toList = encL H a1.data.toList ++ [0] := by rw [ByteArray.data_append, Array.toList_append, hEl]
  have d4 := fun W => dec_bad (E ++ ⟨#[0]⟩) 53 (by rw [hMl]; exact decE_more (by omega) 0) (by decide) W (by rw [ByteArray.size_append, hEz]; show 20 + a1.size + 1 ≤ _; omega)
  have n1 : ((e1 : Int) != 0) = true := by rw [bne_iff_ne]; omega
  have n2 : ((e2 : Int) != 0) = true := by rw [bne_iff_ne]; omega
  have k1 : (0 : Int) ≤ (c : Int) := by omega
  have k2 : (c : Int) ≤ (E.size : Int) := by omega
  have k3 : E.size ≤ 2068 := by omega
  have k4 : ¬ E.size = 0 := by omega
  have C1 := Lib.hid c1
  clear c1
  have D1 := Lib.hid d1
  clear d1
  have D2 := Lib.hid d2
  clear d2
  have D3 := Lib.hid d3
  clear d3
  have D4 := Lib.hid d4
  clear d4
  have HK := Lib.hid hK
  clear hK
  have Hi := Lib.hid hi
  clear hi
  have Hj := Lib.hid hj
  clear hj
  have HE := Lib.hid hE
  clear hE
  have HEl := Lib.hid hEl
  clear hEl
  have HEz := Lib.hid hEz
  clear hEz
  have HF := Lib.hid hF
  clear hF
  have HFl := Lib.hid hFl
  clear hFl
  have Hc := Lib.hid hc
  clear hc
  have I2 := Lib.hid i2
  clear i2
  clear hH hFe he1 hCe hCl he2 hMl hll
  go_enter Try.func9, Try.ntmps9
  go_wp2_with fail
  with_reducible refine (C1.out _).mono ?_
  rintro e w2 ⟨rfl, hb2⟩
  have hx2 := Hx.out.below hb2 (by simp <;> omega)
  have hB2 := Hb0.out.trans (hb2.mono (by simp <;> omega))
  clear Hx Hb0 hb2
  have Hx2 := Lib.hid hx2
  clear hx2
  have HB2 := Lib.hid hB2
  clear hB2
  go_wp2_with fail
  (with_reducible refine (D1.out _).mono ?_)
  rintro e w3 ⟨rfl, hb3⟩
  have hx3 := Hx2.out.below hb3 Hx2.out.lt
  have hB3 := HB2.out.trans (hb3.mono HB2.out.size)
  clear Hx2 HB2 hb3
  go_upto_region 5 with fail
  have hy := Blk.new w3 48 #[.int .u32 a0_0, .int .u32 a0_1, .int .u8 a0_2, .int .u8 a0_3, .int .u8 a0_4, .int .u16 a0_5, .bool a0_6]
  have hx4 := Blk.alloc hx3 (.cells #[.int .u32 a0_0, .int .u32 a0_1, .int .u8 a0_2, .int .u8 a0_3, .int .u8 a0_4, .int .u16 a0_5, .bool a0_6] 48)
  have hB4 : Below w.heap.size w (w3.alloc (.cells #[.int .u32 a0_0, .int .u32 a0_1, .int .u8 a0_2, .int .u8 a0_3, .int .u8 a0_4, .int .u16 a0_5, .bool a0_6] 48)) := hB3.alloc hB3.size _
  obtain ⟨y, hye⟩ : ∃ y, y = w3.heap.size := ⟨_, rfl⟩
  obtain ⟨x, hxe⟩ : ∃ x, x = w.heap.size := ⟨_, rfl⟩
  rw [← hye] at hy ⊢
  rw [← hxe] at hx4 ⊢
  clear hye hxe hx3 hB3
  generalize w3.alloc _ = w4 at *
  have c0 := hx4.cell 0
  have c1 := hx4.cell 1
  have c2 := hx4.cell 2
  have c3 := hx4.cell 3
  have c4 := hx4.cell 4
  have c5 := hx4.cell 5
  have c6 := hx4.cell 6
  simp at c0 c1 c2 c3 c4 c5 c6
  have d0 := hy.cell 0
  have d1 := hy.cell 1
  have d2 := hy.cell 2
  have d3 := hy.cell 3
  have d4 := hy.cell 4
  have d5 := hy.cell 5
  have d6 := hy.cell 6
  simp at d0 d1 d2 d3 d4 d5 d6
  clear hx4 hy
  have HB4 := Lib.hid hB4
  clear hB4
  have i2 := I2.out
  go_upto_region 7 with fail
  clear c0 c1 c2 c3 c4 c5 c6 d0 d1 d2 d3 d4 d5 d6 i2
  obtain ⟨W1, cap, hrun, hB, hsz, hcell, hfz⟩ := run_bytes_new w4 E
  obtain ⟨b, hbe⟩ : ∃ b, b = w4.heap.size := ⟨_, rfl⟩
  rw [← hbe] at hrun hcell hfz
  go_upto_region 9 with fail
  rw [← hbe, ← HK.out]
  have hB5 := HB4.out.trans (hB.mono HB4.out.size)
  have hbw : w.heap.size ≤ b := by rw [hbe]; exact HB4.out.size
  have q1 : K / 8 = (i : Int) := Hi.out.symm
  have q2 : K % 8 = (j : Int) := Hj.out.symm
  have e1c := hcell i hie
  have e1f := hfz i hie
  have q3 : (0 : Int) ≤ (i : Int) := by omega
  have q4 : (i : Int) < (E.size : Int) := by omega
  have q5 : (0 : Int) ≤ (j : Int) := by omega
  have q6 : (j : Int) < 8 := by omega
  have l8 := (E[i]'hie).toNat_lt
  have Hcell := Lib.hid hcell
  clear hcell
  have HB5 := Lib.hid hB5
  clear hB5
  have Hbw := Lib.hid hbw
  clear hbw
  clear hbe hrun hfz hB hsz HB4
  go_upto_region 10 with fail
  rw [xor_pow _ _ hj8]
  have hel : (encL H a1.data.toList)[i]'hil = E[i]'hie := by
    have : E.data.toList[i]'(by exact hie) = (encL H a1.data.toList)[i]'hil := by simp only [HEl.out]
    rw [← this]
    rfl
  have hbk : (convert 42 9 (.slice (some ⟨b, 0, none⟩) E.size cap)).run Try.prog (W1.setCell ⟨b, i, none⟩ (.int .u8 (((E[i]'hie ^^^ UInt8.ofNat (2 ^ j)).toNat : Nat) : Int))) = .ok (.string ⟨F.toArray⟩) (W1.setCell ⟨b, i, none⟩ (.int .u8 (((E[i]'hie ^^^ UInt8.ofNat (2 ^ j)).toNat : Nat) : Int))) := by
    refine run_bytes_back _ ⟨b, 0, none⟩ E.size cap F HFl.out.symm ?_
    rw [HF.out]
    have hs := str_set W1 b i (encL H a1.data.toList) (E[i]'hie ^^^ UInt8.ofNat (2 ^ j)) hil (fun n hn => by
      have hn2 : n < E.size := by rw [← HFl.out, HF.out, List.length_set]; exact hn
      rw [Hcell.out n hn2]
      have : E.data.toList[n]'(by exact hn2) = (encL H a1.data.toList)[n]'hn := by simp only [HEl.out]
      rw [← this]
      rfl)
    rw [hel]
    exact hs
  have hB6 : Below w.heap.size w (W1.setCell ⟨b, i, none⟩ (.int .u8 (((E[i]'hie ^^^ UInt8.ofNat (2 ^ j)).toNat : Nat) : Int))) := HB5.out.setCell Hbw.out _
  clear e1c e1f q1 q2 q3 q4 q5 q6 l8 hel Hcell HB5 Hbw
  have HB6 := Lib.hid hB6
  clear hB6
  generalize W1.setCell _ _ = W5 at *
  go_wp2_with fail
  with_reducible refine (D2.out _).mono ?_
  rintro e w6 ⟨rfl, hb6⟩
  have hB7 := HB6.out.trans (hb6.mono HB6.out.size)
  clear HB6 hb6 hbk
  go_upto_region 11 with fail
  have hB8 : Below w.heap.size w (w6.alloc (.cells #[.int .u32 0, .int .u32 0, .int .u8 0, .int .u8 0, .int .u8 0, .int .u16 0, .bool false] 48)) := hB7.alloc hB7.size _
  clear hB7
  generalize w6.alloc _ = w7 at *
  have HB8 := Lib.hid hB8
  clear hB8
  have hc2 : a3 % (E.size : Int) = (c : Int) := Hc.out.symm
  have hc3 : 0 < E.size := by omega
  have hc4 : (0 : Int) < (E.size : Int) := by omega
  go_wp2_with fail
  with_reducible refine (D3.out _).mono ?_
  rintro e w8 ⟨rfl, hb8⟩
  have hB9 := HB8.out.trans (hb8.mono HB8.out.size)
  clear HB8 hb8 hc2
  go_upto_region 12 with fail
  have hB10 : Below w.heap.size w (w8.alloc (.cells #[.int .u32 0, .int .u32 0, .int .u8 0, .int .u8 0, .int .u8 0, .int .u16 0, .bool false] 48)) := hB9.alloc hB9.size _
  clear hB9
  generalize w8.alloc _ = w9 at *
  have HB10 := Lib.hid hB10
  clear hB10
  go_wp2_with fail
  with_reducible refine (D4.out _).mono ?_
  rintro e w10 ⟨rfl, hb10⟩
  have hB11 := HB10.out.trans (hb10.mono HB10.out.size)
  clear HB10 hb10
  go_upto_region 13 with fail
  have hB12 : Below w.heap.size w (w10.alloc (.cells #[.int .u32 0, .int .u32 0, .int .u8 0, .int .u8 0, .int .u8 0, .int .u16 0, .bool false] 48)) := hB11.alloc hB11.size _
  clear hB11
  generalize w10.alloc _ = w11 at *
  have HB12 := Lib.hid hB12
  clear hB12
  go_wp2_with fail
  (with_reducible refine (alive_ip _).mono ?_)
  rintro e w12 ⟨rfl, hb12⟩
  go_wp2
  go_ret
  exact ⟨rfl, HB12.out.trans (hb12.mono HB12.out.size)⟩

theorem own : ownKnob Try.prog.godebug = none := by kernel_rfl
theorem laidOut : laidOutB Try.prog = true := by kernel_rfl
set_option maxRecDepth 100000 in
theorem lifted (os : Os) (started : os.Started) (H : Type) (enc : TypeId × Value → H) :
    ReturnsInHanded {} Try.checked os 9 .any (Rows.ipBackSpec.pre6 enc Try.prog Try.f9 Rows.ipBackRow.domain false) (Rows.ipBackSpec.post enc Try.prog Try.f9 false true false false) := by
  refine returnsInHanded_of_change (C := Try.checked) own started (by kernel_rfl) Try.func9
    (ChangeSpec.witness6 (enc := enc) (C := Try.checked) false ⟨#[], #[.agg #[.int .u32 0, .int .u32 0, .int .u8 0, .int .u8 0, .int .u8 0, .int .u16 0, .bool false], .string ByteArray.empty, .int .u8 0, .int .u16 0], []⟩ 8 (by kernel_rfl) (by kernel_rfl) (by kernel_rfl) (by kernel_rfl)) ?_
  intro W base args ds gs before hval0 hW hcnd _
  have hval : ∀ (j : Nat) t v, Try.f9.params[j]? = some t → args[j]? = some v → Value.okWide Try.prog W .any base t v := hval0
  have hW' := hW
  obtain ⟨p, q, hA0, hV, rfl, hfz, hnd⟩ := hW
  have hA : DataW.TrodAll enc Try.prog W 0 (fun _ => true) true Try.f9.params.toList args.toList ds p := hA0
  rw [Try.params9] at hA hval
  obtain ⟨v0, vs0, d0, ds0, p0, q0, hargs, rfl, rfl, h0, r0⟩ := trodAll_cons hA
  obtain ⟨v1, vs1, d1, ds1, p1, q1, rfl, rfl, rfl, h1, r1⟩ := trodAll_cons r0
  obtain ⟨v2, vs2, d2, ds2, p2, q2, rfl, rfl, rfl, h2, r2⟩ := trodAll_cons r1
  obtain ⟨v3, vs3, d3, ds3, p3, q3, rfl, rfl, rfl, h3, r3⟩ := trodAll_cons r2
  obtain ⟨rfl, rfl, rfl⟩ := trodAll_nil r3
  obtain rfl : args = #[v0, v1, v2, v3] := by cases args; simp_all
  obtain ⟨rfl, rfl⟩ := trodVars_none hV
  have k0 := h0
  have lt0 : ∀ x ∈ p0, x.block < W.heap.size := by obtain ⟨m, hm⟩ := k0; exact DataW.trod_lt m _ _ _ hm
  obtain ⟨c0_0, c0_1, c0_2, c0_3, c0_4, c0_5, c0_6, y0_0, y0_1, y0_2, y0_3, y0_4, y0_5, y0_6, m0, rfl, rfl, rfl, hy0_0, hy0_1, hy0_2, hy0_3, hy0_4, hy0_5, hy0_6⟩ := open_agg7 Try.underlying48 (by kernel_rfl) (by kernel_rfl) (hval 0 48 v0 rfl rfl) h0
  obtain ⟨a0_0, e0_0, rfl, w0_0⟩ := DataW.trod_int Try.underlying44 hy0_0
  simp at e0_0
  subst e0_0
  obtain ⟨a0_1, e0_1, rfl, w0_1⟩ := DataW.trod_int Try.underlying44 hy0_1
  simp at e0_1
  subst e0_1
  obtain ⟨a0_2, e0_2, rfl, w0_2⟩ := DataW.trod_int Try.underlying5 hy0_2
  simp at e0_2
  subst e0_2
  obtain ⟨a0_3, e0_3, rfl, w0_3⟩ := DataW.trod_int Try.underlying5 hy0_3
  simp at e0_3
  subst e0_3
  obtain ⟨a0_4, e0_4, rfl, w0_4⟩ := DataW.trod_int Try.underlying5 hy0_4
  simp at e0_4
  subst e0_4
  obtain ⟨a0_5, e0_5, rfl, w0_5⟩ := DataW.trod_int Try.underlying41 hy0_5
  simp at e0_5
  subst e0_5
  obtain ⟨a0_6, e0_6, rfl⟩ := DataW.trod_bool Try.underlying4 hy0_6
  simp at e0_6
  subst e0_6
  obtain ⟨a1, rfl, rfl, rfl, w1⟩ := open_string Try.underlying9 (hval 1 9 v1 rfl rfl) h1
  obtain ⟨a2, rfl, rfl, rfl, w2⟩ := open_int Try.underlying5 (hval 2 5 v2 rfl rfl) h2
  obtain ⟨a3, rfl, rfl, rfl, w3⟩ := open_int Try.underlying41 (hval 3 41 v3 rfl rfl) h3
  clear hA0 hval0
  refine (walk a0_0 a0_1 a0_2 a0_3 a0_4 a0_5 a0_6 a1 a2 a3 W w0_0 w0_1 w0_2 w0_3 w0_4 w0_5 w1 w2 w3).mono fun e W' ⟨he, bel⟩ => ?_
  subst he
  exact ⟨_, rfl, _, _, _, [], _, [], hW', trodAll_mk1 (shut_bool Try.underlying4 _), (trodAll_cons_mk (Below.trod laidOut (by kernel_rfl) (of_decide_eq_true (by kernel_rfl)) k0 bel lt0) (trodAll_cons_mk (shut_string Try.underlying9 w1) (trodAll_cons_mk (shut_int Try.underlying5 w2) (trodAll_cons_mk (shut_int Try.underlying41 w3) trodAll_mk0)))), rfl, bel.frame _, fun h => by cases h⟩

theorem over : Rows.ipBackRow.holds Try.pinned (OpenSpec.ofChange Rows.ipBackSpec) :=
  OpenClaim.holds_of_wide 9 Try.f9 rfl rfl rfl rfl rfl rfl rfl ⟨rfl, rfl, rfl, rfl, rfl⟩ rfl rfl rfl rfl rfl (by kernel_rfl) Try.func9 (by kernel_rfl)
    (of_decide_eq_true (by kernel_rfl)) (by unfold Func.isWrapper; first | (rw [if_pos (by decide +kernel)]; kernel_rfl) | (rw [if_neg (by decide +kernel)]; exact ⟨rfl, rfl⟩))
    (fun os started H enc _ => lifted os started H enc)

/-- THE STATEMENT -/
theorem proved : Rows.IpBackSaid := over
#print axioms proved
end Go.Proofs.Ytbfmgdcnpefciaa.ipBack
