/- The statement TcpBack: what was written is read, by the same addresses; a segment of which one bit is turned is not read, nor one that comes from, or goes to, an address of which a bit is; for any addresses, any head, any data, any bits. -/
import Derived.Test.YtpmcdpbolcmhgaaTcpAlive
import Derived.Test.YtpmcdpbolcmhgaaAggs
set_option linter.unusedVariables false
set_option linter.unusedSimpArgs false
namespace Go.Proofs.Ytpmcdpbolcmhgaa.tcpBack
open Go.ChangeShapes Go.WideShapes Go.ChangeAt Go.RowKit
open Go.ChangeMaps (open_string shut_string)

theorem str_set (W1 : World) (g k : Nat) (l : List UInt8) (a : UInt8) (hk : k < l.length) (hc : ∀ j (h : j < l.length), W1.cell? ⟨g, j, none⟩ = some (.int .u8 (l[j].toNat : Int))) :
    ∀ j (h : j < (l.set k a).length), (W1.setCell ⟨g, k, none⟩ (.int .u8 (a.toNat : Int))).cell? ((⟨g, 0, none⟩ : Addr).add j) = some (.int .u8 ((l.set k a)[j].toNat : Int)) := by
  intro j hj
  have hjl : j < l.length := by simpa using hj
  rw [add_plain, Nat.zero_add]
  by_cases h0 : j = k
  · subst h0
    rw [World.cell?_setCell_same' _ _ _ (by rw [hc j hjl]; rfl)]
    simp
  · rw [World.cell?_setCell_other _ _ _ _ (by intro e; injection e with _ e; omega), hc j hjl, List.getElem_set_ne (by omega)]
theorem xor_pow (c : UInt8) (j : Nat) (hj : j < 8) : bits .xor .u8 (c.toNat : Int) ((2 : Int) ^ j % 256) = (((c ^^^ UInt8.ofNat (2 ^ j)).toNat : Nat) : Int) := by
  have hc := c.toNat_lt
  have e : ((2 : Int) ^ j % 256) = ((2 ^ j % 256 : Nat) : Int) := by
    have : j = 0 ∨ j = 1 ∨ j = 2 ∨ j = 3 ∨ j = 4 ∨ j = 5 ∨ j = 6 ∨ j = 7 := by omega
    rcases this with rfl | rfl | rfl | rfl | rfl | rfl | rfl | rfl <;> rfl
  rw [e, u8_xor_nat _ _ (by omega) (Nat.mod_lt _ (by decide)), UInt8.toNat_xor, UInt8.toNat_ofNat']
theorem xor_pow32 (s j : Nat) (hs : s < 4294967296) (hj : j < 32) : bits .xor .u32 (s : Int) ((2 : Int) ^ j % 4294967296) = ((flipN s j : Nat) : Int) := by
  have hp : 2 ^ j < 2 ^ 32 := Nat.pow_lt_pow_right (by decide) hj
  have e : ((2 : Int) ^ j % 4294967296) = ((2 ^ j : Nat) : Int) := by
    rw [show (2 : Int) ^ j = ((2 ^ j : Nat) : Int) by norm_cast]
    generalize (2 ^ j : Nat) = p at *
    omega
  rw [e, u32_xor_nat _ _ hs (by omega)]
  rfl
theorem bad_calls (s d : Nat) (si di : Int) (hsi : (s : Int) = si) (hdi : (d : Int) = di) (t : ByteArray) (h : decE s d t.data.toList = 55) (w : World) (hs : s < 4294967296) (hd : d < 4294967296) (ht : t.size ≤ 131072) :
    Calls Try.prog 13 #[.int .u32 si, .int .u32 di, .string t] w fun e w' => e = .returned (.tuple #[.agg #[.int .u16 0, .int .u16 0, .int .u32 0, .int .u32 0, .int .u8 0, .int .u16 0, .int .u16 0, .string ⟨#[]⟩], .string ⟨#[]⟩, .int .i64 55]) ∧ Below w.heap.size w w' := by
  have := dec_v s d si di hsi hdi t _ (decV_bad h (by decide)) w hs hd ht
  exact this
set_option maxRecDepth 100000 in
set_option maxHeartbeats 4000000 in
theorem walk (a0 a1 a2_0 a2_1 a2_2 a2_3 a2_4 a2_5 a2_6 : Int) (a2_7 a3 : ByteArray) (a4 a5 : Int) (w : World) (w0 : (Lit.int .u32 a0).wf = true) (w1 : (Lit.int .u32 a1).wf = true) (w2_0 : (Lit.int .u16 a2_0).wf = true) (w2_1 : (Lit.int .u16 a2_1).wf = true) (w2_2 : (Lit.int .u32 a2_2).wf = true) (w2_3 : (Lit.int .u32 a2_3).wf = true) (w2_4 : (Lit.int .u8 a2_4).wf = true) (w2_5 : (Lit.int .u16 a2_5).wf = true) (w2_6 : (Lit.int .u16 a2_6).wf = true) (w2_7 : a2_7.size ≤ maxLen) (w3 : a3.size ≤ maxLen) (w4 : (Lit.int .u16 a4).wf = true) (w5 : (Lit.int .u8 a5).wf = true) :
    Calls Try.prog 5 #[.int .u32 a0, .int .u32 a1, .agg #[.int .u16 a2_0, .int .u16 a2_1, .int .u32 a2_2, .int .u32 a2_3, .int .u8 a2_4, .int .u16 a2_5, .int .u16 a2_6, .string a2_7], .string a3, .int .u16 a4, .int .u8 a5] w fun e w' => e = .returned (.bool true) ∧ Below w.heap.size w w' := by
  unfold maxLen at w2_7 w3
  obtain ⟨l0, g0⟩ := bounds_u32 w0
  obtain ⟨l1, g1⟩ := bounds_u32 w1
  obtain ⟨l4, g4⟩ := bounds_u16 w4
  obtain ⟨l5, g5⟩ := bounds_u8 w5
  obtain ⟨s, hs⟩ : ∃ s : Nat, (s : Int) = a0 := ⟨a0.toNat, by omega⟩
  obtain ⟨d, hd⟩ : ∃ s : Nat, (s : Int) = a1 := ⟨a1.toNat, by omega⟩
  subst hs hd
  have s1 : s < 4294967296 := by omega
  have s2 : d < 4294967296 := by omega
  obtain ⟨H, hok, hO, hH⟩ := head_of a2_0 a2_1 a2_2 a2_3 a2_4 a2_5 a2_6 a2_7 w2_0 w2_1 w2_2 w2_3 w2_4 w2_5 w2_6
  clear w2_0 w2_1 w2_2 w2_3 w2_4 w2_5 w2_6 w0 w1 w4 w5
  have hb0 : Below w.heap.size w w := Below.refl _ _
  have HB := Lib.hid hb0
  clear hb0
  by_cases h1 : 2048 < a3.size ∨ 1024 < a2_7.size
  · clear hH hO hok
    rcases h1 with h1 | h1
    · go_enter Try.func5, Try.ntmps5
      go_upto_region 1 with fail
      have hx := Blk.new w 25 #[.int .u16 a2_0, .int .u16 a2_1, .int .u32 a2_2, .int .u32 a2_3, .int .u8 a2_4, .int .u16 a2_5, .int .u16 a2_6, .string a2_7]
      have hB := HB.out.alloc HB.out.size (.cells #[.int .u16 a2_0, .int .u16 a2_1, .int .u32 a2_2, .int .u32 a2_3, .int .u8 a2_4, .int .u16 a2_5, .int .u16 a2_6, .string a2_7] 25)
      clear HB
      obtain ⟨gx, hge⟩ : ∃ g, g = w.heap.size := ⟨_, rfl⟩
      rw [← hge] at hx ⊢
      clear hge
      generalize w.alloc _ = wn1 at *
      have Hx := Lib.hid hx
      clear hx
      have HB := Lib.hid hB
      clear hB
      go_wp2_with fail
      (with_reducible refine (alive_tcp _).mono ?_)
      rintro e wc2 ⟨rfl, hbq⟩
      have hx := Hx.out.below hbq Hx.out.lt
      clear Hx
      have Hx := Lib.hid hx
      clear hx
      have hB := HB.out.trans (hbq.mono HB.out.size)
      clear HB
      have HB := Lib.hid hB
      clear hB
      clear hbq
      go_wp2
      go_ret
      exact ⟨rfl, HB.out⟩
    · have h2 : a3.size ≤ 2048 ∨ 2048 < a3.size := by omega
      rcases h2 with h2 | h2
      · have i1 : (a3.size : Int) ≤ 2048 := by omega
        have i2 : 1024 < (a2_7.size : Int) := by omega
        go_enter Try.func5, Try.ntmps5
        go_upto_region 1 with fail
        have hx := Blk.new w 25 #[.int .u16 a2_0, .int .u16 a2_1, .int .u32 a2_2, .int .u32 a2_3, .int .u8 a2_4, .int .u16 a2_5, .int .u16 a2_6, .string a2_7]
        have hB := HB.out.alloc HB.out.size (.cells #[.int .u16 a2_0, .int .u16 a2_1, .int .u32 a2_2, .int .u32 a2_3, .int .u8 a2_4, .int .u16 a2_5, .int .u16 a2_6, .string a2_7] 25)
        clear HB
        obtain ⟨gx, hge⟩ : ∃ g, g = w.heap.size := ⟨_, rfl⟩
        rw [← hge] at hx ⊢
        clear hge
        generalize w.alloc _ = wn3 at *
        have Hx := Lib.hid hx
        clear hx
        have HB := Lib.hid hB
        clear hB
        have c0 := Hx.out.cell 0
        have c1 := Hx.out.cell 1
        have c2 := Hx.out.cell 2
        have c3 := Hx.out.cell 3
        have c4 := Hx.out.cell 4
        have c5 := Hx.out.cell 5
        have c6 := Hx.out.cell 6
        have c7 := Hx.out.cell 7
        simp at c0 c1 c2 c3 c4 c5 c6 c7
        go_upto_region 2 with fail
        clear c0 c1 c2 c3 c4 c5 c6 c7
        go_wp2_with fail
        (with_reducible refine (alive_tcp _).mono ?_)
        rintro e wc4 ⟨rfl, hbq⟩
        have hx := Hx.out.below hbq Hx.out.lt
        clear Hx
        have Hx := Lib.hid hx
        clear hx
        have hB := HB.out.trans (hbq.mono HB.out.size)
        clear HB
        have HB := Lib.hid hB
        clear hB
        clear hbq
        go_wp2
        go_ret
        exact ⟨rfl, HB.out⟩
      · go_enter Try.func5, Try.ntmps5
        go_upto_region 1 with fail
        have hx := Blk.new w 25 #[.int .u16 a2_0, .int .u16 a2_1, .int .u32 a2_2, .int .u32 a2_3, .int .u8 a2_4, .int .u16 a2_5, .int .u16 a2_6, .string a2_7]
        have hB := HB.out.alloc HB.out.size (.cells #[.int .u16 a2_0, .int .u16 a2_1, .int .u32 a2_2, .int .u32 a2_3, .int .u8 a2_4, .int .u16 a2_5, .int .u16 a2_6, .string a2_7] 25)
        clear HB
        obtain ⟨gx, hge⟩ : ∃ g, g = w.heap.size := ⟨_, rfl⟩
        rw [← hge] at hx ⊢
        clear hge
        generalize w.alloc _ = wn5 at *
        have Hx := Lib.hid hx
        clear hx
        have HB := Lib.hid hB
        clear hB
        go_wp2_with fail
        (with_reducible refine (alive_tcp _).mono ?_)
        rintro e wc6 ⟨rfl, hbq⟩
        have hx := Hx.out.below hbq Hx.out.lt
        clear Hx
        have Hx := Lib.hid hx
        clear hx
        have hB := HB.out.trans (hbq.mono HB.out.size)
        clear HB
        have HB := Lib.hid hB
        clear hB
        clear hbq
        go_wp2
        go_ret
        exact ⟨rfl, HB.out⟩
  have i1 : (a3.size : Int) ≤ 2048 := by omega
  have i2 : (a2_7.size : Int) ≤ 1024 := by omega
  have c1 := fun W => enc_all s d H a3 W s1 s2 hok (by rw [hO]; omega) (by omega)
  rw [hH] at c1
  unfold encV at c1
  by_cases h2 : encE H a3 ≠ 0
  · generalize encS s d H a3 = E at *
    generalize encE H a3 = k at *
    have h3 : (k != 0) = true := by rw [bne_iff_ne]; exact h2
    have C1 := Lib.hid c1
    clear c1
    clear hH hok hO h1 h2
    go_enter Try.func5, Try.ntmps5
    go_upto_region 1 with fail
    have hx := Blk.new w 25 #[.int .u16 a2_0, .int .u16 a2_1, .int .u32 a2_2, .int .u32 a2_3, .int .u8 a2_4, .int .u16 a2_5, .int .u16 a2_6, .string a2_7]
    have hB := HB.out.alloc HB.out.size (.cells #[.int .u16 a2_0, .int .u16 a2_1, .int .u32 a2_2, .int .u32 a2_3, .int .u8 a2_4, .int .u16 a2_5, .int .u16 a2_6, .string a2_7] 25)
    clear HB
    obtain ⟨gx, hge⟩ : ∃ g, g = w.heap.size := ⟨_, rfl⟩
    rw [← hge] at hx ⊢
    clear hge
    generalize w.alloc _ = wn7 at *
    have Hx := Lib.hid hx
    clear hx
    have HB := Lib.hid hB
    clear hB
    have c0 := Hx.out.cell 0
    have c1 := Hx.out.cell 1
    have c2 := Hx.out.cell 2
    have c3 := Hx.out.cell 3
    have c4 := Hx.out.cell 4
    have c5 := Hx.out.cell 5
    have c6 := Hx.out.cell 6
    have c7 := Hx.out.cell 7
    simp at c0 c1 c2 c3 c4 c5 c6 c7
    go_wp2_with fail
    (with_reducible refine (C1.out _).mono ?_)
    rintro e wc8 ⟨rfl, hbq⟩
    have hx := Hx.out.below hbq Hx.out.lt
    clear Hx
    have Hx := Lib.hid hx
    clear hx
    have hB := HB.out.trans (hbq.mono HB.out.size)
    clear HB
    have HB := Lib.hid hB
    clear hB
    clear hbq
    clear c0 c1 c2 c3 c4 c5 c6 c7
    go_wp2_with fail
    (with_reducible refine (alive_tcp _).mono ?_)
    rintro e wc9 ⟨rfl, hbq⟩
    have hx := Hx.out.below hbq Hx.out.lt
    clear Hx
    have Hx := Lib.hid hx
    clear hx
    have hB := HB.out.trans (hbq.mono HB.out.size)
    clear HB
    have HB := Lib.hid hB
    clear hB
    clear hbq
    go_wp2
    go_ret
    exact ⟨rfl, HB.out⟩
  have hmay : H.may := by
    unfold encE at h2
    by_cases q : H.may
    · exact q
    · rw [if_neg q] at h2; simp at h2
  have hlen : 20 + H.opts.size + a3.size ≤ 65515 := by rw [hO]; omega
  have hE0 : encE H a3 = 0 := by omega
  rw [hE0] at c1
  obtain ⟨E, hE⟩ : ∃ E : ByteArray, E = encS s d H a3 := ⟨_, rfl⟩
  rw [← hE] at c1
  unfold encS at hE
  rw [if_pos ⟨hmay, hlen⟩] at hE
  have hEl : E.data.toList = encL s d H a3.data.toList := by rw [hE]
  have hll : a3.data.toList.length = a3.size := rfl
  have hEz : E.size = 20 + H.opts.size + a3.size := by
    have := enc_len s d H a3.data.toList
    rw [← hEl] at this
    exact this
  have d1 := fun W => dec_all s d E W s1 s2 (by omega)
  rw [hEl, dec_enc hok hmay hlen, hH] at d1
  have hE2 : E.size ≤ 3092 := by rw [hEz, hO]; omega
  have hE3 : 20 ≤ E.size := by omega
  obtain ⟨K, hK⟩ : ∃ K, K = a4 % (8 * (E.size : Int)) := ⟨_, rfl⟩
  have K1 : 0 ≤ K := by rw [hK]; exact Int.emod_nonneg _ (by omega)
  have K2 : K < 8 * (E.size : Int) := by rw [hK]; exact Int.emod_lt_of_pos _ (by omega)
  obtain ⟨i, hi⟩ : ∃ i : Nat, (i : Int) = K / 8 := ⟨(K / 8).toNat, by omega⟩
  obtain ⟨j, hj⟩ : ∃ j : Nat, (j : Int) = K % 8 := ⟨(K % 8).toNat, by omega⟩
  have hie : i < E.size := by omega
  have hj8 : j < 8 := by omega
  obtain ⟨m, hm⟩ : ∃ m : Nat, (m : Int) = a5 % 32 := ⟨(a5 % 32).toNat, by omega⟩
  have hm32 : m < 32 := by omega
  have hil : i < (encL s d H a3.data.toList).length := by rw [← hEl]; exact hie
  obtain ⟨F, hF⟩ : ∃ F : List UInt8, F = (encL s d H a3.data.toList).set i ((encL s d H a3.data.toList)[i] ^^^ UInt8.ofNat (2 ^ j)) := ⟨_, rfl⟩
  have hFe := decE_flip (s := s) (d := d) (h := H) (data := a3.data.toList) hlen i j hj8 hil
  rw [← hF] at hFe
  have hFl : F.length = E.size := by rw [hF, List.length_set, ← hEl]; rfl
  have d2 := fun W => bad_calls s d s d rfl rfl ⟨F.toArray⟩ hFe W s1 s2 (by show F.length ≤ _; omega)
  have hf1 := (flipN_sum s1 hm32).1
  have hf2 := (flipN_sum s2 hm32).1
  have d3 := fun W => bad_calls (flipN s m) d _ d rfl rfl E (by rw [hEl]; exact decE_src s1 s2 hlen m hm32) W hf1 s2 (by omega)
  have d4 := fun W => bad_calls s (flipN d m) s _ rfl rfl E (by rw [hEl]; exact decE_dst s1 s2 hlen m hm32) W s1 hf2 (by omega)
  have x1 := xor_pow32 s m s1 hm32
  have x2 := xor_pow32 d m s2 hm32
  generalize flipN s m = fs at *
  generalize flipN d m = fd at *
  have k2 : (E.size : Int) ≤ 3092 := by omega
  have k3 : (20 : Int) ≤ (E.size : Int) := by omega
  have k4 : ¬ E.size = 0 := by omega
  have C1 := Lib.hid c1
  clear c1
  have D1 := Lib.hid d1
  clear d1
  have D2 := Lib.hid d2
  clear d2
  have D3 := Lib.hid d3
  clear d3
  have D4 := Lib.hid d4
  clear d4
  have HK := Lib.hid hK
  clear hK
  have Hi := Lib.hid hi
  clear hi
  have Hj := Lib.hid hj
  clear hj
  have Hm := Lib.hid hm
  clear hm
  have HE := Lib.hid hE
  clear hE
  have HEl := Lib.hid hEl
  clear hEl
  have HEz := Lib.hid hEz
  clear hEz
  have HF := Lib.hid hF
  clear hF
  have HFl := Lib.hid hFl
  clear hFl
  have X1 := Lib.hid x1
  clear x1
  have X2 := Lib.hid x2
  clear x2
  clear hH hok hO h1 h2 hmay hE0 hFe hll hlen hf1 hf2
  go_enter Try.func5, Try.ntmps5
  go_upto_region 1 with fail
  have hx := Blk.new w 25 #[.int .u16 a2_0, .int .u16 a2_1, .int .u32 a2_2, .int .u32 a2_3, .int .u8 a2_4, .int .u16 a2_5, .int .u16 a2_6, .string a2_7]
  have hB := HB.out.alloc HB.out.size (.cells #[.int .u16 a2_0, .int .u16 a2_1, .int .u32 a2_2, .int .u32 a2_3, .int .u8 a2_4, .int .u16 a2_5, .int .u16 a2_6, .string a2_7] 25)
  clear HB
  obtain ⟨gx, hge⟩ : ∃ g, g = w.heap.size := ⟨_, rfl⟩
  rw [← hge] at hx ⊢
  clear hge
  generalize w.alloc _ = wn10 at *
  have Hx := Lib.hid hx
  clear hx
  have HB := Lib.hid hB
  clear hB
  have c0 := Hx.out.cell 0
  have c1 := Hx.out.cell 1
  have c2 := Hx.out.cell 2
  have c3 := Hx.out.cell 3
  have c4 := Hx.out.cell 4
  have c5 := Hx.out.cell 5
  have c6 := Hx.out.cell 6
  have c7 := Hx.out.cell 7
  simp at c0 c1 c2 c3 c4 c5 c6 c7
  go_wp2_with fail
  (with_reducible refine (C1.out _).mono ?_)
  rintro e wc11 ⟨rfl, hbq⟩
  have hx := Hx.out.below hbq Hx.out.lt
  clear Hx
  have Hx := Lib.hid hx
  clear hx
  have hB := HB.out.trans (hbq.mono HB.out.size)
  clear HB
  have HB := Lib.hid hB
  clear hB
  clear hbq
  clear c0 c1 c2 c3 c4 c5 c6 c7
  go_wp2_with fail
  (with_reducible refine (D1.out _).mono ?_)
  rintro e wc12 ⟨rfl, hbq⟩
  have hx := Hx.out.below hbq Hx.out.lt
  clear Hx
  have Hx := Lib.hid hx
  clear hx
  have hB := HB.out.trans (hbq.mono HB.out.size)
  clear HB
  have HB := Lib.hid hB
  clear hB
  clear hbq
  go_upto_region 7 with fail
  have hy := Blk.new wc12 25 #[.int .u16 a2_0, .int .u16 a2_1, .int .u32 a2_2, .int .u32 a2_3, .int .u8 a2_4, .int .u16 a2_5, .int .u16 a2_6, .string a2_7]
  have hx := Blk.alloc Hx.out (.cells #[.int .u16 a2_0, .int .u16 a2_1, .int .u32 a2_2, .int .u32 a2_3, .int .u8 a2_4, .int .u16 a2_5, .int .u16 a2_6, .string a2_7] 25)
  clear Hx
  have hB := HB.out.alloc HB.out.size (.cells #[.int .u16 a2_0, .int .u16 a2_1, .int .u32 a2_2, .int .u32 a2_3, .int .u8 a2_4, .int .u16 a2_5, .int .u16 a2_6, .string a2_7] 25)
  clear HB
  obtain ⟨gy, hge⟩ : ∃ g, g = wc12.heap.size := ⟨_, rfl⟩
  rw [← hge] at hy ⊢
  clear hge
  generalize wc12.alloc _ = w4 at *
  have Hx := Lib.hid hx
  clear hx
  have Hy := Lib.hid hy
  clear hy
  have HB := Lib.hid hB
  clear hB
  have c0 := Hx.out.cell 0
  have c1 := Hx.out.cell 1
  have c2 := Hx.out.cell 2
  have c3 := Hx.out.cell 3
  have c4 := Hx.out.cell 4
  have c5 := Hx.out.cell 5
  have c6 := Hx.out.cell 6
  have c7 := Hx.out.cell 7
  simp at c0 c1 c2 c3 c4 c5 c6 c7
  have d0 := Hy.out.cell 0
  have d1 := Hy.out.cell 1
  have d2 := Hy.out.cell 2
  have d3 := Hy.out.cell 3
  have d4 := Hy.out.cell 4
  have d5 := Hy.out.cell 5
  have d6 := Hy.out.cell 6
  have d7 := Hy.out.cell 7
  simp at d0 d1 d2 d3 d4 d5 d6 d7
  go_upto_region 9 with fail
  clear c0 c1 c2 c3 c4 c5 c6 c7
  clear d0 d1 d2 d3 d4 d5 d6 d7
  clear Hx Hy
  obtain ⟨W1, cap, hrun, hB, hsz, hcell, hfz⟩ := run_bytes_new w4 E
  obtain ⟨b, hbe⟩ : ∃ b, b = w4.heap.size := ⟨_, rfl⟩
  rw [← hbe] at hrun hcell hfz
  go_upto_region 11 with fail
  rw [← hbe, ← HK.out]
  have hB5 := HB.out.trans (hB.mono HB.out.size)
  have hbw : w.heap.size ≤ b := by rw [hbe]; exact HB.out.size
  have q1 : K / 8 = (i : Int) := Hi.out.symm
  have q2 : K % 8 = (j : Int) := Hj.out.symm
  have e1c := hcell i hie
  have e1f := hfz i hie
  have q3 : (0 : Int) ≤ (i : Int) := by omega
  have q4 : (i : Int) < (E.size : Int) := by omega
  have q5 : (0 : Int) ≤ (j : Int) := by omega
  have q6 : (j : Int) < 8 := by omega
  have l8 := (E[i]'hie).toNat_lt
  have Hcell := Lib.hid hcell
  clear hcell
  have HB5 := Lib.hid hB5
  clear hB5
  have Hbw := Lib.hid hbw
  clear hbw
  clear hbe hrun hfz hB hsz HB
  go_upto_region 12 with fail
  rw [xor_pow _ _ hj8]
  have hel : (encL s d H a3.data.toList)[i]'hil = E[i]'hie := by
    have : E.data.toList[i]'(by exact hie) = (encL s d H a3.data.toList)[i]'hil := by simp only [HEl.out]
    rw [← this]
    rfl
  have hbk : (convert 38 9 (.slice (some ⟨b, 0, none⟩) E.size cap)).run Try.prog (W1.setCell ⟨b, i, none⟩ (.int .u8 (((E[i]'hie ^^^ UInt8.ofNat (2 ^ j)).toNat : Nat) : Int))) = .ok (.string ⟨F.toArray⟩) (W1.setCell ⟨b, i, none⟩ (.int .u8 (((E[i]'hie ^^^ UInt8.ofNat (2 ^ j)).toNat : Nat) : Int))) := by
    refine run_bytes_back _ ⟨b, 0, none⟩ E.size cap F HFl.out.symm ?_
    rw [HF.out]
    have hs := str_set W1 b i (encL s d H a3.data.toList) (E[i]'hie ^^^ UInt8.ofNat (2 ^ j)) hil (fun n hn => by
      have hn2 : n < E.size := by rw [← HFl.out, HF.out, List.length_set]; exact hn
      rw [Hcell.out n hn2]
      have : E.data.toList[n]'(by exact hn2) = (encL s d H a3.data.toList)[n]'hn := by simp only [HEl.out]
      rw [← this]
      rfl)
    rw [hel]
    exact hs
  have hB6 : Below w.heap.size w (W1.setCell ⟨b, i, none⟩ (.int .u8 (((E[i]'hie ^^^ UInt8.ofNat (2 ^ j)).toNat : Nat) : Int))) := HB5.out.setCell Hbw.out _
  clear e1c e1f q1 q2 q3 q4 q5 q6 l8 hel Hcell HB5 Hbw
  have HB := Lib.hid hB6
  clear hB6
  generalize W1.setCell _ _ = W5 at *
  go_wp2_with fail
  (with_reducible refine (D2.out _).mono ?_)
  rintro e wc14 ⟨rfl, hbq⟩
  have hB := HB.out.trans (hbq.mono HB.out.size)
  clear HB
  have HB := Lib.hid hB
  clear hB
  clear hbq
  clear hbk
  go_upto_region 13 with fail
  have hz := Blk.new wc14 25 #[.int .u16 0, .int .u16 0, .int .u32 0, .int .u32 0, .int .u8 0, .int .u16 0, .int .u16 0, .string ⟨#[]⟩]
  have hB := HB.out.alloc HB.out.size (.cells #[.int .u16 0, .int .u16 0, .int .u32 0, .int .u32 0, .int .u8 0, .int .u16 0, .int .u16 0, .string ⟨#[]⟩] 25)
  clear HB
  obtain ⟨gz, hge⟩ : ∃ g, g = wc14.heap.size := ⟨_, rfl⟩
  rw [← hge] at hz ⊢
  clear hge
  generalize wc14.alloc _ = wn15 at *
  have Hz := Lib.hid hz
  clear hz
  have HB := Lib.hid hB
  clear hB
  have hm2 : a5 % 32 = (m : Int) := Hm.out.symm
  have x1 := X1.out
  have x2 := X2.out
  clear X1 X2 Hm
  go_wp2_with fail
  (with_reducible refine (D3.out _).mono ?_)
  rintro e wc16 ⟨rfl, hbq⟩
  have hz := Hz.out.below hbq Hz.out.lt
  clear Hz
  have Hz := Lib.hid hz
  clear hz
  have hB := HB.out.trans (hbq.mono HB.out.size)
  clear HB
  have HB := Lib.hid hB
  clear hB
  clear hbq
  go_upto_region 14 with fail
  have hz1 := Blk.new wc16 25 #[.int .u16 0, .int .u16 0, .int .u32 0, .int .u32 0, .int .u8 0, .int .u16 0, .int .u16 0, .string ⟨#[]⟩]
  have hz := Blk.alloc Hz.out (.cells #[.int .u16 0, .int .u16 0, .int .u32 0, .int .u32 0, .int .u8 0, .int .u16 0, .int .u16 0, .string ⟨#[]⟩] 25)
  clear Hz
  have hB := HB.out.alloc HB.out.size (.cells #[.int .u16 0, .int .u16 0, .int .u32 0, .int .u32 0, .int .u8 0, .int .u16 0, .int .u16 0, .string ⟨#[]⟩] 25)
  clear HB
  obtain ⟨gz1, hge⟩ : ∃ g, g = wc16.heap.size := ⟨_, rfl⟩
  rw [← hge] at hz1 ⊢
  clear hge
  generalize wc16.alloc _ = wn17 at *
  have Hz := Lib.hid hz
  clear hz
  have Hz1 := Lib.hid hz1
  clear hz1
  have HB := Lib.hid hB
  clear hB
  go_wp2_with fail
  (with_reducible refine (D4.out _).mono ?_)
  rintro e wc18 ⟨rfl, hbq⟩
  have hz := Hz.out.below hbq Hz.out.lt
  clear Hz
  have Hz := Lib.hid hz
  clear hz
  have hz1 := Hz1.out.below hbq Hz1.out.lt
  clear Hz1
  have Hz1 := Lib.hid hz1
  clear hz1
  have hB := HB.out.trans (hbq.mono HB.out.size)
  clear HB
  have HB := Lib.hid hB
  clear hB
  clear hbq
  go_upto_region 15 with fail
  have hz2 := Blk.new wc18 25 #[.int .u16 0, .int .u16 0, .int .u32 0, .int .u32 0, .int .u8 0, .int .u16 0, .int .u16 0, .string ⟨#[]⟩]
  have hz := Blk.alloc Hz.out (.cells #[.int .u16 0, .int .u16 0, .int .u32 0, .int .u32 0, .int .u8 0, .int .u16 0, .int .u16 0, .string ⟨#[]⟩] 25)
  clear Hz
  have hz1 := Blk.alloc Hz1.out (.cells #[.int .u16 0, .int .u16 0, .int .u32 0, .int .u32 0, .int .u8 0, .int .u16 0, .int .u16 0, .string ⟨#[]⟩] 25)
  clear Hz1
  have hB := HB.out.alloc HB.out.size (.cells #[.int .u16 0, .int .u16 0, .int .u32 0, .int .u32 0, .int .u8 0, .int .u16 0, .int .u16 0, .string ⟨#[]⟩] 25)
  clear HB
  obtain ⟨gz2, hge⟩ : ∃ g, g = wc18.heap.size := ⟨_, rfl⟩
  rw [← hge] at hz2 ⊢
  clear hge
  generalize wc18.alloc _ = wn19 at *
  have Hz := Lib.hid hz
  clear hz
  have Hz1 := Lib.hid hz1
  clear hz1
  have Hz2 := Lib.hid hz2
  clear hz2
  have HB := Lib.hid hB
  clear hB
  go_wp2_with fail
  (with_reducible refine (alive_tcp _).mono ?_)
  rintro e wc20 ⟨rfl, hbq⟩
  have hz := Hz.out.below hbq Hz.out.lt
  clear Hz
  have Hz := Lib.hid hz
  clear hz
  have hz1 := Hz1.out.below hbq Hz1.out.lt
  clear Hz1
  have Hz1 := Lib.hid hz1
  clear hz1
  have hz2 := Hz2.out.below hbq Hz2.out.lt
  clear Hz2
  have Hz2 := Lib.hid hz2
  clear hz2
  have hB := HB.out.trans (hbq.mono HB.out.size)
  clear HB
  have HB := Lib.hid hB
  clear hB
  clear hbq
  go_wp2
  go_ret
  exact ⟨rfl, HB.out⟩

theorem own : ownKnob Try.prog.godebug = none := by kernel_rfl
theorem laidOut : laidOutB Try.prog = true := by kernel_rfl
set_option maxRecDepth 100000 in
theorem lifted (os : Os) (started : os.Started) (H : Type) (enc : TypeId × Value → H) :
    ReturnsInHanded {} Try.checked os 5 .any (Rows.tcpBackSpec.pre6 enc Try.prog Try.f5 Rows.tcpBackRow.domain false) (Rows.tcpBackSpec.post enc Try.prog Try.f5 false true false false) := by
  refine returnsInHanded_of_change (C := Try.checked) own started (by kernel_rfl) Try.func5
    (ChangeSpec.witness6 (enc := enc) (C := Try.checked) false ⟨#[], #[.int .u32 0, .int .u32 0, .agg #[.int .u16 0, .int .u16 0, .int .u32 0, .int .u32 0, .int .u8 0, .int .u16 0, .int .u16 0, .string ByteArray.empty], .string ByteArray.empty, .int .u16 0, .int .u8 0], []⟩ 8 (by kernel_rfl) (by kernel_rfl) (by kernel_rfl) (by kernel_rfl)) ?_
  intro W base args ds gs before hval0 hW hcnd _
  have hval : ∀ (j : Nat) t v, Try.f5.params[j]? = some t → args[j]? = some v → Value.okWide Try.prog W .any base t v := hval0
  have hW' := hW
  obtain ⟨p, q, hA0, hV, rfl, hfz, hnd⟩ := hW
  have hA : DataW.TrodAll enc Try.prog W 0 (fun _ => true) true Try.f5.params.toList args.toList ds p := hA0
  rw [Try.params5] at hA hval
  obtain ⟨v0, vs0, d0, ds0, p0, q0, hargs, rfl, rfl, h0, r0⟩ := trodAll_cons hA
  obtain ⟨v1, vs1, d1, ds1, p1, q1, rfl, rfl, rfl, h1, r1⟩ := trodAll_cons r0
  obtain ⟨v2, vs2, d2, ds2, p2, q2, rfl, rfl, rfl, h2, r2⟩ := trodAll_cons r1
  obtain ⟨v3, vs3, d3, ds3, p3, q3, rfl, rfl, rfl, h3, r3⟩ := trodAll_cons r2
  obtain ⟨v4, vs4, d4, ds4, p4, q4, rfl, rfl, rfl, h4, r4⟩ := trodAll_cons r3
  obtain ⟨v5, vs5, d5, ds5, p5, q5, rfl, rfl, rfl, h5, r5⟩ := trodAll_cons r4
  obtain ⟨rfl, rfl, rfl⟩ := trodAll_nil r5
  obtain rfl : args = #[v0, v1, v2, v3, v4, v5] := by cases args; simp_all
  obtain ⟨rfl, rfl⟩ := trodVars_none hV
  obtain ⟨a0, rfl, rfl, rfl, w0⟩ := open_int Try.underlying22 (hval 0 22 v0 rfl rfl) h0
  obtain ⟨a1, rfl, rfl, rfl, w1⟩ := open_int Try.underlying22 (hval 1 22 v1 rfl rfl) h1
  have k2 := h2
  have lt2 : ∀ x ∈ p2, x.block < W.heap.size := by obtain ⟨m, hm⟩ := k2; exact DataW.trod_lt m _ _ _ hm
  obtain ⟨c2_0, c2_1, c2_2, c2_3, c2_4, c2_5, c2_6, c2_7, y2_0, y2_1, y2_2, y2_3, y2_4, y2_5, y2_6, y2_7, m2, rfl, rfl, rfl, hy2_0, hy2_1, hy2_2, hy2_3, hy2_4, hy2_5, hy2_6, hy2_7⟩ := open_agg8 Try.underlying25 (by kernel_rfl) (by kernel_rfl) (hval 2 25 v2 rfl rfl) h2
  obtain ⟨a2_0, e2_0, rfl, w2_0⟩ := DataW.trod_int Try.underlying23 hy2_0
  simp at e2_0
  subst e2_0
  obtain ⟨a2_1, e2_1, rfl, w2_1⟩ := DataW.trod_int Try.underlying23 hy2_1
  simp at e2_1
  subst e2_1
  obtain ⟨a2_2, e2_2, rfl, w2_2⟩ := DataW.trod_int Try.underlying22 hy2_2
  simp at e2_2
  subst e2_2
  obtain ⟨a2_3, e2_3, rfl, w2_3⟩ := DataW.trod_int Try.underlying22 hy2_3
  simp at e2_3
  subst e2_3
  obtain ⟨a2_4, e2_4, rfl, w2_4⟩ := DataW.trod_int Try.underlying5 hy2_4
  simp at e2_4
  subst e2_4
  obtain ⟨a2_5, e2_5, rfl, w2_5⟩ := DataW.trod_int Try.underlying23 hy2_5
  simp at e2_5
  subst e2_5
  obtain ⟨a2_6, e2_6, rfl, w2_6⟩ := DataW.trod_int Try.underlying23 hy2_6
  simp at e2_6
  subst e2_6
  obtain ⟨a2_7, e2_7, rfl, w2_7⟩ := DataW.trod_string Try.underlying9 hy2_7
  simp at e2_7
  subst e2_7
  obtain ⟨a3, rfl, rfl, rfl, w3⟩ := open_string Try.underlying9 (hval 3 9 v3 rfl rfl) h3
  obtain ⟨a4, rfl, rfl, rfl, w4⟩ := open_int Try.underlying23 (hval 4 23 v4 rfl rfl) h4
  obtain ⟨a5, rfl, rfl, rfl, w5⟩ := open_int Try.underlying5 (hval 5 5 v5 rfl rfl) h5
  clear hA0 hval0
  refine (walk a0 a1 a2_0 a2_1 a2_2 a2_3 a2_4 a2_5 a2_6 a2_7 a3 a4 a5 W w0 w1 w2_0 w2_1 w2_2 w2_3 w2_4 w2_5 w2_6 w2_7 w3 w4 w5).mono fun e W' ⟨he, bel⟩ => ?_
  subst he
  exact ⟨_, rfl, _, _, _, [], _, [], hW', trodAll_mk1 (shut_bool Try.underlying4 _), (trodAll_cons_mk (shut_int Try.underlying22 w0) (trodAll_cons_mk (shut_int Try.underlying22 w1) (trodAll_cons_mk (Below.trod laidOut (by kernel_rfl) (of_decide_eq_true (by kernel_rfl)) k2 bel lt2) (trodAll_cons_mk (shut_string Try.underlying9 w3) (trodAll_cons_mk (shut_int Try.underlying23 w4) (trodAll_cons_mk (shut_int Try.underlying5 w5) trodAll_mk0)))))), rfl, bel.frame _, fun h => by cases h⟩

theorem over : Rows.tcpBackRow.holds Try.pinned (OpenSpec.ofChange Rows.tcpBackSpec) :=
  OpenClaim.holds_of_wide 5 Try.f5 rfl rfl rfl rfl rfl rfl rfl ⟨rfl, rfl, rfl, rfl, rfl⟩ rfl rfl rfl rfl rfl (by kernel_rfl) Try.func5 (by kernel_rfl)
    (of_decide_eq_true (by kernel_rfl)) (by unfold Func.isWrapper; first | (rw [if_pos (by decide +kernel)]; kernel_rfl) | (rw [if_neg (by decide +kernel)]; exact ⟨rfl, rfl⟩))
    (fun os started H enc _ => lifted os started H enc)

/-- THE STATEMENT -/
theorem proved : Rows.TcpBackSaid := over
#print axioms proved
end Go.Proofs.Ytpmcdpbolcmhgaa.tcpBack
