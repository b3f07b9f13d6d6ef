/- The statement PortsOnce: no port is lent twice at one time, nor ahead of the time from which on it is free, and there is one as long as Free says so; how many there are; for any script. -/
import Derived.Test.YtjeckahbkepnpaaPortsO
import Derived.Test.YtjeckahbkepnpaaStructs
set_option linter.unusedVariables false
set_option linter.unusedSimpArgs false
namespace Go.Proofs.Ytjeckahbkepnpaa.portsOnce
open Go.ChangeShapes Go.WideShapes Go.ChangeAt Go.RowKit Go.Maps
open Go.ChangeMaps (open_string shut_string)

theorem V_neg {s : Po} (hp : ∀ p, 0 ≤ s.U p) (p : Nat) : s.V p < 0 ↔ s.L p = true := by
  unfold Po.V
  by_cases h : s.L p = true
  · rw [if_pos h]; simp [h]
  · rw [if_neg h]; have := hp p; simp [h]; omega
/-- the values below 0 among so many keys -/
def negs (s : Po) (ss : List Int) : List Int := ss.filter fun x => decide (s.V x.toNat < 0)
theorem negs_snoc (s : Po) (ss : List Int) (x : Int) : (negs s (ss ++ [x])).length = (negs s ss).length + if s.V x.toNat < 0 then 1 else 0 := by
  unfold negs
  rw [List.filter_append, List.length_append]
  by_cases h : s.V x.toNat < 0 <;> simp [h]
theorem negs_le (s : Po) (ss : List Int) : (negs s ss).length ≤ ss.length := List.length_filter_le _ _
theorem negs_len {s : Po} {M : Lit → Option Value} {n k : Nat} {ss : List Int} {w w' : World} {v : Value} (hK : S16.KeysAre M n ss) (hM : lwM s M) (hp : ∀ p, 0 ≤ s.U p) (hl : LentIs w w' k s v) : ∃ A cap, v = .slice A (negs s ss).length cap := by
  obtain ⟨n1, ML, s1, n2, n3, n4, A, cap, rfl, _⟩ := hl
  have e := keys_len n4 n3 (negs s ss) (hK.1.filter _) (fun x => by
    unfold negs
    rw [List.mem_filter]
    constructor
    · rintro ⟨h1, h2⟩
      have hk := isKey16.1 (hK.2.2.1 x h1)
      exact ⟨hk.1, hk.2, (V_neg hp _).1 (by simpa using h2)⟩
    · rintro ⟨h1, h2, h3⟩
      refine ⟨(hK.2.2.2 x (isKey16.2 ⟨h1, h2⟩)).2 ?_, by simpa using (V_neg hp _).2 h3⟩
      have e := hM x.toNat (by omega)
      rw [show ((x.toNat : Nat) : Int) = x by omega] at e
      cases hh : M (.int .u16 x) with
      | some u => rfl
      | none =>
        rw [hh] at e
        have := (V_neg hp x.toNat).2 h3
        simp at e
        omega)
  rw [e]
  exact ⟨A, cap, rfl⟩
set_option maxRecDepth 100000 in
set_option maxHeartbeats 4000000 in
theorem walk (a0 a1 : Int) (a2 : Option Addr) (len2 cap2 : Nat) (w : World) (w0 : (Lit.int .u16 a0).wf = true) (w1 : (Lit.int .u8 a1).wf = true) (w2 : StrRows w [.inl .i64, .inl .u16, .inl .i64] a2 len2) :
    Calls Try.prog 3 #[.int .u16 a0, .int .u8 a1, .slice a2 len2 cap2] w fun e w' => e = .returned (.bool true) ∧ Below w.heap.size w w' := by
  obtain ⟨l0, g0⟩ := bounds_u16 w0
  obtain ⟨l1, g1⟩ := bounds_u8 w1
  have hlm := w2.1
  unfold maxLen at hlm
  have W2 := Lib.hid w2
  clear w0 w1 w2
  obtain ⟨F, eF⟩ : ∃ F : Nat, a0 % 60000 + 1 = (F : Int) := ⟨(a0 % 60000 + 1).toNat, by omega⟩
  obtain ⟨N, eN⟩ : ∃ n : Nat, a1 % 50 = (n : Int) := ⟨(a1 % 50).toNat, by omega⟩
  obtain ⟨hi, eH⟩ : ∃ hi : Nat, (F : Int) + (N : Int) = (hi : Int) := ⟨F + N, by omega⟩
  have f1 : 1 ≤ F := by omega
  have f2 : F ≤ 60000 := by omega
  have n2 : N < 50 := by omega
  by_cases hl : 300 < len2
  · have hlz : (len2 : Int) > 300 := by omega
    have ca := alive11 w
    go_enter Try.func3, Try.ntmps3
    go_wp2_with (go_at_call 5; with_reducible refine ca.mono ?_; rintro e w3 ⟨rfl, hb⟩)
    go_ret
    exact ⟨rfl, hb⟩
  · have hlz : ¬ (len2 : Int) > 300 := by omega
    have c0 := new_any F hi f1 (by omega) (by omega) w
    have k2 : ∀ W : World, (Instr.makeMap 29 none).run Try.prog W = .ok (.map (some W.heap.size)) (W.alloc (.map #[] 0)) := fun _ => by kernel_rfl
    go_enter Try.func3, Try.ntmps3
    go_wp2_with (go_at_call 6; with_reducible refine c0.mono ?_; rintro e v0 ⟨b, m1, m2, rfl, h0, q1, q2, q3, hb0⟩)
    clear c0
    have hO : Once w (v0.alloc (.map #[] 0)) b m1 m2 v0.heap.size F N 0 (po0 F hi) := {
      at_ := ⟨0, Nat.le_refl _, h0.alloc _⟩
      low := rfl
      high := by simp only [po0]; omega
      law := ⟨0, _, Nat.le_refl _, MapIs.made _ _ _, fun p _ => rfl⟩
      pos := fun _ => by simp only [po0]; omega
      apart := by
        have e1 := h0.blk.lt
        obtain ⟨_, _, _, hM1, _⟩ := h0.ml
        obtain ⟨_, _, _, hM2, _⟩ := h0.mu
        have e2 := hM1.lt
        have e3 := hM2.lt
        omega
      below := hb0.alloc hb0.size _
      old := ⟨q1, q2, q3, hb0.size⟩ }
    have HO := Lib.hid hO
    clear h0 q1 q2 q3 hb0 hO k2
    generalize v0.heap.size = mL at *
    go_loopw [11] (fun i wr => ∃ k : Nat, i = .int .i64 k ∧ k ≤ len2 ∧ Hid (∃ s, Once w wr b m1 m2 mL F N k s)) (fun i _ => len2 - (intOf i).toNat)
    case atStart => exact ⟨0, rfl, Nat.zero_le _, Lib.hid ⟨_, HO.out⟩⟩
    case round =>
      clear HO
      obtain ⟨k, rfl, hk, HI⟩ := hrel
      by_cases hlt : k < len2
      · have hltz : (k : Int) < (len2 : Int) := by omega
        obtain ⟨s, hO⟩ := HI.out
        clear HI
        have hrows := W2.out.below hO.below
        obtain ⟨xb, xo, rfl, hxl, hcell⟩ := hrows.2 k hlt
        obtain ⟨v0', q0, d, rfl, hd⟩ := hcell 0 _ rfl
        obtain ⟨v1, q1, p, rfl, hp⟩ := hcell 1 _ rfl
        obtain ⟨v2, q2, t, rfl, ht⟩ := hcell 2 _ rfl
        obtain ⟨p0, p9⟩ := bounds_u16 hp
        clear hrows hcell hd hp ht
        simp only [List.length_cons, List.length_nil, Nat.zero_add, Nat.reduceAdd, Nat.add_zero] at q0 q1 q2
        have hO1 := hO.keep ((Below.refl _ _).alloc (Nat.le_refl _) (.cells #[.int .i64 d, .int .u16 p, .int .i64 t] 31))
        have hg := Blk.new wr 31 #[.int .i64 d, .int .u16 p, .int .i64 t]
        obtain ⟨p, rfl⟩ : ∃ m : Nat, p = (m : Int) := ⟨p.toNat, by omega⟩
        obtain ⟨k', hk', hP⟩ := hO1.at_
        obtain ⟨n, M, hn, hM, hL⟩ := hO1.law
        have hblt := hP.blk.lt
        have hgw : wr.heap.size ≠ b ∧ wr.heap.size ≠ m1 ∧ wr.heap.size ≠ m2 := by
          obtain ⟨k2, _, hP2⟩ := hO.at_
          obtain ⟨_, _, _, hM1, _⟩ := hP2.ml
          obtain ⟨_, _, _, hM2, _⟩ := hP2.mu
          have := hP2.blk.lt; have := hM1.lt; have := hM2.lt
          omega
        have hlo := hP.lo
        have hnm : n < maxLen := by unfold maxLen; omega
        have hkp : k' ≤ 1000000 := by omega
        have gc : ∀ w3 : World, Out (fun i => i = b ∨ i = m1 ∨ i = m2) (wr.alloc (.cells #[.int .i64 d, .int .u16 (p : Int), .int .i64 t] 31)) w3 → w3.cell? ⟨wr.heap.size, 1, none⟩ = some (.int .u16 (p : Int)) ∧ w3.cell? ⟨wr.heap.size, 2, none⟩ = some (.int .i64 t) ∧ w3.cell? ⟨wr.heap.size, 0, none⟩ = some (.int .i64 d) := fun w3 ho => by
          have h3 : Blk w3 wr.heap.size 31 #[.int .i64 d, .int .u16 (p : Int), .int .i64 t] := hg.of_eq (ho.block _ hg.lt (by
            rintro (e | e | e)
            · exact hgw.1 e
            · exact hgw.2.1 e
            · exact hgw.2.2 e))
          exact ⟨h3.cell 1, h3.cell 2, h3.cell 0⟩
        have HX := Lib.hid (And.intro hO1 (And.intro hk' (And.intro hn (And.intro hM hL))))
        have GC := Lib.hid gc
        have HLO := Lib.hid hlo
        have HNM := Lib.hid hnm
        clear hO hO1 hk' hn hM hL hg hgw hlo hnm gc hblt
        by_cases hd0 : d = 0
        · subst hd0
          by_cases hm : may t
          · cases hs : s.seek t (s.high + 1 - s.low) s.cur with
            | none =>
              have cf := free_any hP t
              rw [free_none s t HLO.out.2.1 HLO.out.2.2.1 hs] at cf
              have ct := take_full hP t hm hs
              have Hs := Lib.hid hs
              clear hs
              have Hm := Lib.hid hm
              clear hm
              clear hP
              go_wp2_with (first
                | (go_at_call 7; with_reducible refine cf.mono ?_; rintro e w3 ⟨rfl, hw⟩; rw [hw]; clear hw)
                | (go_at_call 8; with_reducible refine ct.mono ?_; rintro e w4 ⟨rfl, nq, hw⟩; rw [hw]; clear hw))
              go_roundw
              case rel => exact ⟨k + 1, by go_num, by omega, Lib.hid ⟨_, (HX.out.1.keep (below_drewN (Below.refl _ _) nq)).more (by omega)⟩⟩
              case measure => simp [intOf]; omega
            | some r =>
              have cf := free_any hP t
              have hfr := free_some s t HLO.out.2.1 HLO.out.2.2.1 r hs
              obtain ⟨fr, hfr2⟩ : ∃ fr, fr = s.free t := ⟨_, rfl⟩
              rw [← hfr2] at cf hfr
              have ct := take_ok hP t hm r hkp hs
              obtain ⟨r1, r2, r3⟩ := seek_in s t (Nat.le_trans HLO.out.2.1 HLO.out.2.2.1) _ _ r HLO.out.2.1 HLO.out.2.2.1 hs
              rw [HX.out.1.low] at r1
              rw [HX.out.1.high] at r2
              have r6 : r < 65536 := by omega
              have hV : s.V r = s.U r ∧ s.U r ≤ t := by
                unfold Po.ok at r3
                simp only [Bool.and_eq_true, Bool.not_eq_true', decide_eq_true_eq] at r3
                refine ⟨?_, r3.2⟩
                unfold Po.V
                rw [if_neg (by rw [r3.1]; decide)]
              obtain ⟨u, hu⟩ : ∃ u, u = s.V r := ⟨_, rfl⟩
              have u0 : 0 ≤ u := by rw [hu, hV.1]; exact HX.out.1.pos r
              have u1 : u ≤ t := by rw [hu, hV.1]; exact hV.2
              have hky := key16 r6
              have af : ∀ w4 : World, Out (fun i => i = b ∨ i = m1 ∨ i = m2) (wr.alloc (.cells #[.int .i64 0, .int .u16 (p : Int), .int .i64 t] 31)) w4 → (Instr.lookup 29 (.map (some mL)) (.int .u16 (r : Int)) false).run Try.prog w4 = .ok (.int .i64 u) w4 := fun w4 ho => by
                rw [hu]; exact lw_look (HX.out.1.law_at HX.out.2.2.2.1 ho) HX.out.2.2.2.2 r6
              have Hs := Lib.hid hs
              clear hs
              have Hm := Lib.hid hm
              clear hm
              have Af := Lib.hid af
              clear af
              have Hky := Lib.hid hky
              clear hky
              have Hfr2 := Lib.hid hfr2
              clear hfr2
              have Hu := Lib.hid hu
              clear hu
              have HV := Lib.hid hV
              clear hV
              have R3 := Lib.hid r3
              clear r3
              clear hP
              go_wp2_with (first
                | (go_at_call 7; with_reducible refine cf.mono ?_; rintro e w3 ⟨rfl, hw⟩; rw [hw]; clear hw)
                | (go_at_call 8; with_reducible refine ct.mono ?_; rintro e w4 ⟨rfl, hP4, ho4⟩; have hlk := Af.out w4 ho4; have hc2 := (GC.out w4 ho4).2.1; have HP4 := Lib.hid hP4; have Ho4 := Lib.hid ho4; clear hP4 ho4)
                | (at_mapUpdate; refine wpList_mapUpdate_is _ rfl _ _ _ _ rfl 22 2 law16 Try.underlying29 mL n _ rfl (HX.out.1.law_at HX.out.2.2.2.1 Ho4.out) HNM.out _ _ _ rfl rfl Hky.out ?_; intro wb hmb htb; have Hmb := Lib.hid (And.intro hmb htb); clear hmb htb))
              go_roundw
              case rel => exact ⟨k + 1, by go_num, by omega, Lib.hid ⟨_, HX.out.1.step k' HX.out.2.1 HP4.out rfl rfl Ho4.out HX.out.2.2.1 HX.out.2.2.2.2 Hmb.out.1 Hmb.out.2 (V_took s r) HX.out.1.pos⟩⟩
              case measure => simp [intOf]; omega
          · have cf := free_any hP t
            have ct := take_arg hP t hm
            have Hm := Lib.hid hm
            clear hm
            clear hP
            obtain ⟨fr, hfr2⟩ : ∃ fr, fr = s.free t := ⟨_, rfl⟩
            rw [← hfr2] at cf
            have Hfr2 := Lib.hid hfr2
            clear hfr2
            go_wp2_with (first
              | (go_at_call 7; with_reducible refine cf.mono ?_; rintro e w3 ⟨rfl, hw⟩; rw [hw]; clear hw)
              | (go_at_call 8; with_reducible refine ct.mono ?_; rintro e w4 ⟨rfl, hw⟩; rw [hw]; clear hw))
            go_roundw
            case rel => exact ⟨k + 1, by go_num, by omega, Lib.hid ⟨_, HX.out.1.more (by omega)⟩⟩
            case measure => simp [intOf]; omega
        · by_cases hd1 : d = 1
          · subst hd1
            by_cases hm : may t
            · cases hLp : s.L p with
              | false =>
                have cg := give_none hP p (by omega) t hm hLp
                have Hm := Lib.hid hm
                clear hm
                have HLp := Lib.hid hLp
                clear hLp
                clear hP
                go_wp2_with (first
                  | (go_at_call 9; with_reducible refine cg.mono ?_; rintro e w3 ⟨rfl, hw⟩; rw [hw]; clear hw))
                go_roundw
                case rel => exact ⟨k + 1, by go_num, by omega, Lib.hid ⟨_, HX.out.1.more (by omega)⟩⟩
                case measure => simp [intOf]; omega
              | true =>
                have cg := give_ok hP hkp p (by omega) t hm hLp
                have hV : s.V p = -1 := by unfold Po.V; rw [if_pos hLp]
                have hky := key16 (n := p) (by omega)
                have af : ∀ w4 : World, Out (fun i => i = b ∨ i = m1 ∨ i = m2) (wr.alloc (.cells #[.int .i64 1, .int .u16 (p : Int), .int .i64 t] 31)) w4 → (Instr.lookup 29 (.map (some mL)) (.int .u16 (p : Int)) false).run Try.prog w4 = .ok (.int .i64 (-1)) w4 := fun w4 ho => by
                  rw [← hV]; exact lw_look (HX.out.1.law_at HX.out.2.2.2.1 ho) HX.out.2.2.2.2 (by omega)
                have Hm := Lib.hid hm
                clear hm
                have Af := Lib.hid af
                clear af
                have Hky := Lib.hid hky
                clear hky
                have HLp := Lib.hid hLp
                clear hLp
                have HV := Lib.hid hV
                clear hV
                clear hP
                go_wp2_with (first
                  | (go_at_call 9; with_reducible refine cg.mono ?_; rintro e w4 ⟨rfl, hP4, ho4⟩; have hlk := Af.out w4 ho4; have hc2 := (GC.out w4 ho4).2.1; have hc1 := (GC.out w4 ho4).1; have HP4 := Lib.hid hP4; have Ho4 := Lib.hid ho4; clear hP4 ho4)
                  | (at_mapUpdate; refine wpList_mapUpdate_is _ rfl _ _ _ _ rfl 22 2 law16 Try.underlying29 mL n _ rfl (HX.out.1.law_at HX.out.2.2.2.1 Ho4.out) HNM.out _ _ _ rfl rfl Hky.out ?_; intro wb hmb htb; have Hmb := Lib.hid (And.intro hmb htb); clear hmb htb))
                go_roundw
                case rel => exact ⟨k + 1, by go_num, by omega, Lib.hid ⟨_, HX.out.1.step k' HX.out.2.1 HP4.out rfl rfl Ho4.out HX.out.2.2.1 HX.out.2.2.2.2 Hmb.out.1 Hmb.out.2 (V_gave s p t) (fun q => by rw [gave_U]; split; exact Hm.out.1; exact HX.out.1.pos q)⟩⟩
                case measure => simp [intOf]; omega
            · have cg := give_arg hP p t hm
              have Hm := Lib.hid hm
              clear hm
              clear hP
              go_wp2_with (first
                | (go_at_call 9; with_reducible refine cg.mono ?_; rintro e w3 ⟨rfl, hw⟩; rw [hw]; clear hw))
              go_roundw
              case rel => exact ⟨k + 1, by go_num, by omega, Lib.hid ⟨_, HX.out.1.more (by omega)⟩⟩
              case measure => simp [intOf]; omega
          · clear hP
            go_wp2
            go_roundw
            case rel => exact ⟨k + 1, by go_num, by omega, Lib.hid ⟨_, HX.out.1.more (by omega)⟩⟩
            case measure => simp [intOf]; omega
      · have hltz : ¬ (k : Int) < (len2 : Int) := by omega
        obtain ⟨s, hO⟩ := HI.out
        clear HI
        obtain ⟨n, M, hn, hM, hL⟩ := hO.law
        obtain ⟨D0, hown, hsz, hmm⟩ := hM
        have K : Keyed Try.prog 22 := law16
        have HX := Lib.hid (And.intro hO (And.intro hn (And.intro hL (And.intro hsz hmm))))
        clear hO hn hL hmm
        go_wp2_with (at_range; refine wpList_range_own _ rfl _ 29 rfl 22 2 K Try.underlying29 _ mL n _ rfl hown ?_; intro x0 hrg0 hg0 hs0)
        have HW : Hid (Below wr.heap.size wr x0) := Lib.hid ⟨hg0.os, hg0.tape, hg0.output, hg0.size, fun i hi => hg0.block i hi (by simp)⟩
        clear hg0 hs0
        obtain ⟨W, hWr⟩ : ∃ W, W = wr := ⟨_, rfl⟩
        rw [← hWr] at HX HW hown hrg0
        rw [← hWr]
        clear hWr
        go_loopw [17] (fun v17 y => ∃ (left : Lit → Bool) (cnt : Nat) (ss : List Int), v17 = .int .i64 ((negs s ss).length : Nat) ∧ y.ranges Try.prog 22 asHeld mL W.heap.size n D0 left cnt ∧ ss.length + cnt ≤ Maps.size D0 ∧ Hid (S16.Got D0 left ss ∧ Below W.heap.size W y))
          (fun _ y => y.rangeLeft mL W.heap.size)
        case atStart => exact ⟨_, _, [], rfl, hrg0, by simp, Lib.hid ⟨S16.Got.start D0, HW.out⟩⟩
        case round =>
          clear HW hrg0
          obtain ⟨left, cnt, ss, rfl, hrg, hcs, HC⟩ := hrel
          have hle := negs_le s ss
          have hnk := HX.out.2.1
          have hszn := HX.out.2.2.2.1
          have hsz2 : (negs s ss).length ≤ 300 := by omega
          have HN := Lib.hid (And.intro hcs hle)
          clear hcs hle hnk hszn hsz
          go_wp2_with (at_next; refine wpList_next_ranges _ rfl _ rfl 22 K asHeld S16.keyV id (fun key kl hk => by obtain ⟨x, hx, _⟩ := Maps.keyOf_int_inv Try.underlying22 hk; exact ⟨x, hx⟩) (fun v _ _ => ⟨v, rfl⟩) mL W.heap.size n _ _ _ rfl hrg ?_ ?_)
          · intro hc0 hl0
            have hK := HC.out.1.keys Try.underlying22 hown HX.out.2.2.2.1 HX.out.2.2.2.2 hl0
            have hOw := HX.out.1.keep HC.out.2
            obtain ⟨k', hk', hP⟩ := hOw.at_
            have cl := lent_any hP (by omega)
            have HOw := Lib.hid hOw
            have HK := Lib.hid hK
            clear hOw hP hK hrg hown
            go_wp2_with (first
              | (go_at_call 10; with_reducible refine cl.mono ?_; rintro e w8 ⟨v, rfl, hl8, hb8⟩; obtain ⟨A, cap, rfl⟩ := negs_len HK.out HX.out.2.2.1 HX.out.1.pos hl8; have HB8 := Lib.hid hb8; have ca := alive11 w8; clear hl8 hb8)
              | (go_at_call 5; with_reducible refine ca.mono ?_; rintro e w9 ⟨rfl, hb9⟩))
            go_ret
            have b8 := HOw.out.below.trans (HB8.out.mono HOw.out.below.size)
            exact ⟨rfl, b8.trans (hb9.mono b8.size)⟩
          · intro x c kl yd yp w3 cnt2 hkey hlk hv hat hrg2 hlt2 hg2 hs2 hen
            obtain ⟨x', ex, rfl, hxw⟩ := Maps.keyOf_int_inv Try.underlying22 hkey
            obtain rfl : x = x' := by simpa using ex
            have hx16 := isKey16.1 hxw
            have hcv : c = .int .i64 (s.V x.toNat) := by
              have e := HX.out.2.2.1 x.toNat (by omega)
              rw [show ((x.toNat : Nat) : Int) = x by omega] at e
              simp only [asHeld, id, Option.some.injEq, Prod.mk.injEq] at hv
              rcases HX.out.2.2.2.2 (.int .u16 x) (K.key hkey) with ⟨_, q2⟩ | ⟨u, q1, _, q3⟩
              · have := has_true_of_atKey hat
                rw [q2] at this; cases this
              · have q4 := (q3 (.held c)).symm.trans (hat (.held c))
                rw [← hv.1] at q4
                injection q4 with q4
                rw [q1, q4] at e
                exact e
            subst hcv
            have hC2 := HC.out.1.step hlk hat
            have hB2 : Below W.heap.size W w3 := HC.out.2.trans ⟨hg2.os, hg2.tape, hg2.output, hg2.size, fun i hi => hg2.block i (Nat.lt_of_lt_of_le hi HC.out.2.size) (by intro e; injection e with e; omega)⟩
            have hsn := negs_snoc s ss x
            obtain ⟨u, hu⟩ : ∃ u, u = s.V x.toNat := ⟨_, rfl⟩
            rw [← hu] at hsn hen
            have HS := Lib.hid hsn
            have HC2 := Lib.hid (And.intro hC2 hB2)
            have hen2 : (Instr.entry (.pointer (some ⟨W.heap.size, 0, none⟩))).run Try.prog w3 = .ok (.tuple #[.int .u16 x, .int .i64 u]) w3 := hen
            have hm1 : w3.rangeLeft mL W.heap.size < wr.rangeLeft mL W.heap.size := by rw [hrg2.left_eq, hrg.left_eq]; exact hlt2
            clear hkey hv hat hg2 hs2 hen hC2 hB2 hsn hown ex hlk
            have HR := Lib.hid hrg2
            have Hxw := Lib.hid hxw
            clear hxw
            have Hu := Lib.hid hu
            clear hu
            have Hm1 := Lib.hid hm1
            clear hm1
            clear hrg hrg2
            by_cases hu0 : u < 0
            · go_wp2
              go_roundw
              case rel => exact ⟨_, cnt2, ss ++ [x], by rw [HS.out, if_pos hu0]; go_num, HR.out, by have := HN.out; simp; omega, HC2⟩
              case measure => exact Hm1.out
            · go_wp2
              go_roundw
              case rel => exact ⟨_, cnt2, ss ++ [x], by rw [HS.out, if_neg hu0]; rfl, HR.out, by have := HN.out; simp; omega, HC2⟩
              case measure => exact Hm1.out
theorem own : ownKnob Try.prog.godebug = none := by kernel_rfl
theorem laidOut : laidOutB Try.prog = true := by kernel_rfl
set_option maxRecDepth 100000 in
theorem lifted (os : Os) (started : os.Started) (H : Type) (enc : TypeId × Value → H) :
    ReturnsInHanded {} Try.checked os 3 .any (Rows.portsOnceSpec.pre6 enc Try.prog Try.f3 Rows.portsOnceRow.domain false) (Rows.portsOnceSpec.post enc Try.prog Try.f3 false true false false) := by
  refine returnsInHanded_of_change (C := Try.checked) own started (by kernel_rfl) Try.func3
    (ChangeSpec.witness6 (enc := enc) (C := Try.checked) false ⟨#[], #[.int .u16 0, .int .u8 0, .slice none 0 0], []⟩ 8 (by kernel_rfl) (by kernel_rfl) (by kernel_rfl) (by kernel_rfl)) ?_
  intro W base args ds gs before hval0 hW hcnd _
  have hval : ∀ (j : Nat) t v, Try.f3.params[j]? = some t → args[j]? = some v → Value.okWide Try.prog W .any base t v := hval0
  have hW' := hW
  obtain ⟨p, q, hA0, hV, rfl, hfz, hnd⟩ := hW
  have hA : DataW.TrodAll enc Try.prog W 0 (fun _ => true) true Try.f3.params.toList args.toList ds p := hA0
  rw [Try.params3] at hA hval
  obtain ⟨v0, vs0, d0, ds0, p0, q0, hargs, rfl, rfl, h0, r0⟩ := trodAll_cons hA
  obtain ⟨v1, vs1, d1, ds1, p1, q1, rfl, rfl, rfl, h1, r1⟩ := trodAll_cons r0
  obtain ⟨v2, vs2, d2, ds2, p2, q2, rfl, rfl, rfl, h2, r2⟩ := trodAll_cons r1
  obtain ⟨rfl, rfl, rfl⟩ := trodAll_nil r2
  obtain rfl : args = #[v0, v1, v2] := by cases args; simp_all
  obtain ⟨rfl, rfl⟩ := trodVars_none hV
  obtain ⟨a0, rfl, rfl, rfl, w0⟩ := open_int Try.underlying22 (hval 0 22 v0 rfl rfl) h0
  obtain ⟨a1, rfl, rfl, rfl, w1⟩ := open_int Try.underlying5 (hval 1 5 v1 rfl rfl) h1
  obtain ⟨a2, len2, cap2, rfl⟩ := okWide_slice Try.underlying23 (hval 2 23 v2 rfl rfl)
  have k2 := h2
  have lt2 : ∀ x ∈ p2, x.block < W.heap.size := by obtain ⟨m, hm⟩ := k2; exact DataW.trod_lt m _ _ _ hm
  have w2 : StrRows W [.inl .i64, .inl .u16, .inl .i64] a2 len2 := str_rows Try.underlying23 Try.underlying31 (by kernel_rfl) (by kernel_rfl) (by kernel_rfl) (by decide) h2
  clear hA0 hval0
  refine (walk a0 a1 a2 len2 cap2 W w0 w1 w2).mono fun e W' ⟨he, bel⟩ => ?_
  subst he
  exact ⟨_, rfl, _, _, _, [], _, [], hW', trodAll_mk1 (shut_bool Try.underlying4 _), (trodAll_cons_mk (shut_int Try.underlying22 w0) (trodAll_cons_mk (shut_int Try.underlying5 w1) (trodAll_cons_mk (Below.trod laidOut (by kernel_rfl) (of_decide_eq_true (by kernel_rfl)) k2 bel lt2) trodAll_mk0))), rfl, bel.frame _, fun h => by cases h⟩

theorem over : Rows.portsOnceRow.holds Try.pinned (OpenSpec.ofChange Rows.portsOnceSpec) :=
  OpenClaim.holds_of_wide 3 Try.f3 rfl rfl rfl rfl rfl rfl rfl ⟨rfl, rfl, rfl, rfl, rfl⟩ rfl rfl rfl rfl rfl (by kernel_rfl) Try.func3 (by kernel_rfl)
    (of_decide_eq_true (by kernel_rfl)) (by unfold Func.isWrapper; first | (rw [if_pos (by decide +kernel)]; kernel_rfl) | (rw [if_neg (by decide +kernel)]; exact ⟨rfl, rfl⟩))
    (fun os started H enc _ => lifted os started H enc)

/-- THE STATEMENT -/
theorem proved : Rows.PortsOnceSaid := over
#print axioms proved
end Go.Proofs.Ytjeckahbkepnpaa.portsOnce
