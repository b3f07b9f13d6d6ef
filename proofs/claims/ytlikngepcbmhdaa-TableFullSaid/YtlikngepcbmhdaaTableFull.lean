/- The statement TableFull: a table takes as many entries as it may have, and no more, and one more for each that went; for every number of entries, and of those that go. -/
import Derived.Test.YtlikngepcbmhdaaTabW
import Derived.Lib.MinMax
set_option linter.unusedVariables false
set_option linter.unusedSimpArgs false
namespace Go.Proofs.Ytlikngepcbmhdaa.tableFull
open Go.ChangeShapes Go.WideShapes Go.ChangeAt Go.RowKit Go.Maps
open Go.ChangeMaps (open_string shut_string)

def pj (j : Nat) : Pr := ⟨1, (j : Int), 2, 1⟩
theorem pj_wf {j : Nat} (h : j < 65536) : (pj j).wf := by
  refine ⟨by show (Lit.int .u32 1).wf = true; decide, ?_, by show (Lit.int .u32 2).wf = true; decide, by show (Lit.int .u16 1).wf = true; decide⟩
  simp [pj, Lit.wf, IntKind.min, IntKind.max, IntKind.signed, IntKind.bits]; omega
theorem pj_ne {i j : Nat} (h : i ≠ j) : pj i ≠ pj j := by
  intro e
  simp [pj] at e
  omega
structure Inv (n cnt last : Nat) (free has : Nat → Prop) (s : Tab) : Prop where
  most : s.most = n
  cnt : s.n = cnt
  last : s.last = last
  free_ : ∀ j, free j → s.by_ (pj j) = 0
  has_ : ∀ j, has j → ∃ e, s.E (j + 1) = some e ∧ e.near = pj j ∧ e.bound = false
theorem Inv.mono {n cnt last cnt' last' : Nat} {free has free' has' : Nat → Prop} {s : Tab} (h : Inv n cnt last free has s) (hc : cnt = cnt') (hl : last = last') (hf : ∀ j, free' j → free j) (hh : ∀ j, has' j → has j) : Inv n cnt' last' free' has' s :=
  ⟨h.most, h.cnt.trans hc, h.last.trans hl, fun j hj => h.free_ j (hf j hj), fun j hj => h.has_ j (hh j hj)⟩
theorem Inv.new (n ba bb : Nat) : Inv n 0 0 (fun _ => True) (fun _ => False) (newT n ba bb) := ⟨rfl, rfl, rfl, fun _ _ => rfl, fun _ h => h.elim⟩
theorem Inv.put {T : TT} {W : World} {t n cnt last : Nat} {free has : Nat → Prop} {s : Tab} (h : Inv n cnt last free has s) (ht : TabAt T W t s) (i g : Nat) (v : Value) :
    Inv n (cnt + 1) (last + 1) (fun j => free j ∧ j ≠ i) (fun j => has j ∨ (j = last ∧ j = i)) (putT s g v (pj i)) := by
  refine ⟨h.most, by simp [putT, h.cnt], by simp [putT, h.last], fun j ⟨hj, hne⟩ => ?_, fun j hj => ?_⟩
  · simp only [putT]
    rw [if_neg (pj_ne hne)]
    exact h.free_ j hj
  · simp only [putT]
    rcases hj with hj | ⟨h1, h2⟩
    · obtain ⟨e, he, h1⟩ := h.has_ j hj
      have := (ht.ents _ e he).2.1
      rw [if_neg (by omega)]
      exact ⟨e, he, h1⟩
    · rw [h.last, if_pos (by omega)]
      exact ⟨_, rfl, by rw [h2], rfl⟩
theorem Inv.drop {n cnt last i : Nat} {free has : Nat → Prop} {s : Tab} (h : Inv n cnt last free has s) (hi : has i) : Inv n (cnt - 1) last (fun j => free j ∨ j = i) (fun j => has j ∧ j ≠ i) (dropAll s [i + 1]) ∧ dropN s [i + 1] = 1 := by
  obtain ⟨e, he, hn, hb⟩ := h.has_ i hi
  have hd : dropAll s [i + 1] = { s with n := s.n - 1, m := if e.bound then s.m - 1 - 1 else s.m - 1, E := fun j => if j = i + 1 then none else s.E j, by_ := fun x => if x = e.near then 0 else if e.bound = true ∧ x = e.far then 0 else s.by_ x } := by
    show dropT s (i + 1) = _
    unfold dropT
    rw [he]
  refine ⟨?_, by simp [dropN, hasN, he]⟩
  rw [hd]
  refine ⟨h.most, by simp [h.cnt], h.last, fun j hj => ?_, fun j ⟨hj, hne⟩ => ?_⟩
  · simp only [hn, hb]
    by_cases e1 : j = i
    · rw [e1, if_pos rfl]
    · rw [if_neg (pj_ne e1), if_neg (by simp)]
      rcases hj with hj | hj
      · exact h.free_ j hj
      · exact absurd hj e1
  · simp only
    rw [if_neg (by omega)]
    exact h.has_ j hj
def L1 (w : World) (t n k : Nat) (wr : World) : Prop := ∃ s, k ≤ n ∧ Has TI w wr t s ∧ Inv n k k (fun j => k ≤ j) (fun j => j < k) s
def L2 (w : World) (t n k : Nat) (wr : World) : Prop := ∃ s, Has TI w wr t s ∧ Inv n (n - k) n (fun j => j < k ∨ n ≤ j) (fun j => k ≤ j ∧ j < n) s
def L3 (w : World) (t n m k : Nat) (wr : World) : Prop := ∃ s, Has TI w wr t s ∧ Inv n (n - m + k) (n + k) (fun j => (k ≤ j ∧ j < m) ∨ n ≤ j) (fun _ => False) s
set_option maxRecDepth 100000 in
set_option maxHeartbeats 4000000 in
theorem walk (a0 a1 : Int) (w : World) (w0 : (Lit.int .u8 a0).wf = true) (w1 : (Lit.int .u8 a1).wf = true) : Calls Try.prog 3 #[.int .u8 a0, .int .u8 a1] w fun e w' => e = .returned (.bool true) ∧ Below w.heap.size w w' := by
  obtain ⟨h0, h1⟩ := bounds_u8 w0
  obtain ⟨h2, h3⟩ := bounds_u8 w1
  clear w0 w1
  obtain ⟨n, hn⟩ : ∃ n : Nat, a0 % 60 = (n : Int) := ⟨(a0 % 60).toNat, by omega⟩
  obtain ⟨m, hm⟩ : ∃ m : Nat, min (a1 % 60) (n : Int) = (m : Int) := ⟨(min (a1 % 60) (n : Int)).toNat, by omega⟩
  have i1 : (n : Int) ≤ 59 := by omega
  have i2 : (m : Int) ≤ (n : Int) := by omega
  have i3 : (0 : Int) ≤ (n : Int) := by omega
  have i4 : (0 : Int) ≤ (m : Int) := by omega
  go_enter Try.func3, Try.ntmps3
  go_wp2_with fail
  with_reducible refine (hnew_i w n (n : Int) rfl (by omega)).mono ?_
  rintro e w1 ⟨t, ba, bb, rfl, h4⟩
  have hrel0 : L1 w t n 0 w1 := ⟨_, Nat.zero_le _, h4, (Inv.new n ba bb).mono rfl rfl (fun _ _ => trivial) (fun j hj => absurd hj (by omega))⟩
  have Hrel0 := Lib.hid hrel0
  clear hrel0 h4
  go_wp2
  go_loopw [8] (fun i wr => ∃ k : Nat, i = .int .i64 (k : Int) ∧ L1 w t n k wr) (fun i _ => n - (intOf i).toNat)
  case atStart => exact ⟨0, rfl, Hrel0.out⟩
  case round =>
    clear Hrel0
    obtain ⟨k, rfl, s, hkn, hs, hinv⟩ := hrel
    by_cases hk : k < n
    · have i5 : (k : Int) < (n : Int) := by omega
      have i6 : (0 : Int) ≤ (k : Int) := by omega
      have H := Lib.hid hs
      have Hinv := Lib.hid hinv
      clear hs hinv hkn
      go_wp2_with fail
      with_reducible refine (hpair _ _ H.out).mono ?_
      rintro e w' ⟨rfl, h'⟩
      have H := Lib.hid h'
      clear h'
      go_wp2_with fail
      have c1 : Calls Try.prog 8 #[.pointer (some ⟨t, 0, none⟩), .agg #[.int .u32 1, .int .u16 (k : Int), .int .u32 2, .int .u16 1], .int .i64 (k : Int)] _ _ := hput_i (pj k) (k : Int) ((k : Int) + 1) H.out (pj_wf (by omega)) (Hinv.out.free_ k (Nat.le_refl _)) (by rw [Hinv.out.cnt, Hinv.out.most]; exact hk) (by rw [Hinv.out.last]; omega) (by rw [Hinv.out.last])
      with_reducible refine c1.mono ?_
      clear c1
      rintro e w2 ⟨g, rfl, h'⟩
      have hrel : L1 w t n (k + 1) w2 := ⟨_, hk, h', (Hinv.out.put H.out.tab k g (.int .i64 (k : Int))).mono rfl rfl (fun j hj => ⟨by omega, by omega⟩) (fun j hj => by by_cases e : j = k; exact .inr ⟨e, e⟩; exact .inl (by omega))⟩
      have Hrel := Lib.hid hrel
      clear h' hrel H Hinv hk
      go_wp2
      go_roundw
      case rel => exact ⟨k + 1, by go_num, Hrel.out⟩
      case measure => simp [intOf]; omega
    · obtain rfl : k = n := by omega
      have H := Lib.hid hs
      have Hinv := Lib.hid hinv
      clear hs hinv hkn hk
      go_wp2_with fail
      with_reducible refine (hpair _ _ H.out).mono ?_
      rintro e w' ⟨rfl, h'⟩
      have H := Lib.hid h'
      clear h'
      go_wp2_with fail
      have c1 : Calls Try.prog 8 #[.pointer (some ⟨t, 0, none⟩), .agg #[.int .u32 1, .int .u16 1000, .int .u32 2, .int .u16 1], .int .i64 7] _ _ := hfull_i (pj 1000) 7 H.out (pj_wf (by omega)) (Hinv.out.free_ 1000 (by omega)) (by rw [Hinv.out.cnt, Hinv.out.most]; exact Nat.le_refl _)
      with_reducible refine c1.mono ?_
      clear c1
      rintro e w2 ⟨rfl, h'⟩
      have hrel0 : L2 w t k 0 w2 := ⟨_, h', Hinv.out.mono (by omega) rfl (fun j hj => by omega) (fun j hj => hj.2)⟩
      have Hrel0 := Lib.hid hrel0
      clear hrel0 h' H Hinv
      go_wp2
      go_loopw [14] (fun i wr => ∃ j : Nat, i = .int .i64 (j : Int) ∧ j ≤ m ∧ L2 w t k j wr) (fun i _ => m - (intOf i).toNat)
      case atStart => exact ⟨0, rfl, Nat.zero_le _, Hrel0.out⟩
      case round =>
        clear Hrel0
        obtain ⟨j, rfl, hjm, s2, hs2, hinv2⟩ := hrel
        by_cases hj : j < m
        · have i5 : (j : Int) < (m : Int) := by omega
          have i6 : (0 : Int) ≤ (j : Int) := by omega
          have hd := hinv2.drop (i := j) ⟨Nat.le_refl _, by omega⟩
          have H := Lib.hid hs2
          have Hd := Lib.hid hd
          clear hs2 hinv2 hjm hd
          go_wp2_with fail
          have c1 : Calls Try.prog 10 #[.pointer (some ⟨t, 0, none⟩), .slice (some ⟨wr.heap.size, 0, none⟩) 1 1] (wr.alloc (.cells #[.int .u64 ((j : Int) + 1)] 26)) _ := hdrop_i wr.heap.size [j + 1] 1 1 #[.int .u64 ((j : Int) + 1)] (H.out.alloc _) (by simp; omega) rfl (Blk.new _ _ _) (by simp) 1 rfl (by rw [Hd.out.2]; rfl)
          with_reducible refine c1.mono ?_
          clear c1
          rintro e w2 ⟨rfl, h'⟩
          have hrel : L2 w t k (j + 1) w2 := ⟨_, h', Hd.out.1.mono (by omega) rfl (fun i hi => by omega) (fun i hi => ⟨⟨by omega, hi.2⟩, by omega⟩)⟩
          have Hrel := Lib.hid hrel
          clear h' hrel H Hd
          go_wp2
          go_roundw
          case rel => exact ⟨j + 1, by go_num, by omega, Hrel.out⟩
          case measure => simp [intOf]; omega
        · obtain rfl : j = m := by omega
          have hrel0 : L3 w t k j 0 wr := ⟨_, hs2, hinv2.mono (by omega) (by omega) (fun i hi => by omega) (fun i hi => hi.elim)⟩
          have Hrel0 := Lib.hid hrel0
          clear hs2 hinv2 hjm hj hrel0
          go_wp2
          go_loopw [15] (fun i wr => ∃ q : Nat, i = .int .i64 (q : Int) ∧ q ≤ j ∧ L3 w t k j q wr) (fun i _ => j - (intOf i).toNat)
          case atStart => exact ⟨0, rfl, Nat.zero_le _, Hrel0.out⟩
          case round =>
            clear Hrel0
            obtain ⟨q, rfl, hqj, s3, hs3, hinv3⟩ := hrel
            by_cases hq : q < j
            · have i5 : (q : Int) < (j : Int) := by omega
              have i6 : (0 : Int) ≤ (q : Int) := by omega
              have H := Lib.hid hs3
              have Hinv := Lib.hid hinv3
              clear hs3 hinv3 hqj
              go_wp2_with fail
              with_reducible refine (hpair _ _ H.out).mono ?_
              rintro e w' ⟨rfl, h'⟩
              have H := Lib.hid h'
              clear h'
              go_wp2_with fail
              have c1 : Calls Try.prog 8 #[.pointer (some ⟨t, 0, none⟩), .agg #[.int .u32 1, .int .u16 (q : Int), .int .u32 2, .int .u16 1], .int .i64 (q : Int)] _ _ := hput_i (pj q) (q : Int) ((k : Int) + (q : Int) + 1) H.out (pj_wf (by omega)) (Hinv.out.free_ q (.inl ⟨Nat.le_refl _, hq⟩)) (by rw [Hinv.out.cnt, Hinv.out.most]; omega) (by rw [Hinv.out.last]; omega) (by rw [Hinv.out.last]; omega)
              with_reducible refine c1.mono ?_
              clear c1
              rintro e w2 ⟨g, rfl, h'⟩
              have hrel : L3 w t k j (q + 1) w2 := ⟨_, h', (Hinv.out.put H.out.tab q g (.int .i64 (q : Int))).mono (by omega) (by omega) (fun i hi => ⟨by omega, by omega⟩) (fun i hi => hi.elim)⟩
              have Hrel := Lib.hid hrel
              clear h' hrel H Hinv hq
              go_wp2
              go_roundw
              case rel => exact ⟨q + 1, by go_num, by omega, Hrel.out⟩
              case measure => simp [intOf]; omega
            · obtain rfl : q = j := by omega
              have H := Lib.hid hs3
              have Hinv := Lib.hid hinv3
              clear hs3 hinv3 hqj hq
              go_wp2_with fail
              with_reducible refine (hpair _ _ H.out).mono ?_
              rintro e w' ⟨rfl, h'⟩
              have H := Lib.hid h'
              clear h'
              go_wp2_with fail
              have c1 : Calls Try.prog 8 #[.pointer (some ⟨t, 0, none⟩), .agg #[.int .u32 1, .int .u16 1001, .int .u32 2, .int .u16 1], .int .i64 7] _ _ := hfull_i (pj 1001) 7 H.out (pj_wf (by omega)) (Hinv.out.free_ 1001 (by omega)) (by rw [Hinv.out.cnt, Hinv.out.most]; omega)
              with_reducible refine c1.mono ?_
              clear c1
              rintro e w2 ⟨rfl, h'⟩
              have hlen := len_i w2 t s3 h'.tab
              have hcnt : (s3.n : Int) = (k : Int) := by rw [Hinv.out.cnt]; omega
              rw [hcnt] at hlen
              have hb := h'.below
              have Hlen := Lib.hid hlen
              have HB := Lib.hid hb
              clear h' hlen hcnt hb H Hinv
              go_wp2_with fail
              with_reducible refine Hlen.out.mono ?_
              rintro e w3 ⟨rfl, rfl⟩
              go_wp2_with fail
              with_reducible refine (works12 _).mono ?_
              rintro e w4 ⟨rfl, hb4⟩
              have hb5 := HB.out.trans (hb4.mono HB.out.size)
              have HB5 := Lib.hid hb5
              clear hb4 hb5
              go_wp2
              go_ret
              exact ⟨rfl, HB5.out⟩
theorem own : ownKnob Try.prog.godebug = none := by kernel_rfl
theorem laidOut : laidOutB Try.prog = true := by kernel_rfl
set_option maxRecDepth 100000 in
theorem lifted (os : Os) (started : os.Started) (H : Type) (enc : TypeId × Value → H) :
    ReturnsInHanded {} Try.checked os 3 .any (Rows.tableFullSpec.pre6 enc Try.prog Try.f3 Rows.tableFullRow.domain false) (Rows.tableFullSpec.post enc Try.prog Try.f3 false true false false) := by
  refine returnsInHanded_of_change (C := Try.checked) own started (by kernel_rfl) Try.func3
    (ChangeSpec.witness6 (enc := enc) (C := Try.checked) false ⟨#[], #[.int .u8 0, .int .u8 0], []⟩ 8 (by kernel_rfl) (by kernel_rfl) (by kernel_rfl) (by kernel_rfl)) ?_
  intro W base args ds gs before hval0 hW hcnd _
  have hval : ∀ (j : Nat) t v, Try.f3.params[j]? = some t → args[j]? = some v → Value.okWide Try.prog W .any base t v := hval0
  have hW' := hW
  obtain ⟨p, q, hA0, hV, rfl, hfz, hnd⟩ := hW
  have hA : DataW.TrodAll enc Try.prog W 0 (fun _ => true) true Try.f3.params.toList args.toList ds p := hA0
  rw [Try.params3] at hA hval
  obtain ⟨v0, vs0, d0, ds0, p0, q0, hargs, rfl, rfl, h0, r0⟩ := trodAll_cons hA
  obtain ⟨v1, vs1, d1, ds1, p1, q1, rfl, rfl, rfl, h1, r1⟩ := trodAll_cons r0
  obtain ⟨rfl, rfl, rfl⟩ := trodAll_nil r1
  obtain rfl : args = #[v0, v1] := by cases args; simp_all
  obtain ⟨rfl, rfl⟩ := trodVars_none hV
  obtain ⟨a0, rfl, rfl, rfl, w0⟩ := open_int Try.underlying5 (hval 0 5 v0 rfl rfl) h0
  obtain ⟨a1, rfl, rfl, rfl, w1⟩ := open_int Try.underlying5 (hval 1 5 v1 rfl rfl) h1
  clear hA0 hval0
  refine (walk a0 a1 W w0 w1).mono fun e W' ⟨he, bel⟩ => ?_
  subst he
  exact ⟨_, rfl, _, _, _, [], _, [], hW', trodAll_mk1 (shut_bool Try.underlying4 _), (trodAll_cons_mk (shut_int Try.underlying5 w0) (trodAll_cons_mk (shut_int Try.underlying5 w1) trodAll_mk0)), rfl, bel.frame _, fun h => by cases h⟩

theorem over : Rows.tableFullRow.holds Try.pinned (OpenSpec.ofChange Rows.tableFullSpec) :=
  OpenClaim.holds_of_wide 3 Try.f3 rfl rfl rfl rfl rfl rfl rfl ⟨rfl, rfl, rfl, rfl, rfl⟩ rfl rfl rfl rfl rfl (by kernel_rfl) Try.func3 (by kernel_rfl)
    (of_decide_eq_true (by kernel_rfl)) (by unfold Func.isWrapper; first | (rw [if_pos (by decide +kernel)]; kernel_rfl) | (rw [if_neg (by decide +kernel)]; exact ⟨rfl, rfl⟩))
    (fun os started H enc _ => lifted os started H enc)

/-- THE STATEMENT -/
theorem proved : Rows.TableFullSaid := over
#print axioms proved
end Go.Proofs.Ytlikngepcbmhdaa.tableFull
