/- Layer 16 (reasm): Put. -/
import Derived.Test.YtbiaphichaomaaaReasmT
import Derived.Laws.Bits64
set_option linter.unusedVariables false
set_option linter.unusedSimpArgs false
namespace Go.Proofs.Ytbiaphichaomaaa
open Go.RowKit Go.BigFrame Go.Maps Go.ChangeShapes Go.WideShapes Go.ChangeAt

theorem eq_mapR (a : Nat) (w : World) : (binOp .eql 46 (.map (some a)) (.map none)).run Try.prog w = .ok (.bool false) w := by kernel_rfl
theorem wrapN {n : Nat} (h : n < 18446744073709551616) : IntKind.u64.wrap (n : Int) = (n : Int) := by rw [IntKind.wrap_u64]; omega
theorem wrap_add {a b : Nat} (h : a + b < 18446744073709551616) : IntKind.u64.wrap ((a : Int) + (b : Int)) = (a : Int) + (b : Int) := by rw [IntKind.wrap_u64]; omega
theorem wrap_sub {a b : Nat} (h : b ≤ a) (ha : a < 18446744073709551616) : IntKind.u64.wrap ((a : Int) - (b : Int)) = ((a - b : Nat) : Int) := by rw [IntKind.wrap_u64]; omega
theorem index_list (x : ByteArray) (j : Nat) (h : j < x.size) (W : World) : (Instr.index 9 (.string x) (.int .u64 (j : Int))).run Try.prog W = .ok (byteV (x.data.toList.getD j 0)) W := by
  rw [run_index_string W 9 x .u64 _ Try.underlying9, dif_pos ⟨by omega, by omega⟩]
  have hl : j < x.data.toList.length := by simpa using h
  unfold byteV
  rw [List.getD_eq_getElem?_getD, List.getElem?_eq_getElem hl, Option.getD_some]
  rfl
theorem lay_some {far : Nat → Option UInt8} {at_ F y : Nat} {t : List UInt8} {b : UInt8} (h : far y = some b) : layF far at_ t F (y + 1) = layF far at_ t F y := by
  funext i
  unfold layF
  by_cases h1 : i = y
  · subst h1
    rw [if_neg (show ¬ (F ≤ i ∧ i < i) by omega), h]
    split <;> rfl
  · by_cases h2 : F ≤ i ∧ i < y
    · rw [if_pos h2, if_pos (by omega)]
    · rw [if_neg h2, if_neg (by omega)]
theorem lay_none {far : Nat → Option UInt8} {at_ F y : Nat} {t : List UInt8} (hF : F ≤ y) (h : far y = none) : layF far at_ t F (y + 1) = fun i => if i = y then some (t.getD (y - at_) 0) else layF far at_ t F y i := by
  funext i
  unfold layF
  by_cases h1 : i = y
  · subst h1
    rw [if_pos rfl, if_pos (by omega), h]
    rfl
  · rw [if_neg h1]
    by_cases h2 : F ≤ i ∧ i < y
    · rw [if_pos h2, if_pos (by omega)]
    · rw [if_neg h2, if_neg (by omega)]
theorem lay_at {far : Nat → Option UInt8} {at_ F y : Nat} {t : List UInt8} : layF far at_ t F y y = far y := by unfold layF; rw [if_neg (by omega)]
theorem lay_start {far : Nat → Option UInt8} {at_ F : Nat} {t : List UInt8} : layF far at_ t F F = far := by funext i; unfold layF; rw [if_neg (by omega)]
theorem newN_next {far : Nat → Option UInt8} {F y : Nat} (hF : F ≤ y) : newN far F (y + 1 - F) = newN far F (y - F) + if (far y).isSome then 0 else 1 := by
  rw [show y + 1 - F = (y - F) + 1 by omega]
  show newN far F (y - F) + (if (far (F + (y - F))).isSome then 0 else 1) = _
  rw [show F + (y - F) = y by omega]
/-- the state ahead of number y -/
def layS (s : Rs) (at_ : Nat) (t : List UInt8) (F y : Nat) : Rs := { s with far := layF s.far at_ t F y, got := s.got + newN s.far F (y - F) }
theorem layS_start (s : Rs) (at_ : Nat) (t : List UInt8) (F : Nat) : layS s at_ t F F = s := by
  unfold layS
  rw [lay_start, Nat.sub_self]
  rfl
theorem layS_some {s : Rs} {at_ F y : Nat} {t : List UInt8} {b : UInt8} (hF : F ≤ y) (h : s.far y = some b) : layS s at_ t F (y + 1) = layS s at_ t F y := by
  unfold layS
  rw [lay_some h, newN_next hF, h]
  rfl
/-- one byte laid -/
theorem lay_step {w wr W : World} {b bm : Nat} {rv pv : Value} {s : Rs} {at_ F y : Nat} {t : List UInt8} (hF : F ≤ y) (hn : s.far y = none) (h : RsAt wr b bm rv pv (layS s at_ t F y)) (ho : Out (OwnR b bm rv) w wr) {n : Nat} (hn2 : n ≤ (layS s at_ t F y).got)
    (hm : MapIs Try.prog 28 W bm (n + 1) (updM (farM (layS s at_ t F y).far) (.int .u64 (y : Int)) (some (byteV (t.getD (y - at_) 0))))) (hg : wr.grownBy W (some bm)) : RsAt W b bm rv pv (layS s at_ t F (y + 1)) ∧ Out (OwnR b bm rv) w W := by
  have hbm := h.map_ne
  refine ⟨⟨h.blk.grown hg (fun e => hbm (Option.some.inj e)), h.row.kept hg (.inr h.row_map), ⟨n + 1, ?_, ?_⟩, h.parts.keep (fun g cs hgc => hg.block g hgc.lt (fun e => h.no_part hgc (.inr (.inl (Option.some.inj e)))))⟩, Out.trans ho (Out.grown (O := fun i => i = bm) hg rfl) (fun _ _ e => .inr (.inl e))⟩
  · have e : updM (farM (layS s at_ t F y).far) (.int .u64 (y : Int)) (some (byteV (t.getD (y - at_) 0))) = farM (layS s at_ t F (y + 1)).far := by
      show _ = farM (layF s.far at_ t F (y + 1))
      rw [lay_none hF hn]
      exact farM_upd _ y (some (t.getD (y - at_) 0))
    rw [← e]
    exact hm
  · show n + 1 ≤ s.got + newN s.far F (y + 1 - F)
    rw [newN_next hF, hn]
    have : n ≤ s.got + newN s.far F (y - F) := hn2
    simp only [Option.isSome_none]
    rw [if_neg (by decide)]
    omega
theorem RsAt.setParts {w : World} {b bm : Nat} {rv pv pv' : Value} {s : Rs} {l : List Sp} (h : RsAt w b bm rv pv s) (hP : PartsIs w pv' l) : RsAt (w.setCell ⟨b, 4, none⟩ pv') b bm rv pv' { s with parts := l } := by
  have hne := h.row_ne
  have hbm := h.map_ne
  refine ⟨by simpa using Blk.set_ h.blk 4 pv', own_row_eq h.row (fun i hi => Below.heap_setCell w ⟨b, 4, none⟩ _ i (fun e => hne (by rw [← (show i = b from e)]; exact hi))), ?_, hP.keep (fun g cs hg => Below.heap_setCell w ⟨b, 4, none⟩ _ g (fun e => Blk.ne_ hg h.blk (by decide) e))⟩
  obtain ⟨nm, q2, q3⟩ := h.far
  exact ⟨nm, q2.setCell (fun e => hbm e.symm) _, q3⟩
theorem moves_r (b bm : Nat) (rv pv : Value) (s : Rs) (w : World) (h : RsAt w b bm rv pv s) (hL : LaidOk s) (hgot : s.got ≤ 1000000000000) :
    Calls Try.prog 15 #[.pointer (some ⟨b, 0, none⟩)] w (MovesPost b bm rv pv s w) := by
  cases hp : s.parts with
  | nil => exact absurd hp hL.some_
  | cons p l =>
    have hpm : p ∈ s.parts := by rw [hp]; exact List.mem_cons_self
    have hlt := hL.norm.lt p hpm
    by_cases he : p.1 = s.next
    · refine moves_yes b bm rv pv s p l w h hp he hlt (by have := hL.ends p hpm; omega) (fun i h1 h2 => (hL.there i).2 ⟨p, hpm, by omega, h2⟩) ?_ hgot
      have := hL.below p hpm
      have := hL.most_le
      have := hL.len
      omega
    · exact moves_no b bm rv pv s p l w h hp he
set_option maxHeartbeats 4000000 in
theorem put_bad (b bm : Nat) (rv pv : Value) (s : Rs) (w : World) (at_ : Nat) (x : ByteArray) (h : RsAt w b bm rv pv s) (hx : x.size ≤ maxLen) (hb : 4611686018427387904 < at_ ∨ 65536 < x.data.toList.length) :
    Calls Try.prog 7 #[.pointer (some ⟨b, 0, none⟩), .int .u64 (at_ : Int), .string x] w (RGo b bm rv (putR s at_ x.data.toList).1 (.tuple #[.int .i64 ((putR s at_ x.data.toList).2.1 : Int), .int .i64 ((putR s at_ x.data.toList).2.2 : Int)]) w) := by
  have hpost : RGo b bm rv (putR s at_ x.data.toList).1 (.tuple #[.int .i64 ((putR s at_ x.data.toList).2.1 : Int), .int .i64 ((putR s at_ x.data.toList).2.2 : Int)]) w (.returned (.tuple #[.int .i64 0, .int .i64 2])) w := by rw [putR_bad hb]; exact ⟨rv, pv, rfl, h, Out.refl _ _, Later.refl _ _⟩
  have hsz : x.data.toList.length = x.size := by simp
  rw [hsz] at hb
  have c3 := h.blk.cell 3
  have hbl := h.blk.lt
  simp at c3
  have em := eq_mapR bm
  unfold maxLen at hx
  have H := Lib.hid h
  clear h
  have Hpost := Lib.hid hpost
  clear hpost
  have Hsz := Lib.hid hsz
  clear hsz
  by_cases h1 : 4611686018427387904 < at_
  · have i1 : (4611686018427387904 : Int) < (at_ : Int) := by omega
    clear hb
    go_enter Try.func7, Try.ntmps7
    go_wp2
    go_step3
    go_wp2
    go_ret2
    exact Hpost.out
  · have i1 : ¬ (4611686018427387904 : Int) < (at_ : Int) := by omega
    have i2 : (65536 : Int) < (x.size : Int) := by omega
    clear hb
    go_enter Try.func7, Try.ntmps7
    go_wp2
    go_step3
    go_wp2
    go_ret2
    exact Hpost.out
def PutPre (s : Rs) (w : World) (b bm : Nat) (rv pv : Value) : Prop := RsAt w b bm rv pv s ∧ RsOk s ∧ s.got ≤ 100000000000
set_option maxHeartbeats 4000000 in
theorem put_go (b bm : Nat) (rv pv : Value) (s : Rs) (w : World) (at_ : Nat) (x : ByteArray) (h : RsAt w b bm rv pv s) (hok : RsOk s) (hgot : s.got ≤ 100000000000) (hb : ¬ (4611686018427387904 < at_ ∨ 65536 < x.data.toList.length)) :
    Calls Try.prog 7 #[.pointer (some ⟨b, 0, none⟩), .int .u64 (at_ : Int), .string x] w (RGo b bm rv (putR s at_ x.data.toList).1 (.tuple #[.int .i64 ((putR s at_ x.data.toList).2.1 : Int), .int .i64 ((putR s at_ x.data.toList).2.2 : Int)]) w) := by
  have hsz : x.data.toList.length = x.size := by simp
  have hb2 := hb
  rw [hsz] at hb2
  have c1 := h.blk.cell 1
  have c3 := h.blk.cell 3
  have hbl := h.blk.lt
  simp at c1 c3
  have em := eq_mapR bm
  have i1 : ¬ (4611686018427387904 : Int) < (at_ : Int) := by omega
  have i2 : ¬ (65536 : Int) < (x.size : Int) := by omega
  have hmo := hok.most_le
  have hnx := hok.next_le
  have hwin : ∀ q, Calls Try.prog 11 #[.pointer (some ⟨b, 0, none⟩)] (w.drewN q) fun e w'' => e = .returned (.int .i64 ((s.most - s.ready.length : Nat) : Int)) ∧ ∃ m, w'' = w.drewN m := fun q => (window_r b bm rv pv s (w.drewN q) (h.drewN q) hok.len hok.most_le).mono fun _ _ ⟨he, m, hm⟩ => ⟨he, q + m, by rw [hm, World.drewN_drewN]⟩
  obtain ⟨N, hN⟩ : ∃ N, N = s.most - s.ready.length := ⟨_, rfl⟩
  rw [← hN] at hwin
  have hNm : N ≤ 65536 := by omega
  obtain ⟨F, hF⟩ : ∃ F, F = fromR s at_ := ⟨_, rfl⟩
  obtain ⟨T, hT⟩ : ∃ T, T = toR s at_ x.data.toList.length := ⟨_, rfl⟩
  have hF1 : max (at_ : Int) (s.next : Int) = (F : Int) := by rw [hF]; unfold fromR; omega
  have hT1 : min ((at_ : Int) + (x.size : Int)) ((s.next : Int) + (N : Int)) = (T : Int) := by rw [hT]; unfold toR; rw [hsz, ← hN]; omega
  have w1 := wrapN (n := x.size) (by omega)
  have w2 := wrap_add (a := at_) (b := x.size) (by omega)
  have w3 := wrapN (n := N) (by omega)
  have w4 := wrap_add (a := s.next) (b := N) (by omega)
  clear hb2
  have H := Lib.hid h
  clear h
  have Hok := Lib.hid hok
  clear hok
  have Hwin := Lib.hid hwin
  clear hwin
  have HN := Lib.hid hN
  clear hN
  have HF := Lib.hid hF
  clear hF
  have HT := Lib.hid hT
  clear hT
  have Hsz := Lib.hid hsz
  clear hsz
  have Hb := Lib.hid hb
  clear hb
  go_enter Try.func7, Try.ntmps7
  go_wp2
  go_step3
  go_upto_region 6 with fail
  go_quiet ((go_at_call 11; exact Hwin.out _))
  have hh := H.out.drewN nq
  have hb0 : Below w.heap.size w (w.drewN nq) := below_n w nq
  clear c1 c3 hbl Hwin H em w1 w2 w3 w4 hF1 hT1
  generalize w.drewN nq = W0 at *
  by_cases hTF : T ≤ F
  · have j1 : (T : Int) ≤ (F : Int) := by omega
    have hpost : RGo b bm rv (putR s at_ x.data.toList).1 (.tuple #[.int .i64 ((putR s at_ x.data.toList).2.1 : Int), .int .i64 ((putR s at_ x.data.toList).2.2 : Int)]) w (.returned (.tuple #[.int .i64 0, .int .i64 0])) W0 := by
      rw [putR_none Hb.out (by rw [← HT.out, ← HF.out]; exact hTF)]
      exact ⟨rv, pv, rfl, hh, Out.of_below hb0, Later.refl _ _⟩
    clear hh hb0
    have Hpost := Lib.hid hpost
    clear hpost
    go_wp2
    go_ret2
    exact Hpost.out
  · have j1 : ¬ (T : Int) ≤ (F : Int) := by omega
    have hFT : F < T := by omega
    obtain ⟨A, c, hpv, hc1, hc2, _⟩ := hh.parts
    subst hpv
    have hprow := hh.parts.prow.2.2.2
    have c4 := hh.blk.cell 4
    have hbl := hh.blk.lt
    simp at c4
    have hj : Calls Try.prog 14 #[.slice A s.parts.length c, .agg #[.int .u64 (F : Int), .int .u64 (T : Int)]] W0 fun e w' => ∃ v, e = .returned v ∧ OwnP W0 v (joinS s.parts (F, T)) w' ∧ Below W0.heap.size W0 w' :=
      (joined_any A s.parts.length c s.parts (F, T) W0 hprow rfl (by have := Hok.out.few; omega)).mono fun e w' ⟨v, he, ho, hb⟩ => ⟨v, he, by rw [jfold _ [] _ Hok.out.norm hFT, List.nil_append] at ho; exact ho, hb⟩
    clear hprow hc1 hc2
    have Hj := Lib.hid hj
    clear hj
    have Hh := Lib.hid hh
    clear hh
    have Hb0 := Lib.hid hb0
    clear hb0
    go_upto_region 9 with fail
    go_wp2_with fail
    (with_reducible refine (Hj.out).mono ?_)
    rintro e W1 ⟨v, rfl, hown, hb1⟩
    have hh1 : RsAt W1 b bm rv (.slice A s.parts.length c) s := Hh.out.below hb1
    have hW1 : Out (OwnR b bm rv) w W1 := Out.trans (Out.of_below (O := OwnR b bm rv) Hb0.out) (Out.of_below (O := OwnR b bm rv) hb1) (fun _ _ e => e)
    obtain ⟨l, hl⟩ : ∃ l, l = joinS s.parts (F, T) := ⟨_, rfl⟩
    rw [← hl] at hown
    unfold OwnP at hown
    obtain ⟨A2, k2, hv, hnk, hkm⟩ := own_slice0 hown
    subst hv
    have hpl := PartsIs.of_own (w := W1) hown
    have hl65 : l.length ≤ 65 := by have := joinS_len s.parts (F, T); have := Hok.out.few; rw [hl]; omega
    have hlne : ∃ p0 lr, l = p0 :: lr := by
      cases hc : l with
      | nil => obtain ⟨r, hr, _⟩ := joinS_in s.parts (F, T); rw [← hl, hc] at hr; cases hr
      | cons p0 lr => exact ⟨p0, lr, rfl⟩
    obtain ⟨p0, lr, hlc⟩ := hlne
    obtain ⟨n2, hn2⟩ : ∃ n, n = l.length := ⟨_, rfl⟩
    rw [← hn2] at hl65 hnk hown hpl ⊢
    have hn0 : 0 < n2 := by rw [hn2, hlc]; simp
    obtain ⟨g, hA2, hgl, e0⟩ : ∃ g, A2 = some ⟨g, 0, none⟩ ∧ g < W1.heap.size ∧ W1.cell? ⟨g, 0, none⟩ = some (.int .u64 (p0.1 : Int)) := by
      rcases hown.2 with ⟨_, h0⟩ | ⟨g, cap, cur, hv, _, hg, h4, h5, h6, h7⟩
      · omega
      · injection hv with e1 e2 e3
        refine ⟨g, e1, (Array.getElem?_eq_some_iff.1 hg).1, ?_⟩
        rw [cell_of_row W1 g 0 cur _ (0, 0) hg]
        obtain ⟨a1, _⟩ := partCells_at l 0 p0 (by rw [hlc]; rfl)
        rw [← h7, Nat.zero_mul, List.getElem?_take_of_lt (by omega)] at a1
        simpa using a1
    subst hA2
    have c1 := hh1.blk.cell 1
    have hbl := hh1.blk.lt
    simp at c1
    have hmany : manyR s l = ((decide (64 < n2) && decide (s.next < p0.1)) || decide (65 < n2)) := by unfold manyR; rw [← hn2, hlc]; rfl
    have hW1' : W1.drewN 0 = W1 := rfl
    clear hb1
    have Hh1 := Lib.hid hh1
    clear hh1
    have HW1 := Lib.hid hW1
    clear hW1
    have Hl := Lib.hid hl
    clear hl
    have Hown := Lib.hid hown
    clear hown
    have Hpl := Lib.hid hpl
    clear hpl
    have Hlc := Lib.hid hlc
    clear hlc
    have Hn2 := Lib.hid hn2
    clear hn2
    have Hnk := Lib.hid hnk
    clear hnk
    have Hkm := Lib.hid hkm
    clear hkm
    have HW1' := Lib.hid hW1'
    clear hW1'
    go_upto_region 10 with fail
    go_cut [79] from 61 to 79 (fun v wx => v = .bool (manyR s l) ∧ ∃ q, wx = W1.drewN q)
    case first =>
      have j3 : (0 : Int) < (n2 : Int) := by omega
      by_cases g1 : 64 < n2
      · have j2 : decide ((64 : Int) < (n2 : Int)) = true := by simp; omega
        have j6 : ¬ 65 < n2 := by omega
        have j5 : decide ((65 : Int) < (n2 : Int)) = false := by simp; omega
        by_cases g2 : s.next < p0.1
        · have j4 : decide ((s.next : Int) < (p0.1 : Int)) = true := by simp; omega
          have hm : manyR s l = true := by rw [hmany]; simp [g1, g2]
          clear hmany
          have Hm := Lib.hid hm
          clear hm
          go_quiet (fail)
          go_wp2_with fail
          go_meet
          case rel => exact ⟨by rw [Hm.out], _, rfl⟩
        · have j4 : decide ((s.next : Int) < (p0.1 : Int)) = false := by simp; omega
          have hm : manyR s l = false := by rw [hmany]; simp [g2, j6]
          clear hmany
          have Hm := Lib.hid hm
          clear hm
          go_quiet (fail)
          go_wp2_with fail
          go_meet
          case rel => exact ⟨by rw [Hm.out], _, rfl⟩
      · have j2 : decide ((64 : Int) < (n2 : Int)) = false := by simp; omega
        have j5 : decide ((65 : Int) < (n2 : Int)) = false := by simp; omega
        have hm : manyR s l = false := by rw [hmany]; simp [g1]; omega
        clear hmany
        have Hm := Lib.hid hm
        clear hm
        go_quiet (fail)
        go_wp2_with fail
        go_meet
        case rel => exact ⟨by rw [Hm.out], _, rfl⟩
    case rest =>
      obtain ⟨rfl, q1, hwq⟩ := hcut
      have hh2 := Hh1.out.drewN q1
      have hW2 : Out (OwnR b bm rv) w (W1.drewN q1) := Out.trans HW1.out (Out.of_below (O := OwnR b bm rv) (below_n W1 q1)) (fun _ _ e => e)
      have hp2 : PartsIs (W1.drewN q1) (.slice (some ⟨g, 0, none⟩) n2 k2) l := Hpl.out.keep (fun _ _ _ => rfl)
      clear c1 c4 e0 hgl hbl Hown Hh1 HW1 Hpl HW1'
      rw [← hwq] at hh2 hW2 hp2
      clear hwq
      generalize wc = W2 at *
      by_cases hM : manyR s l = true
      · have hpost : RGo b bm rv (putR s at_ x.data.toList).1 (.tuple #[.int .i64 ((putR s at_ x.data.toList).2.1 : Int), .int .i64 ((putR s at_ x.data.toList).2.2 : Int)]) w (.returned (.tuple #[.int .i64 0, .int .i64 0])) W2 := by
          rw [putR_many Hb.out (by rw [← HT.out, ← HF.out, ← Hl.out]; exact hM)]
          exact ⟨rv, _, rfl, hh2, hW2, Later.refl _ _⟩
        rw [hM]
        clear hh2 hW2 hp2 hM hmany
        have Hpost := Lib.hid hpost
        clear hpost
        go_wp2
        go_ret2
        exact Hpost.out
      · have hM : manyR s l = false := by simpa using hM
        rw [hM]
        clear hmany
        have HM := Lib.hid hM
        clear hM
        have Hh2 := Lib.hid hh2
        clear hh2
        have HW2 := Lib.hid hW2
        clear hW2
        have Hp2 := Lib.hid hp2
        clear hp2
        have hF2 : at_ ≤ F ∧ s.next ≤ F := by rw [HF.out]; unfold fromR; omega
        have hT2 : T ≤ at_ + x.size := by rw [HT.out]; unfold toR; rw [Hsz.out]; omega
        go_wp2
        go_step3
        go_wp2_with fail
        go_loopw [6, 11] (fun nv i wr => ∃ y : Nat, F ≤ y ∧ y ≤ T ∧ i = .int .u64 (y : Int) ∧ nv = .int .i64 ((newN s.far F (y - F) : Nat) : Int) ∧ RsAt wr b bm rv (.slice A s.parts.length c) (layS s at_ x.data.toList F y) ∧ Out (OwnR b bm rv) w wr ∧ PartsIs wr (.slice (some ⟨g, 0, none⟩) n2 k2) l) (fun _ i _ => T - (intOf i).toNat)
        case atStart => exact ⟨F, Nat.le_refl _, by omega, rfl, by rw [Nat.sub_self]; rfl, by rw [layS_start]; exact Hh2.out, HW2.out, Hp2.out⟩
        case round =>
          clear Hh2 HW2 Hp2
          obtain ⟨y, hy1, hy2, rfl, rfl, hR, hO, hP⟩ := hrel
          have hNs : newN s.far F (y - F) ≤ y - F := newN_le _ _ _
          have b1 : T ≤ 4611686018427387904 + 65536 := by have := Hb.out; rw [Hsz.out] at this; omega
          have bN : (newN s.far F (y - F) : Int) ≤ 65536 := by have := Hb.out; rw [Hsz.out] at this; omega
          have bN0 : (0 : Int) ≤ (newN s.far F (y - F) : Int) := by omega
          have b2 : (y : Int) ≤ 4611686018427453440 := by omega
          have b0 : (0 : Int) ≤ (y : Int) := by omega
          obtain ⟨NN, hNN⟩ : ∃ NN, NN = newN s.far F (y - F) := ⟨_, rfl⟩
          rw [← hNN] at bN bN0 ⊢
          by_cases hy : y < T
          · have q1 : (y : Int) < (T : Int) := by omega
            obtain ⟨nm, hfar, hnm⟩ := hR.far
            have hky := keyU64 (n := y) (by omega)
            have c3 := hR.blk.cell 3
            have hbl := hR.blk.lt
            simp at c3
            have hlk := hfar.look_ok lawU64 Try.underlying46 (zeroU8 wr) hky
            rw [farM_at] at hlk
            have hfy : (layS s at_ x.data.toList F y).far y = s.far y := lay_at
            rw [hfy] at hlk
            have hnx1 := newN_next (far := s.far) hy1
            cases hsf : s.far y with
            | some z =>
              rw [hsf] at hlk hnx1
              obtain ⟨zv, hzv⟩ : ∃ zv : Int, Value.int .u8 zv = byteV z := ⟨_, rfl⟩
              have hlk' : (Instr.lookup 46 (.map (some bm)) (.int .u64 (y : Int)) true).run Try.prog wr = .ok (.tuple #[.int .u8 zv, .bool true]) wr := by rw [hzv]; exact hlk
              have hR2 := hR
              rw [← layS_some hy1 hsf] at hR2
              have hN1 : NN = newN s.far F (y + 1 - F) := by rw [hnx1, ← hNN]; rfl
              clear hlk hnx1 hfy hsf hzv hR hfar hNs
              have HR2 := Lib.hid hR2
              clear hR2
              have HO := Lib.hid hO
              clear hO
              have HP := Lib.hid hP
              clear hP
              have Hky := Lib.hid hky
              clear hky
              have HNN := Lib.hid hNN
              clear hNN
              have HN1 := Lib.hid hN1
              clear hN1
              have Hnm := Lib.hid hnm
              clear hnm
              go_wp2_with fail
              go_roundw
              case rel => exact ⟨y + 1, by omega, by omega, by go_num, by rw [← HN1.out], HR2.out, HO.out, HP.out⟩
              case measure => simp [intOf]; omega
            | none =>
              rw [hsf] at hlk hnx1
              have hlk' : (Instr.lookup 46 (.map (some bm)) (.int .u64 (y : Int)) true).run Try.prog wr = .ok (.tuple #[.int .u8 0, .bool false]) wr := hlk
              have hN1 : newN s.far F (y + 1 - F) = NN + 1 := by rw [hnx1, ← hNN]; rfl
              have hst : ∀ W, MapIs Try.prog 28 W bm (nm + 1) (updM (farM (layS s at_ x.data.toList F y).far) (.int .u64 (y : Int)) (some (byteV (x.data.toList.getD (y - at_) 0)))) → wr.grownBy W (some bm) → _ := fun W h1 h2 => lay_step hy1 hsf hR hO hnm h1 h2
              have hno : (farM (layS s at_ x.data.toList F y).far (.int .u64 (y : Int))).isSome = false := by rw [farM_at, hfy, hsf]; rfl
              have v1 : IntKind.u64.wrap ((y : Int) - (at_ : Int)) = (y : Int) - (at_ : Int) := by rw [IntKind.wrap_u64]; omega
              have v2 : (0 : Int) ≤ (y : Int) - (at_ : Int) := by omega
              have v3 : (y : Int) - (at_ : Int) < (x.size : Int) := by omega
              have v4 : ((y : Int) - (at_ : Int)).toNat = y - at_ := by omega
              have v5 : y - at_ < x.size := by omega
              have hix : ∀ W : World, (Instr.index 9 (.string x) (.int .u64 ((y : Int) - (at_ : Int)))).run Try.prog W = .ok (byteV (x.data.toList.getD (y - at_) 0)) W := fun W => by
                rw [show (y : Int) - (at_ : Int) = ((y - at_ : Nat) : Int) by omega]
                exact index_list x _ v5 W
              have hnml : nm < maxLen := by
                have e : (layS s at_ x.data.toList F y).got = s.got + newN s.far F (y - F) := rfl
                rw [e] at hnm
                have := Hb.out; rw [Hsz.out] at this
                unfold maxLen
                omega
              clear hlk hnx1 hfy hsf hNs
              have HR := Lib.hid hR
              clear hR
              have HO := Lib.hid hO
              clear hO
              have HP := Lib.hid hP
              clear hP
              have Hky := Lib.hid hky
              clear hky
              have HNN := Lib.hid hNN
              clear hNN
              have HN1 := Lib.hid hN1
              clear hN1
              have Hnm := Lib.hid hnm
              clear hnm
              have Hst := Lib.hid hst
              clear hst
              have Hno := Lib.hid hno
              clear hno
              have Hfar := Lib.hid hfar
              clear hfar
              have Hnml := Lib.hid hnml
              clear hnml
              go_upto_region 17 with fail
              go_still_tail 10, (by kernel_rfl)
              refine wpList_mapUpdate_is _ rfl _ _ _ _ rfl 28 5 lawU64 Try.underlying46 bm nm _ rfl Hfar.out.drew Hnml.out (.int .u64 (y : Int)) (byteV (x.data.toList.getD (y - at_) 0)) _ rfl ?hv Hky.out ?_
              case hv =>
                simp [Act.eval]
                rw [Array.getElem?_eq_getElem (show y - at_ < x.data.size from v5)]
                rfl
              intro W4 h4 ht4
              rw [Hno.out] at h4
              simp only [Bool.false_eq_true, if_false] at h4
              have hs4 := Hst.out W4 h4 (grown_undrew ht4.grown)
              have hP4 : PartsIs W4 (.slice (some ⟨g, 0, none⟩) n2 k2) l := HP.out.keep (fun g cs hgc => (grown_undrew ht4.grown).block g hgc.lt (fun e => HR.out.no_part hgc (.inr (.inl (Option.some.inj e)))))
              clear h4 ht4 hix
              have Hs4 := Lib.hid hs4
              clear hs4
              have HP4 := Lib.hid hP4
              clear hP4
              go_wp2
              go_roundw
              case rel => exact ⟨y + 1, by omega, by omega, by go_num, by rw [HN1.out]; go_num, Hs4.out.1, Hs4.out.2, HP4.out⟩
              case measure => simp [intOf]; omega
          · obtain rfl : T = y := by omega
            have q1 : ¬ (T : Int) < (T : Int) := by omega
            have hTF2 : ¬ toR s at_ x.data.toList.length ≤ fromR s at_ := by rw [← HF.out, ← HT.out]; omega
            have hM2 : manyR s (joinS s.parts (fromR s at_, toR s at_ x.data.toList.length)) = false := by rw [← HF.out, ← HT.out, ← Hl.out]; exact HM.out
            have hLo := laid_ok Hok.out Hb.out hTF2 hM2
            have hset := RsAt.setParts hR hP
            have hse : { layS s at_ x.data.toList F T with parts := l } = laidR s at_ x.data.toList := by
              unfold layS laidR
              rw [HF.out, HT.out, Hl.out, HF.out, HT.out]
            rw [hse] at hset
            have hg2 : (laidR s at_ x.data.toList).got ≤ 1000000000000 := by
              show s.got + newN s.far (fromR s at_) (toR s at_ x.data.toList.length - fromR s at_) ≤ _
              have := newN_le s.far (fromR s at_) (toR s at_ x.data.toList.length - fromR s at_)
              rw [← HF.out, ← HT.out] at this ⊢
              have := Hb.out; rw [Hsz.out] at this
              omega
            have hOs := Out.set_ hO (.inl rfl) 4 (.slice (some ⟨g, 0, none⟩) n2 k2)
            have hmv := moves_r b bm rv _ _ _ hset hLo hg2
            have hpost : ∀ rv' pv' W', RsAt W' b bm rv' pv' (movesR (laidR s at_ x.data.toList)) → Out (OwnR b bm rv) w W' → Later w rv rv' → RGo b bm rv (putR s at_ x.data.toList).1 (.tuple #[.int .i64 ((putR s at_ x.data.toList).2.1 : Int), .int .i64 ((putR s at_ x.data.toList).2.2 : Int)]) w (.returned (.tuple #[.int .i64 (NN : Int), .int .i64 0])) W' := by
              intro rv' pv' W' h1 h2 h3
              rw [putR_lays Hb.out hTF2 hM2]
              refine ⟨rv', pv', ?_, h1, h2, h3⟩
              rw [hNN, HF.out, HT.out]
              rfl
            have c4 := hR.blk.cell 4
            have f4 := hR.blk.frozen 4
            have hbl2 := hR.blk.lt
            simp at c4
            clear hR hO hP hset hse hg2 hLo hTF2 hM2 hFT hTF hNs
            have Hmv := Lib.hid hmv
            clear hmv
            have HOs := Lib.hid hOs
            clear hOs
            have Hpost := Lib.hid hpost
            clear hpost
            have HNN := Lib.hid hNN
            clear hNN
            go_upto_region 20 with fail
            go_wp2_with fail
            (with_reducible refine (Hmv.out).mono ?_)
            rintro e W5 ⟨rv', pv', rfl, h5, ho5, hl5⟩
            have hfin := Hpost.out rv' pv' W5 h5 (Out.trans HOs.out ho5 (fun _ _ e => e)) (by
              have := Later.of hl5
              intro i hi
              rcases this i hi with q | q
              · exact .inl q
              · exact .inr (Nat.le_trans HOs.out.size q))
            clear h5 ho5 hl5
            have Hfin := Lib.hid hfin
            clear hfin
            go_wp2
            go_ret2
            exact Hfin.out
end Go.Proofs.Ytbiaphichaomaaa
