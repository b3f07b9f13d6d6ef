/- The statement BufStream: what is there, whatever was put and dropped, are the bytes that were taken, one behind the other, from From on, and never more than most; for any index, any most, any script. -/
import Derived.Test.YtbfmgdcnpefciaaBufHeavy
import Derived.Test.YtbfmgdcnpefciaaBufWorks
import Derived.Deep.RegionHeld3
import Derived.Laws.BitsAllLaws
import Derived.Lib.AppendStr
set_option linter.unusedVariables false
set_option linter.unusedSimpArgs false
namespace Go.Proofs.Ytbfmgdcnpefciaa.bufStream
open Go.ChangeShapes Go.WideShapes Go.ChangeAt Go.RowKit
open Go.ChangeMaps (open_string shut_string)

/-- the buffer holds the end l of all the bytes T that were taken; 'all' is a row of the call's own that has T -/
def St (w : World) (b r m f0 base : Nat) (v : Value) (T l : List UInt8) (W : World) : Prop :=
  (∃ f R P, R.length = m ∧ BufAt W b r f R l ∧ T = P ++ l ∧ f = f0 + P.length) ∧ W.ownsRow base 5 1 v T.length (T.map u8v) ∧ Below w.heap.size w W ∧ base ≤ W.heap.size ∧ b < base ∧ r < base ∧ w.heap.size ≤ b ∧ w.heap.size ≤ r
section
variable {w W W' : World} {b r m f0 base : Nat} {v : Value} {T l : List UInt8}
theorem own_below {B e n : Nat} {xs : List Value} (h : W.ownsRow B e 1 v n xs) (hb : Below W.heap.size W W') : W'.ownsRow B e 1 v n xs :=
  h.kept (only_of_below hb none) (by cases hv : v.ownBlock <;> simp)
theorem own_kept2 {B e n : Nat} {xs : List Value} (h : W.ownsRow B e 1 v n xs) (hk : Kept2 b r W W') (hb : b < B) (hr : r < B) : W'.ownsRow B e 1 v n xs := by
  refine ⟨h.1, ?_⟩
  rcases h.2 with hn | ⟨g, cap, cur, rfl, hB, hgg, rest⟩
  · exact .inl hn
  · refine .inr ⟨g, cap, cur, rfl, hB, ?_, rest⟩
    rw [hk.2 g (Array.getElem?_eq_some_iff.1 hgg).1 (by omega) (by omega)]
    exact hgg
theorem St.below (h : St w b r m f0 base v T l W) (hb : Below W.heap.size W W') : St w b r m f0 base v T l W' := by
  obtain ⟨⟨f, R, P, e, hB, hT, hf⟩, ho, hw, hs, rest⟩ := h
  exact ⟨⟨f, R, P, e, hB.below_ hb, hT, hf⟩, own_below ho hb, hw.trans (hb.mono hw.size), Nat.le_trans hs hb.size, rest⟩
theorem St.drew (h : St w b r m f0 base v T l W) : St w b r m f0 base v T l W.drew := h.below (Below.drew (Below.refl _ _))
theorem St.drewN (h : St w b r m f0 base v T l W) (n : Nat) : St w b r m f0 base v T l (W.drewN n) := h.below (below_n _ _)
theorem St.len (h : St w b r m f0 base v T l W) : l.length ≤ T.length ∧ l.length ≤ m := by
  obtain ⟨⟨f, R, P, e, hB, hT, hf⟩, _⟩ := h
  exact ⟨by rw [hT]; simp, by have := hB.le; omega⟩
theorem St.to (h : St w b r m f0 base v T l W) (h1 : f0 + T.length < 18446744073709551616) : Calls Try.prog 21 #[.pointer (some ⟨b, 0, none⟩)] W fun e w' => e = .returned (.int .u64 ((f0 + T.length : Nat) : Int)) ∧ Below W.heap.size W w' := by
  obtain ⟨⟨f, R, P, e, hB, hT, hf⟩, _⟩ := h
  have hl : f + l.length = f0 + T.length := by rw [hT, hf, List.length_append]; omega
  exact (to_v W b r f R l ((f0 + T.length : Nat) : Int) hB (by omega) (by rw [hl])).mono fun e w' ⟨x, n, y⟩ => ⟨x, by rw [y]; exact below_n W n⟩
theorem St.frm (h : St w b r m f0 base v T l W) : Calls Try.prog 20 #[.pointer (some ⟨b, 0, none⟩)] W fun e w' => e = .returned (.int .u64 ((f0 + (T.length - l.length) : Nat) : Int)) ∧ Below W.heap.size W w' := by
  obtain ⟨⟨f, R, P, e, hB, hT, hf⟩, _⟩ := h
  have hl : f = f0 + (T.length - l.length) := by rw [hT, hf, List.length_append]; omega
  exact (from_v W b r f R l ((f0 + (T.length - l.length) : Nat) : Int) hB (by rw [hl])).mono fun e w' ⟨x, y⟩ => ⟨x, by rw [← y]; exact Below.refl _ _⟩
theorem getL_full (f : Nat) (l : List UInt8) : getL f l f (l.length : Int) = l := by
  unfold getL
  by_cases h : l = []
  · subst h; simp
  · have : 0 < l.length := List.length_pos_iff.2 h
    rw [if_neg (by omega)]
    simp
theorem St.get (h : St w b r m f0 base v T l W) (h1 : f0 + T.length ≤ 9223372036854775807) : Calls Try.prog 16 #[.pointer (some ⟨b, 0, none⟩), .int .u64 ((f0 + (T.length - l.length) : Nat) : Int), .int .i64 (l.length : Int)] W fun e w' => e = .returned (.string ⟨l.toArray⟩) ∧ Below W.heap.size W w' := by
  obtain ⟨⟨f, R, P, e, hB, hT, hf⟩, _⟩ := h
  have hl : f = f0 + (T.length - l.length) := by rw [hT, hf, List.length_append]; omega
  have hTl : P.length + l.length = T.length := by rw [hT, List.length_append]
  exact get_v W b r f R l f (l.length : Int) ((f0 + (T.length - l.length) : Nat) : Int) ⟨l.toArray⟩ hB (by omega) (by omega) (by omega) (by omega) (by rw [hl]) (by rw [getL_full])
theorem St.drop (h : St w b r m f0 base v T l W) (h1 : f0 + T.length ≤ 9223372036854775807) (q : Nat) (hq : q < 18446744073709551616) :
    Calls Try.prog 18 #[.pointer (some ⟨b, 0, none⟩), .int .u64 (q : Int)] W fun e w' => (∃ n : Int, e = .returned (.int .i64 n)) ∧ ∃ l', St w b r m f0 base v T l' w' := by
  obtain ⟨⟨f, R, P, e, hB, hT, hf⟩, ho, hw, hs, x1, x2, x3, x4⟩ := h
  have hTl : P.length + l.length = T.length := by rw [hT, List.length_append]
  refine (drop_at W b r f R l q hB (by omega) hq).mono fun e w' ⟨he, hB', hK⟩ => ⟨⟨_, he⟩, l.drop (dropN f l q), ⟨_, R, P ++ l.take (dropN f l q), by assumption, hB', ?_, ?_⟩, own_kept2 ho hK x1 x2, hw.trans (hK.below x3 x4 hw.size), Nat.le_trans hs hK.1.size, x1, x2, x3, x4⟩
  · rw [List.append_assoc, List.take_append_drop]; exact hT
  · rw [List.length_append, List.length_take, Nat.min_eq_left (dropN_le f l q), hf, Nat.add_assoc]
/-- behind Put: the buffer's bytes are more, those that were taken are not yet laid by -/
def Mid (w : World) (b r m f0 base : Nat) (v : Value) (T l : List UInt8) (s : ByteArray) (n : Nat) (W : World) : Prop :=
  n ≤ s.size ∧ n ≤ 65536 ∧ (∃ f R P, R.length = m ∧ BufAt W b r f R (l ++ s.data.toList.take n) ∧ T = P ++ l ∧ f = f0 + P.length) ∧ W.ownsRow base 5 1 v T.length (T.map u8v) ∧ Below w.heap.size w W ∧ base ≤ W.heap.size ∧ b < base ∧ r < base ∧ w.heap.size ≤ b ∧ w.heap.size ≤ r
theorem St.put (h : St w b r m f0 base v T l W) (h1 : f0 + T.length ≤ 9223372036854775807) (hm : m ≤ 65536) (s : ByteArray) (hs : s.size ≤ maxLen) :
    Calls Try.prog 14 #[.pointer (some ⟨b, 0, none⟩), .string s] W fun e w' => ∃ n : Nat, e = .returned (.int .i64 (n : Int)) ∧ Mid w b r m f0 base v T l s n w' ∧ Kept2 b r W w' := by
  obtain ⟨⟨f, R, P, e, hB, hT, hf⟩, ho, hw, hsz, x1, x2, x3, x4⟩ := h
  have hTl : P.length + l.length = T.length := by rw [hT, List.length_append]
  refine (put_at W b r f R l s _ hB hs (by omega) rfl).mono fun e w' ⟨he, ⟨R', hR', hB'⟩, hK⟩ => ⟨_, he, ⟨by omega, by omega, ⟨f, R', P, by omega, hB', hT, hf⟩, own_kept2 ho hK x1 x2, hw.trans (hK.below x3 x4 hw.size), Nat.le_trans hsz hK.1.size, x1, x2, x3, x4⟩, hK⟩
theorem Mid.done {s : ByteArray} {n x : Nat} {v' : Value} (h : Mid w b r m f0 base v T l s n W) (e3 : x = n) (ho : W'.ownsRow base 5 1 v' (T.length + x) (T.map u8v ++ Lib.strCells (s.extract 0 n))) (hg : W.grownBy W' v.ownBlock) : St w b r m f0 base v' (T ++ s.data.toList.take n) (l ++ s.data.toList.take n) W' := by
  obtain ⟨n1, n2, ⟨f, R, P, e, hB, hT, hf⟩, ho', hw, hsz, x1, x2, x3, x4⟩ := h
  have hne : ∀ k, k < base → some k ≠ v.ownBlock := by
    intro k hk e
    have := (ho'.lt k e.symm).1
    omega
  have hll : s.data.toList.length = s.size := rfl
  refine ⟨⟨f, R, P, e, ⟨Blk.grown hB.1 hg (hne b x1), Blk.grown hB.2.1 hg (hne r x2), hB.2.2⟩, by rw [hT, List.append_assoc], hf⟩, ?_, ?_, Nat.le_trans hsz hg.size, x1, x2, x3, x4⟩
  · have e1 : (T ++ s.data.toList.take n).length = T.length + n := by rw [List.length_append, List.length_take]; omega
    have e2 : (T ++ s.data.toList.take n).map u8v = T.map u8v ++ Lib.strCells (s.extract 0 n) := by
      rw [List.map_append]
      congr 1
      simp [Lib.strCells, ByteArray.data_extract]
      rfl
    rw [e1, e2]
    rw [e3] at ho
    exact ho
  · exact ⟨hg.os.trans hw.os, hg.tape.trans hw.tape, hg.output.trans hw.output, Nat.le_trans hw.size hg.size, fun i hi => (hg.block i (Nat.lt_of_lt_of_le hi hw.size) (hne i (by omega))).trans (hw.block i hi)⟩
theorem St.alloc (h : St w b r m f0 base v T l W) (o : Obj) : St w b r m f0 base v T l (W.alloc o) := h.below ((Below.refl _ _).alloc (Nat.le_refl _) _)
end

/-- a row of the call's own, as a slice value -/
theorem own_form {W : World} {B e n : Nat} {v : Value} {xs : List Value} (h : W.ownsRow B e 1 v n xs) : (v = .slice none 0 0 ∧ n = 0) ∨ ∃ g c, v = .slice (some ⟨g, 0, none⟩) n c ∧ n ≤ c ∧ ∀ j u, xs[j]? = some u → W.cell? ⟨g, j, none⟩ = some u := by
  rcases h.2 with ⟨rfl, rfl⟩ | ⟨g, cap, cur, rfl, _, _, hnc, _⟩
  · exact .inl ⟨rfl, rfl⟩
  · refine .inr ⟨g, cap, rfl, hnc, fun j u hu => ?_⟩
    have := h.cells (g := g) rfl j u hu
    rwa [add_plain, Nat.zero_add] at this
theorem conv_end {W : World} {g o c : Nat} {l : List UInt8} (h : ∀ (j : Nat) (hj : j < l.length), W.cell? ⟨g, o + j, none⟩ = some (u8v l[j])) :
    (convert 42 9 (.slice (some ⟨g, o, none⟩) l.length c)).run Try.prog W = .ok (.string ⟨l.toArray⟩) W :=
  run_bytes_back W ⟨g, o, none⟩ l.length c l rfl (fun j hj => by rw [add_plain]; exact h j hj)
theorem conv_nil (W : World) : (convert 42 9 (.slice none 0 0)).run Try.prog W = .ok (.string ⟨#[]⟩) W := by kernel_rfl
theorem own_slice2 {W : World} {B e n : Nat} {v : Value} {xs : List Value} (h : W.ownsRow B e 1 v n xs) : ∃ A c, v = .slice A n c ∧ n ≤ c := by
  rcases own_form h with ⟨rfl, rfl⟩ | ⟨g, c, rfl, hc, _⟩
  · exact ⟨none, 0, rfl, Nat.le_refl _⟩
  · exact ⟨_, c, rfl, hc⟩
theorem conv_none {W : World} {A : Option Addr} {n : Nat} (hn : n = 0) : (convert 42 9 (.slice A n 0)).run Try.prog W = .ok (.string ⟨#[]⟩) W := by
  subst hn
  cases A with
  | none => exact conv_nil W
  | some a => exact run_bytes_back W a 0 0 [] rfl (fun j hj => absurd hj (by simp))

set_option maxRecDepth 100000 in
set_option maxHeartbeats 4000000 in
theorem walk (a0 a1 : Int) (a2 : Option Addr) (len2 cap2 : Nat) (w : World) (w0 : (Lit.int .u64 a0).wf = true) (w1 : (Lit.int .u16 a1).wf = true) (w2 : StrRows w [.inl .i64, .inr false, .inl .u64, .inl .i64] a2 len2) :
    Calls Try.prog 4 #[.int .u64 a0, .int .u16 a1, .slice a2 len2 cap2] w fun e w' => e = .returned (.bool true) ∧ Below w.heap.size w w' := by
  obtain ⟨l0, g0⟩ := bounds_u64 w0
  obtain ⟨l1, g1⟩ := bounds_u16 w1
  clear w0 w1
  have hlm := w2.1
  unfold maxLen at hlm
  obtain ⟨m, rfl⟩ : ∃ m : Nat, a1 = (m : Int) := ⟨a1.toNat, by omega⟩
  have W2 := Lib.hid w2
  clear w2
  go_enter Try.func4, Try.ntmps4
  go_wp2_with fail
  (with_reducible refine (heavy_buf a2 len2 cap2 w W2.out).mono ?_)
  rintro e w1 ⟨hv, hh, rfl, rfl⟩
  cases hv
  · have hn := hh rfl
    clear hh
    obtain ⟨f0, hf0⟩ : ∃ f0 : Nat, bits .and .u64 a0 2305843009213693951 = (f0 : Int) := ⟨_, u64_and a0 2305843009213693951 (by omega) (by omega) (by omega) (by omega)⟩
    have hfb : f0 ≤ 2305843009213693951 := by
      have h := u64_and a0 2305843009213693951 (by omega) (by omega) (by omega) (by omega)
      have h2 : a0.toNat &&& (2305843009213693951 : Int).toNat ≤ 2305843009213693951 := Nat.and_le_right
      omega
    go_wp2_with fail
    clear hf0
    with_reducible refine (new_ok f0 m _ (by omega) (by omega)).mono ?_
    rintro e w3 ⟨rfl, hA, hB3, hs3⟩
    obtain ⟨b, hb⟩ : ∃ b, b = w.heap.size + 1 := ⟨_, rfl⟩
    obtain ⟨r, hr⟩ : ∃ r, r = w.heap.size := ⟨_, rfl⟩
    rw [← hb, ← hr] at hA
    rw [← hb]
    obtain ⟨base, hbase⟩ : ∃ base, base = w.heap.size + 2 := ⟨_, rfl⟩
    have hS : St w b r m f0 base (.slice none 0 0) [] [] w3 := ⟨⟨f0, _, [], by simp, hA, rfl, by simp⟩, World.ownsRow_nil _ _ _ _, hB3, by omega, by omega, by omega, by omega, by omega⟩
    clear hb hr hB3 hs3 hbase
    go_wp2_with fail
    (with_reducible refine (from_at w3 b r f0 _ _ hA).mono ?_)
    rintro e w' ⟨rfl, rfl⟩
    clear hA
    have HS := Lib.hid hS
    clear hS
    go_wp2_with fail
    go_loopw [10, 11] (fun v i wr => ∃ (k : Nat) (T l : List UInt8), k ≤ len2 ∧ i = .int .i64 k ∧ T.length ≤ k * 65536 ∧ St w b r m f0 base v T l wr) (fun _ i _ => len2 - (intOf i).toNat)
    case atStart => exact ⟨0, [], [], Nat.zero_le _, rfl, by simp, HS.out⟩
    case round =>
      obtain ⟨k, T, l, hk, rfl, hTl, hS⟩ := hrel
      clear HS
      have hrows := W2.out.below hS.2.2.1
      have HS := Lib.hid hS
      clear hS
      by_cases hlt : k < len2
      · obtain ⟨xb, xo, rfl, hxl, hcell⟩ := hrows.2 k hlt
        obtain ⟨v0, q0, d, rfl, hd⟩ := hcell 0 _ rfl
        obtain ⟨v1, q1, s, rfl, hs⟩ := hcell 1 _ rfl
        obtain ⟨v2, q2, q, rfl, hq⟩ := hcell 2 _ rfl
        obtain ⟨v3, q3, n, rfl, hn⟩ := hcell 3 _ rfl
        clear hrows hcell hxl
        simp only [List.length_cons, List.length_nil, Nat.zero_add, Nat.reduceAdd, Nat.add_zero] at q0 q1 q2 q3
        have e1 : decide (k < len2) = true := decide_eq_true hlt
        obtain ⟨i0, hi0, hz0, hz1, hz2⟩ := info_parts infoU8z
        have Hi0 := Lib.hid hi0
        clear hi0
        have Hz0 := Lib.hid hz0
        clear hz0
        have Hz1 := Lib.hid hz1
        clear hz1
        have Hz2 := Lib.hid hz2
        clear hz2
        have hbx := Blk.new wr 34 #[.int .i64 d, .string s, .int .u64 q, .int .i64 n]
        have hS1 := HS.out.alloc (.cells #[.int .i64 d, .string s, .int .u64 q, .int .i64 n] 34)
        have hxw : wr.heap.size ≠ b ∧ wr.heap.size ≠ r := by have := HS.out.2.2.2; omega
        have hTb : f0 + T.length ≤ 9223372036854775807 := by omega
        clear HS
        have Hbx := Lib.hid hbx
        clear hbx
        have HS1 := Lib.hid hS1
        clear hS1
        have Hxw := Lib.hid hxw
        clear hxw
        have HTb := Lib.hid hTb
        clear hTb
        by_cases h2 : d = 2
        · subst h2
          obtain ⟨lq, gq⟩ := bounds_u64 hq
          obtain ⟨q', rfl⟩ : ∃ q' : Nat, q = (q' : Int) := ⟨q.toNat, by omega⟩
          go_upto_region 13 with fail
          go_wp2_with fail
          (with_reducible refine (HS1.out.drop HTb.out q' (by omega)).mono ?_)
          rintro e w6 ⟨⟨nn, rfl⟩, l', hS6⟩
          clear HS1 Hbx q0 q1 q2 q3
          have hT6 : T.length ≤ (k + 1) * 65536 := Nat.le_trans hTl (Nat.mul_le_mul_right _ (Nat.le_succ k))
          have hTb6 := HTb.out
          have hlen6 := hS6.len
          have gt := fun W (h : St w b r m f0 base u10 T l' W) => h.to (Nat.lt_of_le_of_lt hTb6 (by decide))
          have gf := fun W (h : St w b r m f0 base u10 T l' W) => h.frm
          have gg := fun W (h : St w b r m f0 base u10 T l' W) => h.get hTb6
          obtain ⟨t0, ht0⟩ : ∃ t0, t0 = f0 + (T).length := ⟨_, rfl⟩
          obtain ⟨pl, hpl⟩ : ∃ pl, pl = (T).length - (l').length := ⟨_, rfl⟩
          obtain ⟨fr, hfr⟩ : ∃ fr, fr = f0 + pl := ⟨_, rfl⟩
          rw [← ht0] at gt
          rw [← hpl, ← hfr] at gf gg
          have j1 : (t0 : Int) - (fr : Int) = ((l').length : Int) := by omega
          have j2 : (fr : Int) ≤ (t0 : Int) := by omega
          have j3 : (t0 : Int) ≤ 9223372036854775807 := by omega
          have d1 : decide (((l').length : Int) < 0) = false := by rw [decide_eq_false_iff_not]; omega
          have d2 : decide ((T).length < (l').length) = false := by rw [decide_eq_false_iff_not]; omega
          have d3 : decide (m < (l').length) = false := by rw [decide_eq_false_iff_not]; omega
          have r1 : IntKind.u64.wrap ((T).length : Int) = ((T).length : Int) := by rw [IntKind.wrap_u64]; omega
          have r2 : IntKind.u64.wrap ((f0 : Int) + ((T).length : Int)) = (t0 : Int) := by rw [IntKind.wrap_u64]; omega
          have r3 : IntKind.i64.wrap (((T).length : Int) - ((l').length : Int)) = (pl : Int) := by rw [IntKind.wrap_i64]; omega
          have r4 : IntKind.i64.wrap (m : Int) = (m : Int) := by rw [IntKind.wrap_i64]; omega
          have p1 : (0 : Int) ≤ (pl : Int) := by omega
          have p2 : (pl : Int) ≤ ((T).length : Int) := by omega
          have p3 : (T).length - pl = (l').length := by omega
          have GT := Lib.hid gt
          have GF := Lib.hid gf
          have GG := Lib.hid gg
          have P3 := Lib.hid p3
          have R1 := Lib.hid r1
          have R2 := Lib.hid r2
          have R3 := Lib.hid r3
          have R4 := Lib.hid r4
          clear gt gf gg p3 r1 r2 r3 r4 ht0 hpl hfr
          have HS6 := Lib.hid hS6
          clear hS6
          go_upto_region 18 with fail
          go_wp2_with fail
          (with_reducible refine (GT.out _ HS6.out).mono ?_)
          rintro e w7 ⟨rfl, hb⟩
          have h7 := HS6.out.below hb
          clear HS6 hb
          have H7 := Lib.hid h7
          clear h7
          go_wp2_with fail
          (with_reducible refine (GF.out _ H7.out).mono ?_)
          rintro e w8 ⟨rfl, hb⟩
          have h8 := H7.out.below hb
          clear H7 hb
          have H8 := Lib.hid h8
          clear h8
          go_upto_region 19 with fail
          obtain ⟨A, c, hv0, hnc⟩ := own_slice2 H8.out.2.1
          have r1 := R1.out
          have r2 := R2.out
          have r3 := R3.out
          have r4 := R4.out
          have p4 := P3.out
          have p5 : ((T).length : Int) ≤ (c : Int) := by omega
          by_cases hcp : c = pl
          · have hl0 : (l').length = 0 := by omega
            have hcv : ∀ W, (convert 42 9 (.slice A (l').length 0)).run Try.prog W = .ok (.string ⟨(l').toArray⟩) W := fun W => by
              rw [conv_none hl0, List.eq_nil_of_length_eq_zero hl0]
            have HCV := Lib.hid hcv
            clear hl0 hcv
            subst hv0
            have hSC := And.intro H8.out (HCV.out w8)
            obtain rfl := hcp
            go_region_held3 (fun W => St w b r m f0 base (.slice A (T).length c) T l' W ∧ (convert 42 9 (.slice A (l').length 0)).run Try.prog W = .ok (.string ⟨(l').toArray⟩) W) (first
              | exact (fun h => ⟨h, HCV.out _⟩) (St.drew (And.left (by assumption)))
              | exact (fun h => ⟨h, HCV.out _⟩) (St.below (And.left (by assumption)) hb)
              | exact (fun h => ⟨h, HCV.out _⟩) (St.drew (by assumption))
              | exact (fun h => ⟨h, HCV.out _⟩) (St.below (by assumption) hb)) (first
              | (go_at_call 21; with_reducible refine (GT.out _ ?_).mono ?_; (focus (first | assumption | exact And.left (by assumption))); rintro e w' ⟨rfl, hb⟩)
              | (go_at_call 20; with_reducible refine (GF.out _ ?_).mono ?_; (focus (first | assumption | exact And.left (by assumption))); rintro e w' ⟨rfl, hb⟩)
              | (go_at_call 16; with_reducible refine (GG.out _ ?_).mono ?_; (focus (first | assumption | exact And.left (by assumption))); rintro e w' ⟨rfl, hb⟩))
            go_wp2
            go_roundw
            case rel => exact ⟨k + 1, T, l', by omega, by go_num, hT6, by first | assumption | exact And.left (by assumption)⟩
            case measure => simp [intOf]; omega
          · rcases own_form H8.out.2.1 with ⟨hv, hn0⟩ | ⟨g, c', hv, _, _⟩
            · exfalso
              rw [hv0] at hv
              injection hv with _ _ hc0
              omega
            rw [hv0] at hv
            injection hv with hA _ hc'
            subst hA hc'
            have hform : ∀ W, St w b r m f0 base u10 T l' W → ∀ (j : Nat) (hj : j < (l').length), W.cell? ⟨g, pl + j, none⟩ = some (u8v (l')[j]) := by
              intro W h j hj
              rcases own_form h.2.1 with ⟨hv, _⟩ | ⟨g', c', hv, _, hcell⟩
              · rw [hv0] at hv; cases hv
              · rw [hv0] at hv
                injection hv with hg _ _
                injection hg with hg
                injection hg with hg
                subst hg
                refine hcell (pl + j) _ ?_
                obtain ⟨⟨_, _, P, _, _, hT, _⟩, _⟩ := h
                have hPl : P.length = pl := by have := P3.out; have := congrArg List.length hT; rw [List.length_append] at this; omega
                rw [hT, List.getElem?_map, List.getElem?_append_right (by omega), show pl + j - P.length = j by omega, List.getElem?_eq_getElem hj]
                rfl
            have hcv : ∀ W, St w b r m f0 base u10 T l' W → (convert 42 9 (.slice (some ⟨g, pl, none⟩) (l').length (c - pl))).run Try.prog W = .ok (.string ⟨(l').toArray⟩) W := fun W h => conv_end (hform W h)
            have HCV := Lib.hid hcv
            clear hform hcv
            have hSC := And.intro H8.out (HCV.out _ H8.out)
            subst hv0
            go_region_held3 (fun W => St w b r m f0 base (.slice (some ⟨g, 0, none⟩) (T).length c) T l' W ∧ (convert 42 9 (.slice (some ⟨g, pl, none⟩) (l').length (c - pl))).run Try.prog W = .ok (.string ⟨(l').toArray⟩) W) (first
              | exact (fun h => ⟨h, HCV.out _ h⟩) (St.drew (And.left (by assumption)))
              | exact (fun h => ⟨h, HCV.out _ h⟩) (St.below (And.left (by assumption)) hb)
              | exact (fun h => ⟨h, HCV.out _ h⟩) (St.drew (by assumption))
              | exact (fun h => ⟨h, HCV.out _ h⟩) (St.below (by assumption) hb)) (first
              | (go_at_call 21; with_reducible refine (GT.out _ ?_).mono ?_; (focus (first | assumption | exact And.left (by assumption))); rintro e w' ⟨rfl, hb⟩)
              | (go_at_call 20; with_reducible refine (GF.out _ ?_).mono ?_; (focus (first | assumption | exact And.left (by assumption))); rintro e w' ⟨rfl, hb⟩)
              | (go_at_call 16; with_reducible refine (GG.out _ ?_).mono ?_; (focus (first | assumption | exact And.left (by assumption))); rintro e w' ⟨rfl, hb⟩))
            go_wp2
            go_roundw
            case rel => exact ⟨k + 1, T, l', by omega, by go_num, hT6, by first | assumption | exact And.left (by assumption)⟩
            case measure => simp [intOf]; omega
        · have e2 : (d == 2) = false := by rw [beq_eq_false_iff_ne]; exact h2
          clear h2
          go_upto_region 13 with fail
          go_wp2_with fail
          (with_reducible refine (HS1.out.put HTb.out (by omega) s hs).mono ?_)
          rintro e w6 ⟨nn, rfl, hM, hK⟩
          have hbx6 := hK.blk Hbx.out Hxw.out.1 Hxw.out.2
          have c1 := Blk.cell hbx6 1
          simp at c1
          have n1 : (0 : Int) ≤ (nn : Int) := by omega
          have n2 : (nn : Int) ≤ (s.size : Int) := by have := hM.1; omega
          have e3 : decide (s.size < nn) = false := by rw [decide_eq_false_iff_not]; omega
          clear HS1 Hbx q0 q1 q2 q3 hbx6 hK
          have HM := Lib.hid hM
          clear hM
          unfold maxLen at hs
          go_upto_region 17 with fail
          have hsz : (s.extract 0 nn).size = nn := by simp; omega
          have hn6 : nn ≤ 65536 := HM.out.2.1
          have HSZ := Lib.hid hsz
          clear hsz
          go_wp2_with (at_builtin; refine Lib.wpList_append_own_string _ (by rfl) (.tmp 64) (.tmp 68) 42 9 rfl base 5 i0 Try.underlying42 Try.underlying9 Hi0.out Hz0.out Hz1.out Hz2.out u10 T.length (T.map u8v) (by rfl) HM.out.2.2.2.1 (s.extract 0 nn) (by rfl) (by have := HTb.out; rw [HSZ.out]; unfold maxLen; omega) (by rw [HSZ.out]; omega) HM.out.2.2.2.2.2.1 ?_)
          intro V6 w6' ho7 hg7 _
          have hS6 := HM.out.done (Nat.min_eq_left HM.out.1) ho7 hg7
          have hT6 : (T ++ s.data.toList.take nn).length ≤ (k + 1) * 65536 := by rw [List.length_append, List.length_take]; omega
          have hTb6 : f0 + (T ++ s.data.toList.take nn).length ≤ 9223372036854775807 := by omega
          clear ho7 hg7 HM c1 n1 n2 e3 HSZ hn6
          generalize T ++ s.data.toList.take nn = T6 at *
          generalize l ++ s.data.toList.take nn = l6 at *
          have hlen6 := hS6.len
          have gt := fun W (h : St w b r m f0 base V6 T6 l6 W) => h.to (Nat.lt_of_le_of_lt hTb6 (by decide))
          have gf := fun W (h : St w b r m f0 base V6 T6 l6 W) => h.frm
          have gg := fun W (h : St w b r m f0 base V6 T6 l6 W) => h.get hTb6
          obtain ⟨t0, ht0⟩ : ∃ t0, t0 = f0 + (T6).length := ⟨_, rfl⟩
          obtain ⟨pl, hpl⟩ : ∃ pl, pl = (T6).length - (l6).length := ⟨_, rfl⟩
          obtain ⟨fr, hfr⟩ : ∃ fr, fr = f0 + pl := ⟨_, rfl⟩
          rw [← ht0] at gt
          rw [← hpl, ← hfr] at gf gg
          have j1 : (t0 : Int) - (fr : Int) = ((l6).length : Int) := by omega
          have j2 : (fr : Int) ≤ (t0 : Int) := by omega
          have j3 : (t0 : Int) ≤ 9223372036854775807 := by omega
          have d1 : decide (((l6).length : Int) < 0) = false := by rw [decide_eq_false_iff_not]; omega
          have d2 : decide ((T6).length < (l6).length) = false := by rw [decide_eq_false_iff_not]; omega
          have d3 : decide (m < (l6).length) = false := by rw [decide_eq_false_iff_not]; omega
          have r1 : IntKind.u64.wrap ((T6).length : Int) = ((T6).length : Int) := by rw [IntKind.wrap_u64]; omega
          have r2 : IntKind.u64.wrap ((f0 : Int) + ((T6).length : Int)) = (t0 : Int) := by rw [IntKind.wrap_u64]; omega
          have r3 : IntKind.i64.wrap (((T6).length : Int) - ((l6).length : Int)) = (pl : Int) := by rw [IntKind.wrap_i64]; omega
          have r4 : IntKind.i64.wrap (m : Int) = (m : Int) := by rw [IntKind.wrap_i64]; omega
          have p1 : (0 : Int) ≤ (pl : Int) := by omega
          have p2 : (pl : Int) ≤ ((T6).length : Int) := by omega
          have p3 : (T6).length - pl = (l6).length := by omega
          have GT := Lib.hid gt
          have GF := Lib.hid gf
          have GG := Lib.hid gg
          have P3 := Lib.hid p3
          have R1 := Lib.hid r1
          have R2 := Lib.hid r2
          have R3 := Lib.hid r3
          have R4 := Lib.hid r4
          clear gt gf gg p3 r1 r2 r3 r4 ht0 hpl hfr
          have HS6 := Lib.hid hS6
          clear hS6
          go_upto_region 18 with fail
          go_wp2_with fail
          (with_reducible refine (GT.out _ HS6.out).mono ?_)
          rintro e w7 ⟨rfl, hb⟩
          have h7 := HS6.out.below hb
          clear HS6 hb
          have H7 := Lib.hid h7
          clear h7
          go_wp2_with fail
          (with_reducible refine (GF.out _ H7.out).mono ?_)
          rintro e w8 ⟨rfl, hb⟩
          have h8 := H7.out.below hb
          clear H7 hb
          have H8 := Lib.hid h8
          clear h8
          go_upto_region 19 with fail
          obtain ⟨A, c, hv0, hnc⟩ := own_slice2 H8.out.2.1
          have r1 := R1.out
          have r2 := R2.out
          have r3 := R3.out
          have r4 := R4.out
          have p4 := P3.out
          have p5 : ((T6).length : Int) ≤ (c : Int) := by omega
          by_cases hcp : c = pl
          · have hl0 : (l6).length = 0 := by omega
            have hcv : ∀ W, (convert 42 9 (.slice A (l6).length 0)).run Try.prog W = .ok (.string ⟨(l6).toArray⟩) W := fun W => by
              rw [conv_none hl0, List.eq_nil_of_length_eq_zero hl0]
            have HCV := Lib.hid hcv
            clear hl0 hcv
            subst hv0
            have hSC := And.intro H8.out (HCV.out w8)
            obtain rfl := hcp
            go_region_held3 (fun W => St w b r m f0 base (.slice A (T6).length c) T6 l6 W ∧ (convert 42 9 (.slice A (l6).length 0)).run Try.prog W = .ok (.string ⟨(l6).toArray⟩) W) (first
              | exact (fun h => ⟨h, HCV.out _⟩) (St.drew (And.left (by assumption)))
              | exact (fun h => ⟨h, HCV.out _⟩) (St.below (And.left (by assumption)) hb)
              | exact (fun h => ⟨h, HCV.out _⟩) (St.drew (by assumption))
              | exact (fun h => ⟨h, HCV.out _⟩) (St.below (by assumption) hb)) (first
              | (go_at_call 21; with_reducible refine (GT.out _ ?_).mono ?_; (focus (first | assumption | exact And.left (by assumption))); rintro e w' ⟨rfl, hb⟩)
              | (go_at_call 20; with_reducible refine (GF.out _ ?_).mono ?_; (focus (first | assumption | exact And.left (by assumption))); rintro e w' ⟨rfl, hb⟩)
              | (go_at_call 16; with_reducible refine (GG.out _ ?_).mono ?_; (focus (first | assumption | exact And.left (by assumption))); rintro e w' ⟨rfl, hb⟩))
            go_wp2
            go_roundw
            case rel => exact ⟨k + 1, T6, l6, by omega, by go_num, hT6, by first | assumption | exact And.left (by assumption)⟩
            case measure => simp [intOf]; omega
          · rcases own_form H8.out.2.1 with ⟨hv, hn0⟩ | ⟨g, c', hv, _, _⟩
            · exfalso
              rw [hv0] at hv
              injection hv with _ _ hc0
              omega
            rw [hv0] at hv
            injection hv with hA _ hc'
            subst hA hc'
            have hform : ∀ W, St w b r m f0 base V6 T6 l6 W → ∀ (j : Nat) (hj : j < (l6).length), W.cell? ⟨g, pl + j, none⟩ = some (u8v (l6)[j]) := by
              intro W h j hj
              rcases own_form h.2.1 with ⟨hv, _⟩ | ⟨g', c', hv, _, hcell⟩
              · rw [hv0] at hv; cases hv
              · rw [hv0] at hv
                injection hv with hg _ _
                injection hg with hg
                injection hg with hg
                subst hg
                refine hcell (pl + j) _ ?_
                obtain ⟨⟨_, _, P, _, _, hT, _⟩, _⟩ := h
                have hPl : P.length = pl := by have := P3.out; have := congrArg List.length hT; rw [List.length_append] at this; omega
                rw [hT, List.getElem?_map, List.getElem?_append_right (by omega), show pl + j - P.length = j by omega, List.getElem?_eq_getElem hj]
                rfl
            have hcv : ∀ W, St w b r m f0 base V6 T6 l6 W → (convert 42 9 (.slice (some ⟨g, pl, none⟩) (l6).length (c - pl))).run Try.prog W = .ok (.string ⟨(l6).toArray⟩) W := fun W h => conv_end (hform W h)
            have HCV := Lib.hid hcv
            clear hform hcv
            have hSC := And.intro H8.out (HCV.out _ H8.out)
            subst hv0
            go_region_held3 (fun W => St w b r m f0 base (.slice (some ⟨g, 0, none⟩) (T6).length c) T6 l6 W ∧ (convert 42 9 (.slice (some ⟨g, pl, none⟩) (l6).length (c - pl))).run Try.prog W = .ok (.string ⟨(l6).toArray⟩) W) (first
              | exact (fun h => ⟨h, HCV.out _ h⟩) (St.drew (And.left (by assumption)))
              | exact (fun h => ⟨h, HCV.out _ h⟩) (St.below (And.left (by assumption)) hb)
              | exact (fun h => ⟨h, HCV.out _ h⟩) (St.drew (by assumption))
              | exact (fun h => ⟨h, HCV.out _ h⟩) (St.below (by assumption) hb)) (first
              | (go_at_call 21; with_reducible refine (GT.out _ ?_).mono ?_; (focus (first | assumption | exact And.left (by assumption))); rintro e w' ⟨rfl, hb⟩)
              | (go_at_call 20; with_reducible refine (GF.out _ ?_).mono ?_; (focus (first | assumption | exact And.left (by assumption))); rintro e w' ⟨rfl, hb⟩)
              | (go_at_call 16; with_reducible refine (GG.out _ ?_).mono ?_; (focus (first | assumption | exact And.left (by assumption))); rintro e w' ⟨rfl, hb⟩))
            go_wp2
            go_roundw
            case rel => exact ⟨k + 1, T6, l6, by omega, by go_num, hT6, by first | assumption | exact And.left (by assumption)⟩
            case measure => simp [intOf]; omega
      · clear hrows
        go_wp2_with fail
        (with_reducible refine (works_buf _).mono ?_)
        rintro e w5 ⟨rfl, hb5⟩
        go_wp2
        go_ret
        exact ⟨rfl, (HS.out.below hb5).2.2.1⟩
  · go_wp2_with fail
    (with_reducible refine (works_buf _).mono ?_)
    rintro e w5 ⟨rfl, hb5⟩
    go_wp2
    go_ret
    exact ⟨rfl, hb5⟩

theorem own : ownKnob Try.prog.godebug = none := by kernel_rfl
theorem laidOut : laidOutB Try.prog = true := by kernel_rfl
set_option maxRecDepth 100000 in
theorem lifted (os : Os) (started : os.Started) (H : Type) (enc : TypeId × Value → H) :
    ReturnsInHanded {} Try.checked os 4 .any (Rows.bufStreamSpec.pre6 enc Try.prog Try.f4 Rows.bufStreamRow.domain false) (Rows.bufStreamSpec.post enc Try.prog Try.f4 false true false false) := by
  refine returnsInHanded_of_change (C := Try.checked) own started (by kernel_rfl) Try.func4
    (ChangeSpec.witness6 (enc := enc) (C := Try.checked) false ⟨#[], #[.int .u64 0, .int .u16 0, .slice none 0 0], []⟩ 8 (by kernel_rfl) (by kernel_rfl) (by kernel_rfl) (by kernel_rfl)) ?_
  intro W base args ds gs before hval0 hW hcnd _
  have hval : ∀ (j : Nat) t v, Try.f4.params[j]? = some t → args[j]? = some v → Value.okWide Try.prog W .any base t v := hval0
  have hW' := hW
  obtain ⟨p, q, hA0, hV, rfl, hfz, hnd⟩ := hW
  have hA : DataW.TrodAll enc Try.prog W 0 (fun _ => true) true Try.f4.params.toList args.toList ds p := hA0
  rw [Try.params4] at hA hval
  obtain ⟨v0, vs0, d0, ds0, p0, q0, hargs, rfl, rfl, h0, r0⟩ := trodAll_cons hA
  obtain ⟨v1, vs1, d1, ds1, p1, q1, rfl, rfl, rfl, h1, r1⟩ := trodAll_cons r0
  obtain ⟨v2, vs2, d2, ds2, p2, q2, rfl, rfl, rfl, h2, r2⟩ := trodAll_cons r1
  obtain ⟨rfl, rfl, rfl⟩ := trodAll_nil r2
  obtain rfl : args = #[v0, v1, v2] := by cases args; simp_all
  obtain ⟨rfl, rfl⟩ := trodVars_none hV
  obtain ⟨a0, rfl, rfl, rfl, w0⟩ := open_int Try.underlying22 (hval 0 22 v0 rfl rfl) h0
  obtain ⟨a1, rfl, rfl, rfl, w1⟩ := open_int Try.underlying41 (hval 1 41 v1 rfl rfl) h1
  obtain ⟨a2, len2, cap2, rfl⟩ := okWide_slice Try.underlying23 (hval 2 23 v2 rfl rfl)
  have k2 := h2
  have lt2 : ∀ x ∈ p2, x.block < W.heap.size := by obtain ⟨m, hm⟩ := k2; exact DataW.trod_lt m _ _ _ hm
  have w2 : StrRows W [.inl .i64, .inr false, .inl .u64, .inl .i64] a2 len2 := str_rows Try.underlying23 Try.underlying34 (by kernel_rfl) (by kernel_rfl) (by kernel_rfl) (by decide) h2
  clear hA0 hval0
  refine (walk a0 a1 a2 len2 cap2 W w0 w1 w2).mono fun e W' ⟨he, bel⟩ => ?_
  subst he
  exact ⟨_, rfl, _, _, _, [], _, [], hW', trodAll_mk1 (shut_bool Try.underlying4 _), (trodAll_cons_mk (shut_int Try.underlying22 w0) (trodAll_cons_mk (shut_int Try.underlying41 w1) (trodAll_cons_mk (Below.trod laidOut (by kernel_rfl) (of_decide_eq_true (by kernel_rfl)) k2 bel lt2) trodAll_mk0))), rfl, bel.frame _, fun h => by cases h⟩

theorem over : Rows.bufStreamRow.holds Try.pinned (OpenSpec.ofChange Rows.bufStreamSpec) :=
  OpenClaim.holds_of_wide 4 Try.f4 rfl rfl rfl rfl rfl rfl rfl ⟨rfl, rfl, rfl, rfl, rfl⟩ rfl rfl rfl rfl rfl (by kernel_rfl) Try.func4 (by kernel_rfl)
    (of_decide_eq_true (by kernel_rfl)) (by unfold Func.isWrapper; first | (rw [if_pos (by decide +kernel)]; kernel_rfl) | (rw [if_neg (by decide +kernel)]; exact ⟨rfl, rfl⟩))
    (fun os started H enc _ => lifted os started H enc)

/-- THE STATEMENT -/
theorem proved : Rows.BufStreamSaid := over
#print axioms proved
end Go.Proofs.Ytbfmgdcnpefciaa.bufStream
