/- The statement BufPlays: what each call answers, and what is there, behind any calls, is as the document says; for any index, any most, any script. -/
import Derived.Test.YtbfmgdcnpefciaaBufHeavy
import Derived.Test.YtbfmgdcnpefciaaBufWorks
import Derived.Test.YtbfmgdcnpefciaaBufRefGet
import Derived.Test.YtbfmgdcnpefciaaClass
import Derived.Deep.RegionHeld3
set_option linter.unusedVariables false
set_option linter.unusedSimpArgs false
namespace Go.Proofs.Ytbfmgdcnpefciaa.bufPlays
open Go.ChangeShapes Go.WideShapes Go.ChangeAt Go.RowKit
open Go.ChangeMaps (open_string shut_string)
open Go.BigFrame

/-- the buffer has the bytes s1 from f1 on, the document's s2 from f2 on; the step lies in block x -/
def St (w : World) (b r g x m f1 : Nat) (s1 : ByteArray) (f2 : Nat) (s2 : ByteArray) (cs : Array Value) (W : World) : Prop :=
  (∃ R, R.length = m ∧ BufAt W b r f1 R s1.data.toList) ∧ (RefAt W g m f2 s2 ∧ s2.size ≤ m) ∧ Blk W x 34 cs ∧ Below w.heap.size w W ∧ (w.heap.size ≤ b ∧ w.heap.size ≤ r ∧ w.heap.size ≤ g) ∧ g ≠ b ∧ g ≠ r ∧ x ≠ b ∧ x ≠ r ∧ x ≠ g
section
variable {w W W' : World} {b r g x m f1 f2 : Nat} {s1 s2 : ByteArray} {cs : Array Value}
theorem St.below (h : St w b r g x m f1 s1 f2 s2 cs W) (hb : Below W.heap.size W W') : St w b r g x m f1 s1 f2 s2 cs W' := by
  obtain ⟨⟨R, e, hB⟩, ⟨hr, hz⟩, hx, hw, rest⟩ := h
  exact ⟨⟨R, e, hB.below_ hb⟩, ⟨Blk.below hr hb (Blk.lt hr), hz⟩, hx.below hb hx.lt, hw.trans (hb.mono hw.size), rest⟩
theorem St.drew (h : St w b r g x m f1 s1 f2 s2 cs W) : St w b r g x m f1 s1 f2 s2 cs W.drew := h.below (Below.drew (Below.refl _ _))
theorem St.drewN (h : St w b r g x m f1 s1 f2 s2 cs W) (n : Nat) : St w b r g x m f1 s1 f2 s2 cs (W.drewN n) := h.below (below_n _ _)
theorem St.le (h : St w b r g x m f1 s1 f2 s2 cs W) : s1.size ≤ m := by
  obtain ⟨⟨R, e, hB⟩, _⟩ := h
  have := hB.le
  have hll : s1.data.toList.length = s1.size := rfl
  omega
theorem St.m_le (h : St w b r g x m f1 s1 f2 s2 cs W) : m ≤ 65536 := by
  obtain ⟨⟨R, e, hB⟩, _⟩ := h
  have := hB.2.2.2
  omega
theorem app_list (s t : ByteArray) (n : Nat) (hn : n ≤ t.size) : s.data.toList ++ t.data.toList.take n = (s ++ t.extract 0 n).data.toList := by
  simp [ByteArray.data_append, ByteArray.data_extract]
theorem St.put (h : St w b r g x m f1 s1 f2 s2 cs W) (t : ByteArray) (ht : t.size ≤ maxLen) (hf : f1 ≤ 9223372036854775807) :
    Calls Try.prog 14 #[.pointer (some ⟨b, 0, none⟩), .string t] W fun e w' => e = .returned (.int .i64 ((min t.size (m - s1.size) : Nat) : Int)) ∧ St w b r g x m f1 (s1 ++ t.extract 0 (min t.size (m - s1.size))) f2 s2 cs w' := by
  obtain ⟨⟨R, e, hB⟩, ⟨hr, hz⟩, hx, hw, ⟨x1, x2, x3⟩, y1, y2, y3, y4, y5⟩ := h
  have hll : s1.data.toList.length = s1.size := rfl
  refine (put_at W b r f1 R s1.data.toList t (min t.size (m - s1.size)) hB ht hf (by rw [e, hll])).mono fun e' w' ⟨he, ⟨R', hR', hB'⟩, hK⟩ => ⟨he, ⟨R', by omega, ?_⟩, ⟨hK.blk hr y1 y2, hz⟩, hK.blk hx y3 y4, hw.trans (hK.below x1 x2 hw.size), ⟨x1, x2, x3⟩, y1, y2, y3, y4, y5⟩
  rw [app_list _ _ _ (by omega)] at hB'
  exact hB'
theorem St.get (h : St w b r g x m f1 s1 f2 s2 cs W) (q : Nat) (n : Int) (hf : f1 ≤ 9223372036854775807) (hq : q < 18446744073709551616) (n0 : -9223372036854775808 ≤ n) (n1 : n ≤ 9223372036854775807) :
    Calls Try.prog 16 #[.pointer (some ⟨b, 0, none⟩), .int .u64 (q : Int), .int .i64 n] W fun e w' => e = .returned (.string ⟨(getL f1 s1.data.toList q n).toArray⟩) ∧ Below W.heap.size W w' := by
  obtain ⟨⟨R, e, hB⟩, _⟩ := h
  exact get_at W b r f1 R _ q n hB hf hq n0 n1
theorem St.drop (h : St w b r g x m f1 s1 f2 s2 cs W) (q : Nat) (hf : f1 ≤ 9223372036854775807) (hq : q < 18446744073709551616) :
    Calls Try.prog 18 #[.pointer (some ⟨b, 0, none⟩), .int .u64 (q : Int)] W fun e w' => e = .returned (.int .i64 ((dropN f1 s1.data.toList q : Nat) : Int)) ∧ St w b r g x m (f1 + dropN f1 s1.data.toList q) (s1.extract (dropN f1 s1.data.toList q) s1.size) f2 s2 cs w' := by
  obtain ⟨⟨R, e, hB⟩, ⟨hr, hz⟩, hx, hw, ⟨x1, x2, x3⟩, y1, y2, y3, y4, y5⟩ := h
  refine (drop_at W b r f1 R s1.data.toList q hB hf hq).mono fun e' w' ⟨he, hB', hK⟩ => ⟨he, ⟨R, e, ?_⟩, ⟨hK.blk hr y1 y2, hz⟩, hK.blk hx y3 y4, hw.trans (hK.below x1 x2 hw.size), ⟨x1, x2, x3⟩, y1, y2, y3, y4, y5⟩
  have e2 : (s1.extract (dropN f1 s1.data.toList q) s1.size).data.toList = s1.data.toList.drop (dropN f1 s1.data.toList q) := by
    rw [ByteArray.data_extract, Array.toList_extract, List.extract_eq_take_drop]
    exact List.take_of_length_le (by simp)
  rw [e2]
  exact hB'
theorem St.grown (h : St w b r g x m f1 s1 f2 s2 cs W) (hg : W.grownBy W' (some g)) {f3 : Nat} {s3 : ByteArray} (hr' : RefAt W' g m f3 s3) (hz3 : s3.size ≤ m) : St w b r g x m f1 s1 f3 s3 cs W' := by
  obtain ⟨⟨R, e, hB⟩, ⟨hr, hz⟩, hx, hw, ⟨x1, x2, x3⟩, y1, y2, y3, y4, y5⟩ := h
  exact ⟨⟨R, e, Blk.grown hB.1 hg (by intro e; injection e with e; exact y1 e.symm), Blk.grown hB.2.1 hg (by intro e; injection e with e; exact y2 e.symm), hB.2.2⟩, ⟨hr', hz3⟩, hx.grown hg (by intro e; injection e with e; exact y5 e), below_only hw hg x3 hw.size, ⟨x1, x2, x3⟩, y1, y2, y3, y4, y5⟩
theorem St.rput (h : St w b r g x m f1 s1 f2 s2 cs W) (t : ByteArray) (ht : t.size ≤ maxLen) :
    Calls Try.prog 15 #[.pointer (some ⟨g, 0, none⟩), .string t] W fun e w' => e = .returned (.int .i64 ((min t.size (m - s2.size) : Nat) : Int)) ∧ St w b r g x m f1 s1 f2 (s2 ++ t.extract 0 (min t.size (m - s2.size))) cs w' := by
  refine (ref_put_at W g m f2 s2 t _ h.2.1.1 h.m_le h.2.1.2 ht rfl).mono fun e w' ⟨he, hr, hg⟩ => ⟨he, h.grown hg hr ?_⟩
  have := h.2.1.2
  simp
  omega
theorem St.rget (h : St w b r g x m f1 s1 f2 s2 cs W) (q : Nat) (n : Int) (hf : f2 ≤ 9223372036854775807) (hq : q < 18446744073709551616) (n0 : -9223372036854775808 ≤ n) (n1 : n ≤ 9223372036854775807) :
    Calls Try.prog 17 #[.pointer (some ⟨g, 0, none⟩), .int .u64 (q : Int), .int .i64 n] W fun e w' => e = .returned (.string ⟨(getL f2 s2.data.toList q n).toArray⟩) ∧ Below W.heap.size W w' :=
  (ref_get_at W g m f2 s2 q n h.2.1.1 (Nat.le_trans h.2.1.2 h.m_le) hf hq n0 n1).mono fun e w' ⟨he, k, hk⟩ => ⟨he, by rw [hk]; exact below_n W k⟩
theorem St.rdrop (h : St w b r g x m f1 s1 f2 s2 cs W) (q : Nat) (hf : f2 ≤ 9223372036854775807) (hq : q < 18446744073709551616) :
    Calls Try.prog 19 #[.pointer (some ⟨g, 0, none⟩), .int .u64 (q : Int)] W fun e w' => e = .returned (.int .i64 ((dropN f2 s2.data.toList q : Nat) : Int)) ∧ St w b r g x m f1 s1 (f2 + dropN f2 s2.data.toList q) (s2.extract (dropN f2 s2.data.toList q) s2.size) cs w' := by
  refine (ref_drop_at W g m f2 s2 q h.2.1.1 (Nat.le_trans h.2.1.2 h.m_le) hf hq).mono fun e w' ⟨he, hr, hg⟩ => ⟨he, h.grown hg hr ?_⟩
  have := h.2.1.2
  simp
  omega
theorem St.frm (h : St w b r g x m f1 s1 f2 s2 cs W) : Calls Try.prog 20 #[.pointer (some ⟨b, 0, none⟩)] W fun e w' => e = .returned (.int .u64 (f1 : Int)) ∧ Below W.heap.size W w' := by
  obtain ⟨⟨R, e, hB⟩, _⟩ := h
  exact (from_at W b r f1 R _ hB).mono fun e w' ⟨he, hw⟩ => ⟨he, by rw [← hw]; exact Below.refl _ _⟩
theorem St.to (h : St w b r g x m f1 s1 f2 s2 cs W) (hf : f1 ≤ 9223372036854775807) : Calls Try.prog 21 #[.pointer (some ⟨b, 0, none⟩)] W fun e w' => e = .returned (.int .u64 ((f1 + s1.size : Nat) : Int)) ∧ Below W.heap.size W w' := by
  have hm := h.m_le
  have hle := h.le
  obtain ⟨⟨R, e, hB⟩, _⟩ := h
  have hll : s1.data.toList.length = s1.size := rfl
  exact (to_at W b r f1 R _ hB (by omega)).mono fun e w' ⟨he, k, hw⟩ => ⟨he, by rw [hw]; exact below_n W k⟩
theorem St.room (h : St w b r g x m f1 s1 f2 s2 cs W) : Calls Try.prog 22 #[.pointer (some ⟨b, 0, none⟩)] W fun e w' => e = .returned (.int .i64 ((m - s1.size : Nat) : Int)) ∧ Below W.heap.size W w' := by
  obtain ⟨⟨R, e, hB⟩, _⟩ := h
  subst e
  exact (room_at W b r f1 R _ hB).mono fun e w' ⟨he, k, hw⟩ => ⟨he, by rw [hw]; exact below_n W k⟩
theorem St.c1 (h : St w b r g x m f1 s1 f2 s2 cs W) : W.cell? ⟨g, 1, none⟩ = some (.int .u64 (f2 : Int)) := h.2.1.1.c1
theorem St.c2 (h : St w b r g x m f1 s1 f2 s2 cs W) : W.cell? ⟨g, 2, none⟩ = some (.string s2) := h.2.1.1.c2
end
section
variable {w W W' : World} {b r g x m f1 f2 : Nat} {s1 s2 t : ByteArray} {d q n : Int}
theorem St.x1 (h : St w b r g x m f1 s1 f2 s2 #[.int .i64 d, .string t, .int .u64 q, .int .i64 n] W) : W.cell? ⟨x, 1, none⟩ = some (.string t) := by have := h.2.2.1.cell 1; simpa using this
theorem St.x2 (h : St w b r g x m f1 s1 f2 s2 #[.int .i64 d, .string t, .int .u64 q, .int .i64 n] W) : W.cell? ⟨x, 2, none⟩ = some (.int .u64 q) := by have := h.2.2.1.cell 2; simpa using this
theorem St.x3 (h : St w b r g x m f1 s1 f2 s2 #[.int .i64 d, .string t, .int .u64 q, .int .i64 n] W) : W.cell? ⟨x, 3, none⟩ = some (.int .i64 n) := by have := h.2.2.1.cell 3; simpa using this
end
/-- between the steps -/
def Core (w : World) (b r g m f : Nat) (s : ByteArray) (W : World) : Prop :=
  (∃ R, R.length = m ∧ BufAt W b r f R s.data.toList) ∧ (RefAt W g m f s ∧ s.size ≤ m) ∧ Below w.heap.size w W ∧ (w.heap.size ≤ b ∧ w.heap.size ≤ r ∧ w.heap.size ≤ g) ∧ g ≠ b ∧ g ≠ r
theorem St.core {w W : World} {b r g x m f : Nat} {s : ByteArray} {cs : Array Value} (h : St w b r g x m f s f s cs W) : Core w b r g m f s W := by
  obtain ⟨h1, h2, _, h4, h5, h6, h7, _⟩ := h
  exact ⟨h1, h2, h4, h5, h6, h7⟩
theorem Core.box {w W : World} {b r g m f : Nat} {s : ByteArray} (h : Core w b r g m f s W) (cs : Array Value) : St w b r g W.heap.size m f s f s cs (W.alloc (.cells cs 34)) := by
  obtain ⟨⟨R, e, hB⟩, ⟨hr, hz⟩, hw, hx, h6, h7⟩ := h
  have l1 := hB.lt
  have l2 := Blk.lt hr
  exact ⟨⟨R, e, Blk.alloc hB.1 _, Blk.alloc hB.2.1 _, hB.2.2⟩, ⟨Blk.alloc hr _, hz⟩, Blk.new W _ cs, hw.alloc hw.size _, hx, h6, h7, by omega, by omega, by omega⟩
theorem step_bound {f f0 k dn : Nat} (h : f ≤ f0 + k * 65536) (hd : dn ≤ 65536) : f + dn ≤ f0 + (k + 1) * 65536 := by omega
theorem getL_most (f m : Nat) (s : ByteArray) (h : s.size ≤ m) : (⟨(getL f s.data.toList f (m : Int)).toArray⟩ : ByteArray) = s := by
  have hll : s.data.toList.length = s.size := rfl
  have e : getL f s.data.toList f (m : Int) = s.data.toList := by
    unfold getL
    by_cases h0 : s.size = 0
    · have : s.data.toList = [] := List.eq_nil_of_length_eq_zero (by omega)
      rw [this]; simp
    · rw [if_neg (by omega), Nat.sub_self, List.drop_zero, Int.toNat_natCast, List.take_of_length_le (by omega)]
  rw [e]

set_option maxRecDepth 100000 in
set_option maxHeartbeats 4000000 in
theorem walk (a0 a1 : Int) (a2 : Option Addr) (len2 cap2 : Nat) (w : World) (w0 : (Lit.int .u64 a0).wf = true) (w1 : (Lit.int .i64 a1).wf = true) (w2 : StrRows w [.inl .i64, .inr false, .inl .u64, .inl .i64] a2 len2) :
    Calls Try.prog 3 #[.int .u64 a0, .int .i64 a1, .slice a2 len2 cap2] w fun e w' => e = .returned (.bool true) ∧ Below w.heap.size w w' := by
  obtain ⟨l0, g0⟩ := bounds_u64 w0
  obtain ⟨l1, g1⟩ := bounds_i64 w1
  clear w0 w1
  have hlm := w2.1
  unfold maxLen at hlm
  have W2 := Lib.hid w2
  clear w2
  by_cases hbad : ¬ (a0 ≤ 4611686018427387904 ∧ 0 ≤ a1 ∧ a1 ≤ 65536)
  · have HB := Lib.hid hbad
    go_enter Try.func3, Try.ntmps3
    go_wp2_with fail
    (with_reducible refine (heavy_buf a2 len2 cap2 w W2.out).mono ?_)
    rintro e w1 ⟨hv, hh, rfl, rfl⟩
    cases hv
    · clear hh hbad
      go_wp2_with fail
      (with_reducible refine (new_bad a0 a1 w HB.out (by omega) (by omega) (by omega) (by omega)).mono ?_)
      rintro e w' ⟨rfl, rfl⟩
      by_cases c1 : 4611686018427387904 < a0
      · go_wp2_with fail
        (with_reducible refine (works_buf _).mono ?_)
        rintro e w5 ⟨rfl, hb5⟩
        go_wp2
        go_ret
        exact ⟨rfl, hb5⟩
      · by_cases c2 : a1 < 0
        · go_wp2_with fail
          (with_reducible refine (works_buf _).mono ?_)
          rintro e w5 ⟨rfl, hb5⟩
          go_wp2
          go_ret
          exact ⟨rfl, hb5⟩
        · have c3 : 65536 < a1 := by have := HB.out; omega
          go_wp2_with fail
          (with_reducible refine (works_buf _).mono ?_)
          rintro e w5 ⟨rfl, hb5⟩
          go_wp2
          go_ret
          exact ⟨rfl, hb5⟩
    · go_wp2_with fail
      (with_reducible refine (works_buf _).mono ?_)
      rintro e w5 ⟨rfl, hb5⟩
      go_wp2
      go_ret
      exact ⟨rfl, hb5⟩
  · have hok : a0 ≤ 4611686018427387904 ∧ 0 ≤ a1 ∧ a1 ≤ 65536 := Classical.not_not.1 hbad
    clear hbad
    obtain ⟨o1, o2, o3⟩ := hok
    obtain ⟨m, rfl⟩ : ∃ m : Nat, a1 = (m : Int) := ⟨a1.toNat, by omega⟩
    obtain ⟨f0, rfl⟩ : ∃ f0 : Nat, a0 = (f0 : Int) := ⟨a0.toNat, by omega⟩
    go_enter Try.func3, Try.ntmps3
    go_wp2_with fail
    (with_reducible refine (heavy_buf a2 len2 cap2 w W2.out).mono ?_)
    rintro e w1 ⟨hv, hh, rfl, rfl⟩
    cases hv
    · have hn := hh rfl
      clear hh
      go_wp2_with fail
      (with_reducible refine (new_ok f0 m _ (by omega) (by omega)).mono ?_)
      rintro e w3 ⟨rfl, hA, hB3, hs3⟩
      obtain ⟨b, hb⟩ : ∃ b, b = w.heap.size + 1 := ⟨_, rfl⟩
      obtain ⟨r, hr⟩ : ∃ r, r = w.heap.size := ⟨_, rfl⟩
      rw [← hb, ← hr] at hA
      rw [← hb]
      have hS0 : Core w b r w3.heap.size m f0 ByteArray.empty (w3.alloc (.cells #[.int .i64 (m : Int), .int .u64 (f0 : Int), .string ByteArray.empty] 32)) := by
        have l1 := hA.lt
        exact ⟨⟨_, by simp, Blk.alloc hA.1 _, Blk.alloc hA.2.1 _, hA.2.2⟩, ⟨Blk.new _ _ _, by simp⟩, hB3.alloc hB3.size _, by omega, by omega, by omega⟩
      obtain ⟨g, hg⟩ : ∃ g, g = w3.heap.size := ⟨_, rfl⟩
      rw [← hg] at hS0
      clear hA hB3 hs3 hb hr
      have HS0 := Lib.hid hS0
      clear hS0
      go_wp2_with fail
      rw [← hg]
      clear hg
      go_loopw [10] (fun i wr => ∃ (k f : Nat) (s : ByteArray), k ≤ len2 ∧ i = .int .i64 k ∧ f ≤ f0 + k * 65536 ∧ Core w b r g m f s wr) (fun i _ => len2 - (intOf i).toNat)
      case atStart => exact ⟨0, f0, ByteArray.empty, Nat.zero_le _, rfl, by omega, HS0.out⟩
      case round =>
        obtain ⟨k, f, s, hk, rfl, hfk, hC⟩ := hrel
        clear HS0
        have hrows := W2.out.below hC.2.2.1
        have HC := Lib.hid hC
        clear hC
        by_cases hlt : k < len2
        · obtain ⟨xb, xo, rfl, hxl, hcell⟩ := hrows.2 k hlt
          obtain ⟨v0, q0, d, rfl, hd⟩ := hcell 0 _ rfl
          obtain ⟨v1, q1, t, rfl, ht⟩ := hcell 1 _ rfl
          obtain ⟨v2, q2, q, rfl, hq⟩ := hcell 2 _ rfl
          obtain ⟨v3, q3, n, rfl, hn3⟩ := hcell 3 _ rfl
          clear hrows hcell hxl
          simp only [List.length_cons, List.length_nil, Nat.zero_add, Nat.reduceAdd, Nat.add_zero] at q0 q1 q2 q3
          have e1 : decide (k < len2) = true := decide_eq_true hlt
          obtain ⟨lq, gq⟩ := bounds_u64 hq
          obtain ⟨ln, gn⟩ := bounds_i64 hn3
          obtain ⟨q', rfl⟩ : ∃ q' : Nat, q = (q' : Int) := ⟨q.toNat, by omega⟩
          have hfb : f ≤ 9223372036854775807 := by omega
          have HFN := Lib.hid (step_bound (dn := 0) hfk (Nat.zero_le _))
          have HFD := Lib.hid (show ∀ dn, dn ≤ 65536 → f + dn ≤ 9223372036854775807 ∧ f + dn ≤ f0 + (k + 1) * 65536  from fun dn h => ⟨by omega, step_bound hfk h⟩)
          clear hfk
          have hqb : q' < 18446744073709551616 := by omega
          clear hq hn3 lq gq hd
          have hS := HC.out.box #[.int .i64 d, .string t, .int .u64 (q' : Int), .int .i64 n]
          obtain ⟨x, hx⟩ : ∃ x, x = wr.heap.size := ⟨_, rfl⟩
          rw [← hx] at hS
          clear HC
          have HS := Lib.hid hS
          clear hS
          by_cases h0 : d = 0
          · subst h0
            go_upto_region 16 with fail
            rw [← hx]
            have hS := HS.out
            generalize wr.alloc _ = W1 at *
            clear hx HS q0 q1 q2 q3
            have gp := fun W (h : St w b r g x m f s f s #[.int .i64 0, .string t, .int .u64 (q' : Int), .int .i64 n] W) => h.put t ht hfb
            have gq := fun W (h : St w b r g x m f (s ++ t.extract 0 (min t.size (m - s.size))) f s #[.int .i64 0, .string t, .int .u64 (q' : Int), .int .i64 n] W) => h.rput t ht
            have GP := Lib.hid gp
            have GQ := Lib.hid gq
            clear gp gq
            generalize s ++ t.extract 0 (min t.size (m - s.size)) = s6 at *
            generalize min t.size (m - s.size) = nn at *
            have hx1 := hS.x1
            go_region_held3 (fun W => W.cell? ⟨x, 1, none⟩ = some (.string t)) (first | assumption | exact St.x1 (by assumption)) (first
              | (go_at_call 14; with_reducible refine (GP.out _ ?_).mono ?_; (focus (first | assumption | exact St.drew (by assumption))); rintro e w' ⟨rfl, h6⟩)
              | (go_at_call 15; with_reducible refine (GQ.out _ ?_).mono ?_; (focus (first | assumption | exact St.drew (by assumption))); rintro e w' ⟨rfl, h7⟩))
            have hS := (by assumption : St w b r g x m f s6 f s6 #[.int .i64 0, .string t, .int .u64 (q' : Int), .int .i64 n] _)
            have hf6 := hfb
            have HF7 := HFN
            clear hx1 GP GQ
            have hle := hS.le
            have hm6 := hS.m_le
            have gf := fun W (h : St w b r g x m f s6 f s6 #[.int .i64 0, .string t, .int .u64 (q' : Int), .int .i64 n] W) => h.frm
            have gt := fun W (h : St w b r g x m f s6 f s6 #[.int .i64 0, .string t, .int .u64 (q' : Int), .int .i64 n] W) => h.to hf6
            have gr := fun W (h : St w b r g x m f s6 f s6 #[.int .i64 0, .string t, .int .u64 (q' : Int), .int .i64 n] W) => h.room
            have gg := fun W (h : St w b r g x m f s6 f s6 #[.int .i64 0, .string t, .int .u64 (q' : Int), .int .i64 n] W) => h.get f (m : Int) hf6 (by omega) (by omega) (by omega)
            rw [getL_most f m s6 hle] at gg
            obtain ⟨t0, ht0⟩ : ∃ t0, t0 = f + (s6).size := ⟨_, rfl⟩
            obtain ⟨rm, hrm⟩ : ∃ rm, rm = m - (s6).size := ⟨_, rfl⟩
            rw [← ht0] at gt
            rw [← hrm] at gr
            have r1 : IntKind.u64.wrap ((s6).size : Int) = ((s6).size : Int) := by rw [IntKind.wrap_u64]; omega
            have r2 : IntKind.u64.wrap ((f : Int) + ((s6).size : Int)) = (t0 : Int) := by rw [IntKind.wrap_u64]; omega
            have r3 : IntKind.i64.wrap ((m : Int) - ((s6).size : Int)) = (rm : Int) := by rw [IntKind.wrap_i64]; omega
            have GF := Lib.hid gf
            have GT := Lib.hid gt
            have GR := Lib.hid gr
            have GG := Lib.hid gg
            clear gf gt gr gg ht0 hrm
            go_upto_region 21 with fail
            have k1 : ∀ x : Cls (St w b r g x m f s6 f s6 #[.int .i64 0, .string t, .int .u64 (q' : Int), .int .i64 n]), x.w.cell? ⟨g, 1, none⟩ = some (.int .u64 (f : Int)) := fun x => x.h.c1
            have k2 : ∀ x : Cls (St w b r g x m f s6 f s6 #[.int .i64 0, .string t, .int .u64 (q' : Int), .int .i64 n]), x.w.cell? ⟨g, 2, none⟩ = some (.string s6) := fun x => x.h.c2
            refine wp_region_class (St w b r g x m f s6 f s6 #[.int .i64 0, .string t, .int .u64 (q' : Int), .int .i64 n]) (by kernel_rfl) (by kernel_rfl) hS.drew ?_
            have ne : Nonempty (Cls (St w b r g x m f s6 f s6 #[.int .i64 0, .string t, .int .u64 (q' : Int), .int .i64 n])) := ⟨⟨_, hS.drew⟩⟩
            clear hS
            repeat (go_big_quiet_step (first
              | (go_at_call 21; exact cls_call (fun _ _ h hb => h.below hb) _ (GT.out _ (Cls.h _)))
              | (go_at_call 20; exact cls_call (fun _ _ h hb => h.below hb) _ (GF.out _ (Cls.h _)))
              | (go_at_call 22; exact cls_call (fun _ _ h hb => h.below hb) _ (GR.out _ (Cls.h _)))
              | (go_at_call 16; exact cls_call (fun _ _ h hb => h.below hb) _ (GG.out _ (Cls.h _)))))
            refine wpQuiet_nil ?_
            intro W6 hW6
            replace hW6 := cls_out hW6
            clear k1 k2 ne
            go_wp2
            go_roundw
            case rel => exact ⟨k + 1, f, s6, by omega, by go_num, HF7.out, hW6.core⟩
            case measure => simp [intOf]; omega
          · have e2 : (d == 0) = false := by rw [beq_eq_false_iff_ne]; exact h0
            by_cases h1 : d = 1
            · subst h1
              clear h0
              go_upto_region 18 with fail
              rw [← hx]
              have hS := HS.out
              generalize wr.alloc _ = W1 at *
              clear hx HS q0 q1 q2 q3
              have gp := fun W (h : St w b r g x m f s f s #[.int .i64 1, .string t, .int .u64 (q' : Int), .int .i64 n] W) => h.get q' n hfb hqb ln gn
              have gq := fun W (h : St w b r g x m f s f s #[.int .i64 1, .string t, .int .u64 (q' : Int), .int .i64 n] W) => h.rget q' n hfb hqb ln gn
              have GP := Lib.hid gp
              have GQ := Lib.hid gq
              clear gp gq
              generalize (⟨(getL f s.data.toList q' n).toArray⟩ : ByteArray) = ans at *
              have k2 : ∀ y : Cls (St w b r g x m f s f s #[.int .i64 1, .string t, .int .u64 (q' : Int), .int .i64 n]), y.w.cell? ⟨x, 2, none⟩ = some (.int .u64 (q' : Int)) := fun y => y.h.x2
              have k3 : ∀ y : Cls (St w b r g x m f s f s #[.int .i64 1, .string t, .int .u64 (q' : Int), .int .i64 n]), y.w.cell? ⟨x, 3, none⟩ = some (.int .i64 n) := fun y => y.h.x3
              refine wp_region_class (St w b r g x m f s f s #[.int .i64 1, .string t, .int .u64 (q' : Int), .int .i64 n]) (by kernel_rfl) (by kernel_rfl) hS.drew ?_
              have ne : Nonempty (Cls (St w b r g x m f s f s #[.int .i64 1, .string t, .int .u64 (q' : Int), .int .i64 n])) := ⟨⟨_, hS.drew⟩⟩
              clear hS
              repeat (go_big_quiet_step (first
                | (go_at_call 16; exact cls_call (fun _ _ h hb => h.below hb) _ (GP.out _ (Cls.h _)))
                | (go_at_call 17; exact cls_call (fun _ _ h hb => h.below hb) _ (GQ.out _ (Cls.h _)))))
              refine wpQuiet_nil ?_
              intro W5 hW5
              have hS := cls_out hW5
              clear hW5 k2 k3 ne
              have hf6 := hfb
              have HF7 := HFN
              clear GP GQ
              have hle := hS.le
              have hm6 := hS.m_le
              have gf := fun W (h : St w b r g x m f s f s #[.int .i64 1, .string t, .int .u64 (q' : Int), .int .i64 n] W) => h.frm
              have gt := fun W (h : St w b r g x m f s f s #[.int .i64 1, .string t, .int .u64 (q' : Int), .int .i64 n] W) => h.to hf6
              have gr := fun W (h : St w b r g x m f s f s #[.int .i64 1, .string t, .int .u64 (q' : Int), .int .i64 n] W) => h.room
              have gg := fun W (h : St w b r g x m f s f s #[.int .i64 1, .string t, .int .u64 (q' : Int), .int .i64 n] W) => h.get f (m : Int) hf6 (by omega) (by omega) (by omega)
              rw [getL_most f m s hle] at gg
              obtain ⟨t0, ht0⟩ : ∃ t0, t0 = f + (s).size := ⟨_, rfl⟩
              obtain ⟨rm, hrm⟩ : ∃ rm, rm = m - (s).size := ⟨_, rfl⟩
              rw [← ht0] at gt
              rw [← hrm] at gr
              have r1 : IntKind.u64.wrap ((s).size : Int) = ((s).size : Int) := by rw [IntKind.wrap_u64]; omega
              have r2 : IntKind.u64.wrap ((f : Int) + ((s).size : Int)) = (t0 : Int) := by rw [IntKind.wrap_u64]; omega
              have r3 : IntKind.i64.wrap ((m : Int) - ((s).size : Int)) = (rm : Int) := by rw [IntKind.wrap_i64]; omega
              have GF := Lib.hid gf
              have GT := Lib.hid gt
              have GR := Lib.hid gr
              have GG := Lib.hid gg
              clear gf gt gr gg ht0 hrm
              go_upto_region 21 with fail
              have k1 : ∀ x : Cls (St w b r g x m f s f s #[.int .i64 1, .string t, .int .u64 (q' : Int), .int .i64 n]), x.w.cell? ⟨g, 1, none⟩ = some (.int .u64 (f : Int)) := fun x => x.h.c1
              have k2 : ∀ x : Cls (St w b r g x m f s f s #[.int .i64 1, .string t, .int .u64 (q' : Int), .int .i64 n]), x.w.cell? ⟨g, 2, none⟩ = some (.string s) := fun x => x.h.c2
              refine wp_region_class (St w b r g x m f s f s #[.int .i64 1, .string t, .int .u64 (q' : Int), .int .i64 n]) (by kernel_rfl) (by kernel_rfl) hS.drew ?_
              have ne : Nonempty (Cls (St w b r g x m f s f s #[.int .i64 1, .string t, .int .u64 (q' : Int), .int .i64 n])) := ⟨⟨_, hS.drew⟩⟩
              clear hS
              repeat (go_big_quiet_step (first
                | (go_at_call 21; exact cls_call (fun _ _ h hb => h.below hb) _ (GT.out _ (Cls.h _)))
                | (go_at_call 20; exact cls_call (fun _ _ h hb => h.below hb) _ (GF.out _ (Cls.h _)))
                | (go_at_call 22; exact cls_call (fun _ _ h hb => h.below hb) _ (GR.out _ (Cls.h _)))
                | (go_at_call 16; exact cls_call (fun _ _ h hb => h.below hb) _ (GG.out _ (Cls.h _)))))
              refine wpQuiet_nil ?_
              intro W6 hW6
              replace hW6 := cls_out hW6
              clear k1 k2 ne
              go_wp2
              go_roundw
              case rel => exact ⟨k + 1, f, s, by omega, by go_num, HF7.out, hW6.core⟩
              case measure => simp [intOf]; omega
            by_cases h2 : d = 2
            · subst h2
              clear h0 h1
              go_upto_region 20 with fail
              rw [← hx]
              have hS := HS.out
              generalize wr.alloc _ = W1 at *
              clear hx HS q0 q1 q2 q3
              obtain ⟨dn, hdn⟩ : ∃ dn, dn = dropN f s.data.toList q' := ⟨_, rfl⟩
              have hdl : dn ≤ m := by rw [hdn]; exact Nat.le_trans (dropN_le _ _ _) hS.le
              have hml := hS.m_le
              have gp := fun W (h : St w b r g x m f s f s #[.int .i64 2, .string t, .int .u64 (q' : Int), .int .i64 n] W) => h.drop q' hfb hqb
              have gq := fun W (h : St w b r g x m (f + dn) (s.extract dn s.size) f s #[.int .i64 2, .string t, .int .u64 (q' : Int), .int .i64 n] W) => h.rdrop q' hfb hqb
              rw [← hdn] at gp gq
              have GP := Lib.hid gp
              have GQ := Lib.hid gq
              clear gp gq hdn
              generalize s.extract dn s.size = s6 at *
              have hf6e := HFD.out dn (Nat.le_trans hdl hml)
              generalize f + dn = f6 at *
              have HF6 := Lib.hid hf6e
              clear hf6e
              have hx1 := hS.x2
              go_region_held3 (fun W => W.cell? ⟨x, 2, none⟩ = some (.int .u64 (q' : Int))) (first | assumption | exact St.x2 (by assumption)) (first
                | (go_at_call 18; with_reducible refine (GP.out _ ?_).mono ?_; (focus (first | assumption | exact St.drew (by assumption))); rintro e w' ⟨rfl, h6⟩)
                | (go_at_call 19; with_reducible refine (GQ.out _ ?_).mono ?_; (focus (first | assumption | exact St.drew (by assumption))); rintro e w' ⟨rfl, h7⟩))
              have hS := (by assumption : St w b r g x m f6 s6 f6 s6 #[.int .i64 2, .string t, .int .u64 (q' : Int), .int .i64 n] _)
              have hf6 := HF6.out.1
              have HF7 := Lib.hid HF6.out.2
              clear hx1 GP GQ
              have hle := hS.le
              have hm6 := hS.m_le
              have gf := fun W (h : St w b r g x m f6 s6 f6 s6 #[.int .i64 2, .string t, .int .u64 (q' : Int), .int .i64 n] W) => h.frm
              have gt := fun W (h : St w b r g x m f6 s6 f6 s6 #[.int .i64 2, .string t, .int .u64 (q' : Int), .int .i64 n] W) => h.to hf6
              have gr := fun W (h : St w b r g x m f6 s6 f6 s6 #[.int .i64 2, .string t, .int .u64 (q' : Int), .int .i64 n] W) => h.room
              have gg := fun W (h : St w b r g x m f6 s6 f6 s6 #[.int .i64 2, .string t, .int .u64 (q' : Int), .int .i64 n] W) => h.get f6 (m : Int) hf6 (by omega) (by omega) (by omega)
              rw [getL_most f6 m s6 hle] at gg
              obtain ⟨t0, ht0⟩ : ∃ t0, t0 = f6 + (s6).size := ⟨_, rfl⟩
              obtain ⟨rm, hrm⟩ : ∃ rm, rm = m - (s6).size := ⟨_, rfl⟩
              rw [← ht0] at gt
              rw [← hrm] at gr
              have r1 : IntKind.u64.wrap ((s6).size : Int) = ((s6).size : Int) := by rw [IntKind.wrap_u64]; omega
              have r2 : IntKind.u64.wrap ((f6 : Int) + ((s6).size : Int)) = (t0 : Int) := by rw [IntKind.wrap_u64]; omega
              have r3 : IntKind.i64.wrap ((m : Int) - ((s6).size : Int)) = (rm : Int) := by rw [IntKind.wrap_i64]; omega
              have GF := Lib.hid gf
              have GT := Lib.hid gt
              have GR := Lib.hid gr
              have GG := Lib.hid gg
              clear gf gt gr gg ht0 hrm
              go_upto_region 21 with fail
              have k1 : ∀ x : Cls (St w b r g x m f6 s6 f6 s6 #[.int .i64 2, .string t, .int .u64 (q' : Int), .int .i64 n]), x.w.cell? ⟨g, 1, none⟩ = some (.int .u64 (f6 : Int)) := fun x => x.h.c1
              have k2 : ∀ x : Cls (St w b r g x m f6 s6 f6 s6 #[.int .i64 2, .string t, .int .u64 (q' : Int), .int .i64 n]), x.w.cell? ⟨g, 2, none⟩ = some (.string s6) := fun x => x.h.c2
              refine wp_region_class (St w b r g x m f6 s6 f6 s6 #[.int .i64 2, .string t, .int .u64 (q' : Int), .int .i64 n]) (by kernel_rfl) (by kernel_rfl) hS.drew ?_
              have ne : Nonempty (Cls (St w b r g x m f6 s6 f6 s6 #[.int .i64 2, .string t, .int .u64 (q' : Int), .int .i64 n])) := ⟨⟨_, hS.drew⟩⟩
              clear hS
              repeat (go_big_quiet_step (first
                | (go_at_call 21; exact cls_call (fun _ _ h hb => h.below hb) _ (GT.out _ (Cls.h _)))
                | (go_at_call 20; exact cls_call (fun _ _ h hb => h.below hb) _ (GF.out _ (Cls.h _)))
                | (go_at_call 22; exact cls_call (fun _ _ h hb => h.below hb) _ (GR.out _ (Cls.h _)))
                | (go_at_call 16; exact cls_call (fun _ _ h hb => h.below hb) _ (GG.out _ (Cls.h _)))))
              refine wpQuiet_nil ?_
              intro W6 hW6
              replace hW6 := cls_out hW6
              clear k1 k2 ne
              go_wp2
              go_roundw
              case rel => exact ⟨k + 1, f6, s6, by omega, by go_num, HF7.out, hW6.core⟩
              case measure => simp [intOf]; omega
            have e3 : (d == 1) = false := by rw [beq_eq_false_iff_ne]; exact h1
            have e4 : (d == 2) = false := by rw [beq_eq_false_iff_ne]; exact h2
            clear h0 h1 h2
            go_upto_region 21 with fail
            rw [← hx]
            have hS := HS.out
            generalize wr.alloc _ = W1 at *
            clear hx HS q0 q1 q2 q3
            have hf6 := hfb
            have HF7 := HFN
            have hle := hS.le
            have hm6 := hS.m_le
            have gf := fun W (h : St w b r g x m f s f s #[.int .i64 d, .string t, .int .u64 (q' : Int), .int .i64 n] W) => h.frm
            have gt := fun W (h : St w b r g x m f s f s #[.int .i64 d, .string t, .int .u64 (q' : Int), .int .i64 n] W) => h.to hf6
            have gr := fun W (h : St w b r g x m f s f s #[.int .i64 d, .string t, .int .u64 (q' : Int), .int .i64 n] W) => h.room
            have gg := fun W (h : St w b r g x m f s f s #[.int .i64 d, .string t, .int .u64 (q' : Int), .int .i64 n] W) => h.get f (m : Int) hf6 (by omega) (by omega) (by omega)
            rw [getL_most f m s hle] at gg
            obtain ⟨t0, ht0⟩ : ∃ t0, t0 = f + (s).size := ⟨_, rfl⟩
            obtain ⟨rm, hrm⟩ : ∃ rm, rm = m - (s).size := ⟨_, rfl⟩
            rw [← ht0] at gt
            rw [← hrm] at gr
            have r1 : IntKind.u64.wrap ((s).size : Int) = ((s).size : Int) := by rw [IntKind.wrap_u64]; omega
            have r2 : IntKind.u64.wrap ((f : Int) + ((s).size : Int)) = (t0 : Int) := by rw [IntKind.wrap_u64]; omega
            have r3 : IntKind.i64.wrap ((m : Int) - ((s).size : Int)) = (rm : Int) := by rw [IntKind.wrap_i64]; omega
            have GF := Lib.hid gf
            have GT := Lib.hid gt
            have GR := Lib.hid gr
            have GG := Lib.hid gg
            clear gf gt gr gg ht0 hrm
            go_upto_region 21 with fail
            have k1 : ∀ x : Cls (St w b r g x m f s f s #[.int .i64 d, .string t, .int .u64 (q' : Int), .int .i64 n]), x.w.cell? ⟨g, 1, none⟩ = some (.int .u64 (f : Int)) := fun x => x.h.c1
            have k2 : ∀ x : Cls (St w b r g x m f s f s #[.int .i64 d, .string t, .int .u64 (q' : Int), .int .i64 n]), x.w.cell? ⟨g, 2, none⟩ = some (.string s) := fun x => x.h.c2
            refine wp_region_class (St w b r g x m f s f s #[.int .i64 d, .string t, .int .u64 (q' : Int), .int .i64 n]) (by kernel_rfl) (by kernel_rfl) hS.drew ?_
            have ne : Nonempty (Cls (St w b r g x m f s f s #[.int .i64 d, .string t, .int .u64 (q' : Int), .int .i64 n])) := ⟨⟨_, hS.drew⟩⟩
            clear hS
            repeat (go_big_quiet_step (first
              | (go_at_call 21; exact cls_call (fun _ _ h hb => h.below hb) _ (GT.out _ (Cls.h _)))
              | (go_at_call 20; exact cls_call (fun _ _ h hb => h.below hb) _ (GF.out _ (Cls.h _)))
              | (go_at_call 22; exact cls_call (fun _ _ h hb => h.below hb) _ (GR.out _ (Cls.h _)))
              | (go_at_call 16; exact cls_call (fun _ _ h hb => h.below hb) _ (GG.out _ (Cls.h _)))))
            refine wpQuiet_nil ?_
            intro W6 hW6
            replace hW6 := cls_out hW6
            clear k1 k2 ne
            go_wp2
            go_roundw
            case rel => exact ⟨k + 1, f, s, by omega, by go_num, HF7.out, hW6.core⟩
            case measure => simp [intOf]; omega
        · clear hrows
          go_wp2_with fail
          (with_reducible refine (works_buf _).mono ?_)
          rintro e w5 ⟨rfl, hb5⟩
          go_wp2
          go_ret
          exact ⟨rfl, HC.out.2.2.1.trans (hb5.mono HC.out.2.2.1.size)⟩
    · go_wp2_with fail
      (with_reducible refine (works_buf _).mono ?_)
      rintro e w5 ⟨rfl, hb5⟩
      go_wp2
      go_ret
      exact ⟨rfl, hb5⟩

theorem own : ownKnob Try.prog.godebug = none := by kernel_rfl
theorem laidOut : laidOutB Try.prog = true := by kernel_rfl
set_option maxRecDepth 100000 in
theorem lifted (os : Os) (started : os.Started) (H : Type) (enc : TypeId × Value → H) :
    ReturnsInHanded {} Try.checked os 3 .any (Rows.bufPlaysSpec.pre6 enc Try.prog Try.f3 Rows.bufPlaysRow.domain false) (Rows.bufPlaysSpec.post enc Try.prog Try.f3 false true false false) := by
  refine returnsInHanded_of_change (C := Try.checked) own started (by kernel_rfl) Try.func3
    (ChangeSpec.witness6 (enc := enc) (C := Try.checked) false ⟨#[], #[.int .u64 0, .int .i64 0, .slice none 0 0], []⟩ 8 (by kernel_rfl) (by kernel_rfl) (by kernel_rfl) (by kernel_rfl)) ?_
  intro W base args ds gs before hval0 hW hcnd _
  have hval : ∀ (j : Nat) t v, Try.f3.params[j]? = some t → args[j]? = some v → Value.okWide Try.prog W .any base t v := hval0
  have hW' := hW
  obtain ⟨p, q, hA0, hV, rfl, hfz, hnd⟩ := hW
  have hA : DataW.TrodAll enc Try.prog W 0 (fun _ => true) true Try.f3.params.toList args.toList ds p := hA0
  rw [Try.params3] at hA hval
  obtain ⟨v0, vs0, d0, ds0, p0, q0, hargs, rfl, rfl, h0, r0⟩ := trodAll_cons hA
  obtain ⟨v1, vs1, d1, ds1, p1, q1, rfl, rfl, rfl, h1, r1⟩ := trodAll_cons r0
  obtain ⟨v2, vs2, d2, ds2, p2, q2, rfl, rfl, rfl, h2, r2⟩ := trodAll_cons r1
  obtain ⟨rfl, rfl, rfl⟩ := trodAll_nil r2
  obtain rfl : args = #[v0, v1, v2] := by cases args; simp_all
  obtain ⟨rfl, rfl⟩ := trodVars_none hV
  obtain ⟨a0, rfl, rfl, rfl, w0⟩ := open_int Try.underlying22 (hval 0 22 v0 rfl rfl) h0
  obtain ⟨a1, rfl, rfl, rfl, w1⟩ := open_int Try.underlying3 (hval 1 3 v1 rfl rfl) h1
  obtain ⟨a2, len2, cap2, rfl⟩ := okWide_slice Try.underlying23 (hval 2 23 v2 rfl rfl)
  have k2 := h2
  have lt2 : ∀ x ∈ p2, x.block < W.heap.size := by obtain ⟨m, hm⟩ := k2; exact DataW.trod_lt m _ _ _ hm
  have w2 : StrRows W [.inl .i64, .inr false, .inl .u64, .inl .i64] a2 len2 := str_rows Try.underlying23 Try.underlying34 (by kernel_rfl) (by kernel_rfl) (by kernel_rfl) (by decide) h2
  clear hA0 hval0
  refine (walk a0 a1 a2 len2 cap2 W w0 w1 w2).mono fun e W' ⟨he, bel⟩ => ?_
  subst he
  exact ⟨_, rfl, _, _, _, [], _, [], hW', trodAll_mk1 (shut_bool Try.underlying4 _), (trodAll_cons_mk (shut_int Try.underlying22 w0) (trodAll_cons_mk (shut_int Try.underlying3 w1) (trodAll_cons_mk (Below.trod laidOut (by kernel_rfl) (of_decide_eq_true (by kernel_rfl)) k2 bel lt2) trodAll_mk0))), rfl, bel.frame _, fun h => by cases h⟩

theorem over : Rows.bufPlaysRow.holds Try.pinned (OpenSpec.ofChange Rows.bufPlaysSpec) :=
  OpenClaim.holds_of_wide 3 Try.f3 rfl rfl rfl rfl rfl rfl rfl ⟨rfl, rfl, rfl, rfl, rfl⟩ rfl rfl rfl rfl rfl (by kernel_rfl) Try.func3 (by kernel_rfl)
    (of_decide_eq_true (by kernel_rfl)) (by unfold Func.isWrapper; first | (rw [if_pos (by decide +kernel)]; kernel_rfl) | (rw [if_neg (by decide +kernel)]; exact ⟨rfl, rfl⟩))
    (fun os started H enc _ => lifted os started H enc)

/-- THE STATEMENT -/
theorem proved : Rows.BufPlaysSaid := over
#print axioms proved
end Go.Proofs.Ytbfmgdcnpefciaa.bufPlays
