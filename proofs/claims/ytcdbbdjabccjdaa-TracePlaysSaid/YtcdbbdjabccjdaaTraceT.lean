/- Layer 31 (trace): the document's answer: Do, whatever the act. -/
import Derived.Test.YtcdbbdjabccjdaaTraceS0
import Derived.Test.YtcdbbdjabccjdaaTraceS1
set_option linter.unusedVariables false
set_option linter.unusedSimpArgs false
namespace Go.Proofs.Ytcdbbdjabccjdaa
open Go.RowKit Go.BigFrame

theorem prefix_iff (x s : ByteArray) (r : Nat) (hr : r ≤ x.size) : prefixB x r s = decide (s.size ≤ x.size - r ∧ x.extract r (r + s.size) = s) := by
  unfold prefixB
  apply decide_eq_decide.2
  have h1 : (x.extract r x.size).size = x.size - r := by simp
  rw [h1]
  constructor
  · rintro ⟨h2, h3⟩
    refine ⟨h2, ?_⟩
    rw [← h3]
    apply ByteArray.ext
    simp only [ByteArray.data_extract, Array.extract_extract]
    have hx : x.data.size = x.size := rfl
    have hs : ((x.extract r x.size).extract 0 s.size).size = s.size := by rw [h3]
    congr 1
    rw [hs]
    omega
  · rintro ⟨h2, h3⟩
    refine ⟨h2, ?_⟩
    have hs : (x.extract r (r + s.size)).size = s.size := by rw [h3]
    apply ByteArray.ext
    have h4 : s.data = x.data.extract r (r + s.size) := by rw [← ByteArray.data_extract, h3]
    rw [h4]
    simp only [ByteArray.data_extract, Array.extract_extract]
    congr 1
    omega
def MayPost (w : World) (b : Bool) (r : Ending) (w' : World) : Prop := r = .returned (.bool b) ∧ Below w.heap.size w w'
def RPost (w : World) (b : Nat) (c : Int) (t : Tr) (r : Ending) (w' : World) : Prop := r = .returned (.int .i64 c) ∧ RfAt w' b t ∧ w.grownBy w' (some b)

theorem mayat1_0 (w : World) (b : Nat) (t : Tr) (s : ByteArray) (h : RfAt w b t) (hz : Szd t) (hs : s.size ≤ 4194304) : Calls Try.prog 34 #[.pointer (some ⟨b, 0, none⟩), .agg #[.int .i64 0, .int .u8 1, .string s]] w (MayPost w (ruleM 1 0 t s).isSome) := by
  by_cases h0 : t.s0.opn = true
  · have hq : (ruleM 1 0 t s).isSome = false := by simp [ruleM, Tr.own, Tr.oth, h0]
    rw [hq]
    exact may1_no_0 w b t s h h0
  · have h0 : t.s0.opn = false := by simpa using h0
    have hq : (ruleM 1 0 t s).isSome = true := by simp [ruleM, Tr.own, Tr.oth, h0]
    rw [hq]
    exact may1_yes_0 w b t s h h0

theorem mayat2_0 (w : World) (b : Nat) (t : Tr) (s : ByteArray) (h : RfAt w b t) (hz : Szd t) (hs : s.size ≤ 4194304) : Calls Try.prog 34 #[.pointer (some ⟨b, 0, none⟩), .agg #[.int .i64 0, .int .u8 2, .string s]] w (MayPost w (ruleM 2 0 t s).isSome) := by
  have hq : (ruleM 2 0 t s).isSome = false := by simp [ruleM, Tr.own, Tr.oth]
  rw [hq]
  exact may2_no_0 w b t s h 

theorem mayat3_0 (w : World) (b : Nat) (t : Tr) (s : ByteArray) (h : RfAt w b t) (hz : Szd t) (hs : s.size ≤ 4194304) : Calls Try.prog 34 #[.pointer (some ⟨b, 0, none⟩), .agg #[.int .i64 0, .int .u8 3, .string s]] w (MayPost w (ruleM 3 0 t s).isSome) := by
  by_cases hv : t.s0.live = true
  · by_cases h0 : t.s0.cl = true
    · have hq : (ruleM 3 0 t s).isSome = false := by simp [ruleM, Tr.own, Tr.oth, hv, h0]
      rw [hq]
      exact may3_cl_0 w b t s h hv h0
    · have h0 : t.s0.cl = false := by simpa using h0
      have hq : (ruleM 3 0 t s).isSome = true := by simp [ruleM, Tr.own, Tr.oth, hv, h0]
      rw [hq]
      exact may3_yes_0 w b t s h hv h0
  · have hv : t.s0.live = false := by simpa using hv
    have hq : (ruleM 3 0 t s).isSome = false := by simp [ruleM, Tr.own, Tr.oth, hv]
    rw [hq]
    exact may3_dead_0 w b t s h hv

theorem mayat4_0 (w : World) (b : Nat) (t : Tr) (s : ByteArray) (h : RfAt w b t) (hz : Szd t) (hs : s.size ≤ 4194304) : Calls Try.prog 34 #[.pointer (some ⟨b, 0, none⟩), .agg #[.int .i64 0, .int .u8 4, .string s]] w (MayPost w (ruleM 4 0 t s).isSome) := by
  by_cases hv : t.s0.live = true
  · by_cases h0 : t.s0.eof = true
    · have hq : (ruleM 4 0 t s).isSome = false := by simp [ruleM, Tr.own, Tr.oth, hv, h0]
      rw [hq]
      exact may4_eof_0 w b t s h hv h0
    · have h0 : t.s0.eof = false := by simpa using h0
      have hp := prefix_iff t.s1.wr s t.s0.rd hz.2.2.1
      by_cases h1 : s.size ≤ t.s1.wr.size - t.s0.rd
      case neg =>
        have hp : prefixB t.s1.wr t.s0.rd s = false := by rw [hp]; simp; intro h; exact absurd h h1
        have hq : (ruleM 4 0 t s).isSome = false := by simp [ruleM, Tr.own, Tr.oth, hv, h0, hp]
        rw [hq]
        exact may4_long_0 w b t s h hv h0 hz.2.2.1 hz.2.1 hs h1
      by_cases h2 : t.s1.wr.extract t.s0.rd (t.s0.rd + s.size) = s
      · have hp : prefixB t.s1.wr t.s0.rd s = true := by rw [hp]; simp [h1, h2]
        have hq : (ruleM 4 0 t s).isSome = true := by simp [ruleM, Tr.own, Tr.oth, hv, h0, hp]
        rw [hq]
        exact may4_yes_0 w b t s h hv h0 hz.2.2.1 hz.2.1 hs h1 h2
      · have hp : prefixB t.s1.wr t.s0.rd s = false := by rw [hp]; simp [h2]
        have hq : (ruleM 4 0 t s).isSome = false := by simp [ruleM, Tr.own, Tr.oth, hv, h0, hp]
        rw [hq]
        exact may4_no_0 w b t s h hv h0 hz.2.2.1 hz.2.1 hs h1 h2
  · have hv : t.s0.live = false := by simpa using hv
    have hq : (ruleM 4 0 t s).isSome = false := by simp [ruleM, Tr.own, Tr.oth, hv]
    rw [hq]
    exact may4_dead_0 w b t s h hv

theorem mayat5_0 (w : World) (b : Nat) (t : Tr) (s : ByteArray) (h : RfAt w b t) (hz : Szd t) (hs : s.size ≤ 4194304) : Calls Try.prog 34 #[.pointer (some ⟨b, 0, none⟩), .agg #[.int .i64 0, .int .u8 5, .string s]] w (MayPost w (ruleM 5 0 t s).isSome) := by
  by_cases hv : t.s0.live = true
  · by_cases h0 : t.s0.cl = true
    · have hq : (ruleM 5 0 t s).isSome = false := by simp [ruleM, Tr.own, Tr.oth, hv, h0]
      rw [hq]
      exact may5_cl_0 w b t s h hv h0
    · have h0 : t.s0.cl = false := by simpa using h0
      have hq : (ruleM 5 0 t s).isSome = true := by simp [ruleM, Tr.own, Tr.oth, hv, h0]
      rw [hq]
      exact may5_yes_0 w b t s h hv h0
  · have hv : t.s0.live = false := by simpa using hv
    have hq : (ruleM 5 0 t s).isSome = false := by simp [ruleM, Tr.own, Tr.oth, hv]
    rw [hq]
    exact may5_dead_0 w b t s h hv

theorem mayat6_0 (w : World) (b : Nat) (t : Tr) (s : ByteArray) (h : RfAt w b t) (hz : Szd t) (hs : s.size ≤ 4194304) : Calls Try.prog 34 #[.pointer (some ⟨b, 0, none⟩), .agg #[.int .i64 0, .int .u8 6, .string s]] w (MayPost w (ruleM 6 0 t s).isSome) := by
  by_cases hv : t.s0.live = true
  · by_cases h0 : t.s0.eof = true
    · have hq : (ruleM 6 0 t s).isSome = false := by simp [ruleM, Tr.own, Tr.oth, hv, h0]
      rw [hq]
      exact may6_eof_0 w b t s h hv h0
    · have h0 : t.s0.eof = false := by simpa using h0
      by_cases h1 : t.s1.cl = true
      · by_cases h2 : t.s0.rd = t.s1.wr.size
        · have hq : (ruleM 6 0 t s).isSome = true := by simp [ruleM, Tr.own, Tr.oth, hv, h0, h1, h2]
          rw [hq]
          exact may6_yes_0 w b t s h hv h0 h1 h2
        · have hq : (ruleM 6 0 t s).isSome = false := by simp [ruleM, Tr.own, Tr.oth, hv, h0, h1, h2]
          rw [hq]
          exact may6_less_0 w b t s h hv h0 h1 h2
      · have h1 : t.s1.cl = false := by simpa using h1
        have hq : (ruleM 6 0 t s).isSome = false := by simp [ruleM, Tr.own, Tr.oth, hv, h0, h1]
        rw [hq]
        exact may6_open_0 w b t s h hv h0 h1
  · have hv : t.s0.live = false := by simpa using hv
    have hq : (ruleM 6 0 t s).isSome = false := by simp [ruleM, Tr.own, Tr.oth, hv]
    rw [hq]
    exact may6_dead_0 w b t s h hv

theorem mayat7_0 (w : World) (b : Nat) (t : Tr) (s : ByteArray) (h : RfAt w b t) (hz : Szd t) (hs : s.size ≤ 4194304) : Calls Try.prog 34 #[.pointer (some ⟨b, 0, none⟩), .agg #[.int .i64 0, .int .u8 7, .string s]] w (MayPost w (ruleM 7 0 t s).isSome) := by
  by_cases hv : t.s0.live = true
  · have hq : (ruleM 7 0 t s).isSome = true := by simp [ruleM, Tr.own, Tr.oth, hv]
    rw [hq]
    exact may7_yes_0 w b t s h hv
  · have hv : t.s0.live = false := by simpa using hv
    have hq : (ruleM 7 0 t s).isSome = false := by simp [ruleM, Tr.own, Tr.oth, hv]
    rw [hq]
    exact may7_no_0 w b t s h hv

theorem mayat8_0 (w : World) (b : Nat) (t : Tr) (s : ByteArray) (h : RfAt w b t) (hz : Szd t) (hs : s.size ≤ 4194304) : Calls Try.prog 34 #[.pointer (some ⟨b, 0, none⟩), .agg #[.int .i64 0, .int .u8 8, .string s]] w (MayPost w (ruleM 8 0 t s).isSome) := by
  by_cases hv : t.s0.live = true
  · by_cases h0 : t.cause = true
    · have hq : (ruleM 8 0 t s).isSome = true := by simp [ruleM, Tr.own, Tr.oth, hv, h0]
      rw [hq]
      exact may8_yes_0 w b t s h hv h0
    · have h0 : t.cause = false := by simpa using h0
      have hq : (ruleM 8 0 t s).isSome = false := by simp [ruleM, Tr.own, Tr.oth, hv, h0]
      rw [hq]
      exact may8_no_0 w b t s h hv h0
  · have hv : t.s0.live = false := by simpa using hv
    have hq : (ruleM 8 0 t s).isSome = false := by simp [ruleM, Tr.own, Tr.oth, hv]
    rw [hq]
    exact may8_dead_0 w b t s h hv

theorem mayat9_0 (w : World) (b : Nat) (t : Tr) (s : ByteArray) (h : RfAt w b t) (hz : Szd t) (hs : s.size ≤ 4194304) : Calls Try.prog 34 #[.pointer (some ⟨b, 0, none⟩), .agg #[.int .i64 0, .int .u8 9, .string s]] w (MayPost w (ruleM 9 0 t s).isSome) := by
  have hq : (ruleM 9 0 t s).isSome = true := by simp [ruleM, Tr.own, Tr.oth]
  rw [hq]
  exact may9_yes_0 w b t s h 

theorem mayat1_1 (w : World) (b : Nat) (t : Tr) (s : ByteArray) (h : RfAt w b t) (hz : Szd t) (hs : s.size ≤ 4194304) : Calls Try.prog 34 #[.pointer (some ⟨b, 0, none⟩), .agg #[.int .i64 1, .int .u8 1, .string s]] w (MayPost w (ruleM 1 1 t s).isSome) := by
  have hq : (ruleM 1 1 t s).isSome = false := by simp [ruleM, Tr.own, Tr.oth]
  rw [hq]
  exact may1_no_1 w b t s h 

theorem mayat2_1 (w : World) (b : Nat) (t : Tr) (s : ByteArray) (h : RfAt w b t) (hz : Szd t) (hs : s.size ≤ 4194304) : Calls Try.prog 34 #[.pointer (some ⟨b, 0, none⟩), .agg #[.int .i64 1, .int .u8 2, .string s]] w (MayPost w (ruleM 2 1 t s).isSome) := by
  by_cases h0 : t.s1.opn = true
  · have hq : (ruleM 2 1 t s).isSome = false := by simp [ruleM, Tr.own, Tr.oth, h0]
    rw [hq]
    exact may2_open_1 w b t s h h0
  · have h0 : t.s1.opn = false := by simpa using h0
    by_cases h1 : t.s0.opn = true
    · have hq : (ruleM 2 1 t s).isSome = true := by simp [ruleM, Tr.own, Tr.oth, h0, h1]
      rw [hq]
      exact may2_yes_1 w b t s h h0 h1
    · have h1 : t.s0.opn = false := by simpa using h1
      have hq : (ruleM 2 1 t s).isSome = false := by simp [ruleM, Tr.own, Tr.oth, h0, h1]
      rw [hq]
      exact may2_shut_1 w b t s h h0 h1

theorem mayat3_1 (w : World) (b : Nat) (t : Tr) (s : ByteArray) (h : RfAt w b t) (hz : Szd t) (hs : s.size ≤ 4194304) : Calls Try.prog 34 #[.pointer (some ⟨b, 0, none⟩), .agg #[.int .i64 1, .int .u8 3, .string s]] w (MayPost w (ruleM 3 1 t s).isSome) := by
  by_cases hv : t.s1.live = true
  · by_cases h0 : t.s1.cl = true
    · have hq : (ruleM 3 1 t s).isSome = false := by simp [ruleM, Tr.own, Tr.oth, hv, h0]
      rw [hq]
      exact may3_cl_1 w b t s h hv h0
    · have h0 : t.s1.cl = false := by simpa using h0
      have hq : (ruleM 3 1 t s).isSome = true := by simp [ruleM, Tr.own, Tr.oth, hv, h0]
      rw [hq]
      exact may3_yes_1 w b t s h hv h0
  · have hv : t.s1.live = false := by simpa using hv
    have hq : (ruleM 3 1 t s).isSome = false := by simp [ruleM, Tr.own, Tr.oth, hv]
    rw [hq]
    exact may3_dead_1 w b t s h hv

theorem mayat4_1 (w : World) (b : Nat) (t : Tr) (s : ByteArray) (h : RfAt w b t) (hz : Szd t) (hs : s.size ≤ 4194304) : Calls Try.prog 34 #[.pointer (some ⟨b, 0, none⟩), .agg #[.int .i64 1, .int .u8 4, .string s]] w (MayPost w (ruleM 4 1 t s).isSome) := by
  by_cases hv : t.s1.live = true
  · by_cases h0 : t.s1.eof = true
    · have hq : (ruleM 4 1 t s).isSome = false := by simp [ruleM, Tr.own, Tr.oth, hv, h0]
      rw [hq]
      exact may4_eof_1 w b t s h hv h0
    · have h0 : t.s1.eof = false := by simpa using h0
      have hp := prefix_iff t.s0.wr s t.s1.rd hz.2.2.2
      by_cases h1 : s.size ≤ t.s0.wr.size - t.s1.rd
      case neg =>
        have hp : prefixB t.s0.wr t.s1.rd s = false := by rw [hp]; simp; intro h; exact absurd h h1
        have hq : (ruleM 4 1 t s).isSome = false := by simp [ruleM, Tr.own, Tr.oth, hv, h0, hp]
        rw [hq]
        exact may4_long_1 w b t s h hv h0 hz.2.2.2 hz.1 hs h1
      by_cases h2 : t.s0.wr.extract t.s1.rd (t.s1.rd + s.size) = s
      · have hp : prefixB t.s0.wr t.s1.rd s = true := by rw [hp]; simp [h1, h2]
        have hq : (ruleM 4 1 t s).isSome = true := by simp [ruleM, Tr.own, Tr.oth, hv, h0, hp]
        rw [hq]
        exact may4_yes_1 w b t s h hv h0 hz.2.2.2 hz.1 hs h1 h2
      · have hp : prefixB t.s0.wr t.s1.rd s = false := by rw [hp]; simp [h2]
        have hq : (ruleM 4 1 t s).isSome = false := by simp [ruleM, Tr.own, Tr.oth, hv, h0, hp]
        rw [hq]
        exact may4_no_1 w b t s h hv h0 hz.2.2.2 hz.1 hs h1 h2
  · have hv : t.s1.live = false := by simpa using hv
    have hq : (ruleM 4 1 t s).isSome = false := by simp [ruleM, Tr.own, Tr.oth, hv]
    rw [hq]
    exact may4_dead_1 w b t s h hv

theorem mayat5_1 (w : World) (b : Nat) (t : Tr) (s : ByteArray) (h : RfAt w b t) (hz : Szd t) (hs : s.size ≤ 4194304) : Calls Try.prog 34 #[.pointer (some ⟨b, 0, none⟩), .agg #[.int .i64 1, .int .u8 5, .string s]] w (MayPost w (ruleM 5 1 t s).isSome) := by
  by_cases hv : t.s1.live = true
  · by_cases h0 : t.s1.cl = true
    · have hq : (ruleM 5 1 t s).isSome = false := by simp [ruleM, Tr.own, Tr.oth, hv, h0]
      rw [hq]
      exact may5_cl_1 w b t s h hv h0
    · have h0 : t.s1.cl = false := by simpa using h0
      have hq : (ruleM 5 1 t s).isSome = true := by simp [ruleM, Tr.own, Tr.oth, hv, h0]
      rw [hq]
      exact may5_yes_1 w b t s h hv h0
  · have hv : t.s1.live = false := by simpa using hv
    have hq : (ruleM 5 1 t s).isSome = false := by simp [ruleM, Tr.own, Tr.oth, hv]
    rw [hq]
    exact may5_dead_1 w b t s h hv

theorem mayat6_1 (w : World) (b : Nat) (t : Tr) (s : ByteArray) (h : RfAt w b t) (hz : Szd t) (hs : s.size ≤ 4194304) : Calls Try.prog 34 #[.pointer (some ⟨b, 0, none⟩), .agg #[.int .i64 1, .int .u8 6, .string s]] w (MayPost w (ruleM 6 1 t s).isSome) := by
  by_cases hv : t.s1.live = true
  · by_cases h0 : t.s1.eof = true
    · have hq : (ruleM 6 1 t s).isSome = false := by simp [ruleM, Tr.own, Tr.oth, hv, h0]
      rw [hq]
      exact may6_eof_1 w b t s h hv h0
    · have h0 : t.s1.eof = false := by simpa using h0
      by_cases h1 : t.s0.cl = true
      · by_cases h2 : t.s1.rd = t.s0.wr.size
        · have hq : (ruleM 6 1 t s).isSome = true := by simp [ruleM, Tr.own, Tr.oth, hv, h0, h1, h2]
          rw [hq]
          exact may6_yes_1 w b t s h hv h0 h1 h2
        · have hq : (ruleM 6 1 t s).isSome = false := by simp [ruleM, Tr.own, Tr.oth, hv, h0, h1, h2]
          rw [hq]
          exact may6_less_1 w b t s h hv h0 h1 h2
      · have h1 : t.s0.cl = false := by simpa using h1
        have hq : (ruleM 6 1 t s).isSome = false := by simp [ruleM, Tr.own, Tr.oth, hv, h0, h1]
        rw [hq]
        exact may6_open_1 w b t s h hv h0 h1
  · have hv : t.s1.live = false := by simpa using hv
    have hq : (ruleM 6 1 t s).isSome = false := by simp [ruleM, Tr.own, Tr.oth, hv]
    rw [hq]
    exact may6_dead_1 w b t s h hv

theorem mayat7_1 (w : World) (b : Nat) (t : Tr) (s : ByteArray) (h : RfAt w b t) (hz : Szd t) (hs : s.size ≤ 4194304) : Calls Try.prog 34 #[.pointer (some ⟨b, 0, none⟩), .agg #[.int .i64 1, .int .u8 7, .string s]] w (MayPost w (ruleM 7 1 t s).isSome) := by
  by_cases hv : t.s1.live = true
  · have hq : (ruleM 7 1 t s).isSome = true := by simp [ruleM, Tr.own, Tr.oth, hv]
    rw [hq]
    exact may7_yes_1 w b t s h hv
  · have hv : t.s1.live = false := by simpa using hv
    have hq : (ruleM 7 1 t s).isSome = false := by simp [ruleM, Tr.own, Tr.oth, hv]
    rw [hq]
    exact may7_no_1 w b t s h hv

theorem mayat8_1 (w : World) (b : Nat) (t : Tr) (s : ByteArray) (h : RfAt w b t) (hz : Szd t) (hs : s.size ≤ 4194304) : Calls Try.prog 34 #[.pointer (some ⟨b, 0, none⟩), .agg #[.int .i64 1, .int .u8 8, .string s]] w (MayPost w (ruleM 8 1 t s).isSome) := by
  by_cases hv : t.s1.live = true
  · by_cases h0 : t.cause = true
    · have hq : (ruleM 8 1 t s).isSome = true := by simp [ruleM, Tr.own, Tr.oth, hv, h0]
      rw [hq]
      exact may8_yes_1 w b t s h hv h0
    · have h0 : t.cause = false := by simpa using h0
      have hq : (ruleM 8 1 t s).isSome = false := by simp [ruleM, Tr.own, Tr.oth, hv, h0]
      rw [hq]
      exact may8_no_1 w b t s h hv h0
  · have hv : t.s1.live = false := by simpa using hv
    have hq : (ruleM 8 1 t s).isSome = false := by simp [ruleM, Tr.own, Tr.oth, hv]
    rw [hq]
    exact may8_dead_1 w b t s h hv

theorem mayat9_1 (w : World) (b : Nat) (t : Tr) (s : ByteArray) (h : RfAt w b t) (hz : Szd t) (hs : s.size ≤ 4194304) : Calls Try.prog 34 #[.pointer (some ⟨b, 0, none⟩), .agg #[.int .i64 1, .int .u8 9, .string s]] w (MayPost w (ruleM 9 1 t s).isSome) := by
  have hq : (ruleM 9 1 t s).isSome = true := by simp [ruleM, Tr.own, Tr.oth]
  rw [hq]
  exact may9_yes_1 w b t s h 


theorem rdo_neg (w : World) (b : Nat) (t : Tr) (e : Int) (d : Nat) (s : ByteArray) (h : RfAt w b t) (he : e < 0) : Calls Try.prog 13 #[.pointer (some ⟨b, 0, none⟩), .agg #[.int .i64 e, .int .u8 (d : Int), .string s]] w (RPost w b 2 t) := by
  have hb0 : Below w.heap.size w w := Below.refl _ _
  have HB := Lib.hid hb0
  clear hb0
  have Ht := Lib.hid h
  clear h
  go_enter Try.func13, Try.ntmps13
  go_upto_region 1 with fail
  have hx := Blk.new w 36 #[.int .i64 e, .int .u8 (d:Int), .string s]
  have ht := Blk.alloc Ht.out (.cells #[.int .i64 e, .int .u8 (d:Int), .string s] 36)
  clear Ht
  have hB := HB.out.alloc HB.out.size (.cells #[.int .i64 e, .int .u8 (d:Int), .string s] 36)
  clear HB
  obtain ⟨gx, hge⟩ : ∃ g, g = w.heap.size := ⟨_, rfl⟩
  rw [← hge] at hx ⊢
  clear hge
  generalize w.alloc _ = w1 at *
  have Ht := Lib.hid ht
  clear ht
  have Hx := Lib.hid hx
  clear hx
  have HB := Lib.hid hB
  clear hB
  have x0 := Hx.out.cell 0
  have x1 := Hx.out.cell 1
  have x2 := Hx.out.cell 2
  simp at x0 x1 x2
  go_wp2
  all_goals
    go_ret
    exact ⟨rfl, Ht.out, only_of_below HB.out _⟩

theorem rdo_big (w : World) (b : Nat) (t : Tr) (e : Int) (d : Nat) (s : ByteArray) (h : RfAt w b t) (he : 1 < e) : Calls Try.prog 13 #[.pointer (some ⟨b, 0, none⟩), .agg #[.int .i64 e, .int .u8 (d : Int), .string s]] w (RPost w b 2 t) := by
  have hb0 : Below w.heap.size w w := Below.refl _ _
  have HB := Lib.hid hb0
  clear hb0
  have Ht := Lib.hid h
  clear h
  go_enter Try.func13, Try.ntmps13
  go_upto_region 1 with fail
  have hx := Blk.new w 36 #[.int .i64 e, .int .u8 (d:Int), .string s]
  have ht := Blk.alloc Ht.out (.cells #[.int .i64 e, .int .u8 (d:Int), .string s] 36)
  clear Ht
  have hB := HB.out.alloc HB.out.size (.cells #[.int .i64 e, .int .u8 (d:Int), .string s] 36)
  clear HB
  obtain ⟨gx, hge⟩ : ∃ g, g = w.heap.size := ⟨_, rfl⟩
  rw [← hge] at hx ⊢
  clear hge
  generalize w.alloc _ = w1 at *
  have Ht := Lib.hid ht
  clear ht
  have Hx := Lib.hid hx
  clear hx
  have HB := Lib.hid hB
  clear hB
  have x0 := Hx.out.cell 0
  have x1 := Hx.out.cell 1
  have x2 := Hx.out.cell 2
  simp at x0 x1 x2
  go_wp2
  all_goals
    go_ret
    exact ⟨rfl, Ht.out, only_of_below HB.out _⟩

theorem rdo_low (w : World) (b : Nat) (t : Tr) (e : Int) (d : Nat) (s : ByteArray) (h : RfAt w b t) (he0 : 0 ≤ e) (he1 : e ≤ 1) (hd : (d : Int) < 1) : Calls Try.prog 13 #[.pointer (some ⟨b, 0, none⟩), .agg #[.int .i64 e, .int .u8 (d : Int), .string s]] w (RPost w b 2 t) := by
  have hb0 : Below w.heap.size w w := Below.refl _ _
  have HB := Lib.hid hb0
  clear hb0
  have Ht := Lib.hid h
  clear h
  go_enter Try.func13, Try.ntmps13
  go_upto_region 1 with fail
  have hx := Blk.new w 36 #[.int .i64 e, .int .u8 (d:Int), .string s]
  have ht := Blk.alloc Ht.out (.cells #[.int .i64 e, .int .u8 (d:Int), .string s] 36)
  clear Ht
  have hB := HB.out.alloc HB.out.size (.cells #[.int .i64 e, .int .u8 (d:Int), .string s] 36)
  clear HB
  obtain ⟨gx, hge⟩ : ∃ g, g = w.heap.size := ⟨_, rfl⟩
  rw [← hge] at hx ⊢
  clear hge
  generalize w.alloc _ = w1 at *
  have Ht := Lib.hid ht
  clear ht
  have Hx := Lib.hid hx
  clear hx
  have HB := Lib.hid hB
  clear hB
  have x0 := Hx.out.cell 0
  have x1 := Hx.out.cell 1
  have x2 := Hx.out.cell 2
  simp at x0 x1 x2
  go_wp2
  all_goals
    go_ret
    exact ⟨rfl, Ht.out, only_of_below HB.out _⟩

theorem rdo_high (w : World) (b : Nat) (t : Tr) (e : Int) (d : Nat) (s : ByteArray) (h : RfAt w b t) (he0 : 0 ≤ e) (he1 : e ≤ 1) (hd : (9 : Int) < (d : Int)) : Calls Try.prog 13 #[.pointer (some ⟨b, 0, none⟩), .agg #[.int .i64 e, .int .u8 (d : Int), .string s]] w (RPost w b 2 t) := by
  have hb0 : Below w.heap.size w w := Below.refl _ _
  have HB := Lib.hid hb0
  clear hb0
  have Ht := Lib.hid h
  clear h
  go_enter Try.func13, Try.ntmps13
  go_upto_region 1 with fail
  have hx := Blk.new w 36 #[.int .i64 e, .int .u8 (d:Int), .string s]
  have ht := Blk.alloc Ht.out (.cells #[.int .i64 e, .int .u8 (d:Int), .string s] 36)
  clear Ht
  have hB := HB.out.alloc HB.out.size (.cells #[.int .i64 e, .int .u8 (d:Int), .string s] 36)
  clear HB
  obtain ⟨gx, hge⟩ : ∃ g, g = w.heap.size := ⟨_, rfl⟩
  rw [← hge] at hx ⊢
  clear hge
  generalize w.alloc _ = w1 at *
  have Ht := Lib.hid ht
  clear ht
  have Hx := Lib.hid hx
  clear hx
  have HB := Lib.hid hB
  clear hB
  have x0 := Hx.out.cell 0
  have x1 := Hx.out.cell 1
  have x2 := Hx.out.cell 2
  simp at x0 x1 x2
  go_wp2
  all_goals
    go_ret
    exact ⟨rfl, Ht.out, only_of_below HB.out _⟩

theorem rdo_text (w : World) (b : Nat) (t : Tr) (e : Int) (d : Nat) (s : ByteArray) (h : RfAt w b t) (hd0 : (1 : Int) ≤ (d : Int)) (hd1 : (d : Int) ≤ 9) (he0 : 0 ≤ e) (he1 : e ≤ 1) (h34 : ((d : Int) == 3 || (d : Int) == 4) = true) (hs1 : s.toList = []) : Calls Try.prog 13 #[.pointer (some ⟨b, 0, none⟩), .agg #[.int .i64 e, .int .u8 (d : Int), .string s]] w (RPost w b 2 t) := by
  have hs2 : s.toList.isEmpty = true := by rw [hs1]; rfl
  have hb0 : Below w.heap.size w w := Below.refl _ _
  have HB := Lib.hid hb0
  clear hb0
  have Ht := Lib.hid h
  clear h
  go_enter Try.func13, Try.ntmps13
  go_upto_region 1 with fail
  have hx := Blk.new w 36 #[.int .i64 e, .int .u8 (d:Int), .string s]
  have ht := Blk.alloc Ht.out (.cells #[.int .i64 e, .int .u8 (d:Int), .string s] 36)
  clear Ht
  have hB := HB.out.alloc HB.out.size (.cells #[.int .i64 e, .int .u8 (d:Int), .string s] 36)
  clear HB
  obtain ⟨gx, hge⟩ : ∃ g, g = w.heap.size := ⟨_, rfl⟩
  rw [← hge] at hx ⊢
  clear hge
  generalize w.alloc _ = w1 at *
  have Ht := Lib.hid ht
  clear ht
  have Hx := Lib.hid hx
  clear hx
  have HB := Lib.hid hB
  clear hB
  have x0 := Hx.out.cell 0
  have x1 := Hx.out.cell 1
  have x2 := Hx.out.cell 2
  simp at x0 x1 x2
  go_wp2
  all_goals
    go_ret
    exact ⟨rfl, Ht.out, only_of_below HB.out _⟩

theorem rdo_none (w : World) (b : Nat) (t : Tr) (e : Int) (d : Nat) (s : ByteArray) (h : RfAt w b t) (hd0 : (1 : Int) ≤ (d : Int)) (hd1 : (d : Int) ≤ 9) (he0 : 0 ≤ e) (he1 : e ≤ 1) (h3 : ((d : Int) == 3) = false) (h4 : ((d : Int) == 4) = false) (hs1 : (!s.toList.isEmpty) = true) (hs2 : s.toList.isEmpty = false) : Calls Try.prog 13 #[.pointer (some ⟨b, 0, none⟩), .agg #[.int .i64 e, .int .u8 (d : Int), .string s]] w (RPost w b 2 t) := by
  have hb0 : Below w.heap.size w w := Below.refl _ _
  have HB := Lib.hid hb0
  clear hb0
  have Ht := Lib.hid h
  clear h
  go_enter Try.func13, Try.ntmps13
  go_upto_region 1 with fail
  have hx := Blk.new w 36 #[.int .i64 e, .int .u8 (d:Int), .string s]
  have ht := Blk.alloc Ht.out (.cells #[.int .i64 e, .int .u8 (d:Int), .string s] 36)
  clear Ht
  have hB := HB.out.alloc HB.out.size (.cells #[.int .i64 e, .int .u8 (d:Int), .string s] 36)
  clear HB
  obtain ⟨gx, hge⟩ : ∃ g, g = w.heap.size := ⟨_, rfl⟩
  rw [← hge] at hx ⊢
  clear hge
  generalize w.alloc _ = w1 at *
  have Ht := Lib.hid ht
  clear ht
  have Hx := Lib.hid hx
  clear hx
  have HB := Lib.hid hB
  clear hB
  have x0 := Hx.out.cell 0
  have x1 := Hx.out.cell 1
  have x2 := Hx.out.cell 2
  simp at x0 x1 x2
  go_wp2
  all_goals
    go_ret
    exact ⟨rfl, Ht.out, only_of_below HB.out _⟩

theorem rdo_no_1_0 (w : World) (b : Nat) (t : Tr) (s : ByteArray) (h : RfAt w b t) (hz : Szd t) (hs : s.size ≤ 4194304) (hs1 : s.toList = []) (hs2 : s.toList.isEmpty = true) (hr : ruleM 1 0 t s = none) :
    Calls Try.prog 13 #[.pointer (some ⟨b, 0, none⟩), .agg #[.int .i64 0, .int .u8 1, .string s]] w (RPost w b 3 t) := by
  have hm := fun W (h : RfAt W b t) => mayat1_0 W b t s h hz hs
  rw [show (ruleM 1 0 t s).isSome = false by rw [hr]; rfl] at hm
  have Hm := Lib.hid hm
  clear hm
  have hb0 : Below w.heap.size w w := Below.refl _ _
  have HB := Lib.hid hb0
  clear hb0
  have Ht := Lib.hid h
  clear h
  go_enter Try.func13, Try.ntmps13
  go_upto_region 1 with fail
  have hx := Blk.new w 36 #[.int .i64 0, .int .u8 1, .string s]
  have ht := Blk.alloc Ht.out (.cells #[.int .i64 0, .int .u8 1, .string s] 36)
  clear Ht
  have hB := HB.out.alloc HB.out.size (.cells #[.int .i64 0, .int .u8 1, .string s] 36)
  clear HB
  obtain ⟨gx, hge⟩ : ∃ g, g = w.heap.size := ⟨_, rfl⟩
  rw [← hge] at hx ⊢
  clear hge
  generalize w.alloc _ = w1 at *
  have Ht := Lib.hid ht
  clear ht
  have Hx := Lib.hid hx
  clear hx
  have HB := Lib.hid hB
  clear hB
  have x0 := Hx.out.cell 0
  have x1 := Hx.out.cell 1
  have x2 := Hx.out.cell 2
  simp at x0 x1 x2
  go_wp2_with fail
  refine (Hm.out _ Ht.out).mono ?_
  rintro r w2 ⟨rfl, hb2⟩
  have ht := Ht.out.below hb2 Ht.out.lt
  clear Ht
  have Ht := Lib.hid ht
  clear ht
  have hx := Hx.out.below hb2 Hx.out.lt
  clear Hx
  have Hx := Lib.hid hx
  clear hx
  have hB := HB.out.trans (hb2.mono HB.out.size)
  clear HB
  have HB := Lib.hid hB
  clear hB
  clear hb2 x0 x1 x2
  have x0 := Hx.out.cell 0
  have x1 := Hx.out.cell 1
  have x2 := Hx.out.cell 2
  simp at x0 x1 x2
  go_wp2
  go_ret
  exact ⟨rfl, Ht.out, only_of_below HB.out _⟩

theorem rdo_ok_1_0 (w : World) (b : Nat) (t : Tr) (s : ByteArray) (h : RfAt w b t) (hz : Szd t) (hs : s.size ≤ 4194304) (hs1 : s.toList = []) (hs2 : s.toList.isEmpty = true) (hr : ruleM 1 0 t s = some (eff 0 1 s t)) :
    Calls Try.prog 13 #[.pointer (some ⟨b, 0, none⟩), .agg #[.int .i64 0, .int .u8 1, .string s]] w (RPost w b 0 (eff 0 1 s t)) := by
  have hm := fun W (h : RfAt W b t) => mayat1_0 W b t s h hz hs
  rw [show (ruleM 1 0 t s).isSome = true by rw [hr]; rfl] at hm
  have Hm := Lib.hid hm
  clear hm
  have hb0 : Below w.heap.size w w := Below.refl _ _
  have HB := Lib.hid hb0
  clear hb0
  have Ht := Lib.hid h
  clear h
  go_enter Try.func13, Try.ntmps13
  go_upto_region 1 with fail
  have hx := Blk.new w 36 #[.int .i64 0, .int .u8 1, .string s]
  have ht := Blk.alloc Ht.out (.cells #[.int .i64 0, .int .u8 1, .string s] 36)
  clear Ht
  have hB := HB.out.alloc HB.out.size (.cells #[.int .i64 0, .int .u8 1, .string s] 36)
  clear HB
  obtain ⟨gx, hge⟩ : ∃ g, g = w.heap.size := ⟨_, rfl⟩
  rw [← hge] at hx ⊢
  clear hge
  generalize w.alloc _ = w1 at *
  have Ht := Lib.hid ht
  clear ht
  have Hx := Lib.hid hx
  clear hx
  have HB := Lib.hid hB
  clear hB
  have x0 := Hx.out.cell 0
  have x1 := Hx.out.cell 1
  have x2 := Hx.out.cell 2
  simp at x0 x1 x2
  go_wp2_with fail
  refine (Hm.out _ Ht.out).mono ?_
  rintro r w2 ⟨rfl, hb2⟩
  have ht := Ht.out.below hb2 Ht.out.lt
  clear Ht
  have Ht := Lib.hid ht
  clear ht
  have hx := Hx.out.below hb2 Hx.out.lt
  clear Hx
  have Hx := Lib.hid hx
  clear hx
  have hB := HB.out.trans (hb2.mono HB.out.size)
  clear HB
  have HB := Lib.hid hB
  clear hB
  clear hb2 x0 x1 x2
  have x0 := Hx.out.cell 0
  have x1 := Hx.out.cell 1
  have x2 := Hx.out.cell 2
  simp at x0 x1 x2
  go_wp2
  go_quiet (fail)
  have ht := Blk.drewN Ht.out nq
  have hx := Blk.drewN Hx.out nq
  have hB := below_drewN HB.out nq
  clear Ht Hx HB x0 x1 x2
  generalize w2.drewN nq = W at *
  have Ht := Lib.hid ht
  have Hx := Lib.hid hx
  have HB := Lib.hid hB
  clear ht hx hB
  have x0 := Hx.out.cell 0
  have x1 := Hx.out.cell 1
  have x2 := Hx.out.cell 2
  simp at x0 x1 x2
  have f1 := Blk.frozen Ht.out 0
  have c1 := Ht.out.cell 0
  simp at c1
  go_wp2
  go_ret
  exact ⟨rfl, (by have := Blk.set_ Ht.out 0 (.bool true); simpa [eff, gA, cA, Tr.put, Tr.own] using this), only_set (only_of_below HB.out _) 0 _⟩

theorem rdo_no_2_0 (w : World) (b : Nat) (t : Tr) (s : ByteArray) (h : RfAt w b t) (hz : Szd t) (hs : s.size ≤ 4194304) (hs1 : s.toList = []) (hs2 : s.toList.isEmpty = true) (hr : ruleM 2 0 t s = none) :
    Calls Try.prog 13 #[.pointer (some ⟨b, 0, none⟩), .agg #[.int .i64 0, .int .u8 2, .string s]] w (RPost w b 3 t) := by
  have hm := fun W (h : RfAt W b t) => mayat2_0 W b t s h hz hs
  rw [show (ruleM 2 0 t s).isSome = false by rw [hr]; rfl] at hm
  have Hm := Lib.hid hm
  clear hm
  have hb0 : Below w.heap.size w w := Below.refl _ _
  have HB := Lib.hid hb0
  clear hb0
  have Ht := Lib.hid h
  clear h
  go_enter Try.func13, Try.ntmps13
  go_upto_region 1 with fail
  have hx := Blk.new w 36 #[.int .i64 0, .int .u8 2, .string s]
  have ht := Blk.alloc Ht.out (.cells #[.int .i64 0, .int .u8 2, .string s] 36)
  clear Ht
  have hB := HB.out.alloc HB.out.size (.cells #[.int .i64 0, .int .u8 2, .string s] 36)
  clear HB
  obtain ⟨gx, hge⟩ : ∃ g, g = w.heap.size := ⟨_, rfl⟩
  rw [← hge] at hx ⊢
  clear hge
  generalize w.alloc _ = w1 at *
  have Ht := Lib.hid ht
  clear ht
  have Hx := Lib.hid hx
  clear hx
  have HB := Lib.hid hB
  clear hB
  have x0 := Hx.out.cell 0
  have x1 := Hx.out.cell 1
  have x2 := Hx.out.cell 2
  simp at x0 x1 x2
  go_wp2_with fail
  refine (Hm.out _ Ht.out).mono ?_
  rintro r w2 ⟨rfl, hb2⟩
  have ht := Ht.out.below hb2 Ht.out.lt
  clear Ht
  have Ht := Lib.hid ht
  clear ht
  have hx := Hx.out.below hb2 Hx.out.lt
  clear Hx
  have Hx := Lib.hid hx
  clear hx
  have hB := HB.out.trans (hb2.mono HB.out.size)
  clear HB
  have HB := Lib.hid hB
  clear hB
  clear hb2 x0 x1 x2
  have x0 := Hx.out.cell 0
  have x1 := Hx.out.cell 1
  have x2 := Hx.out.cell 2
  simp at x0 x1 x2
  go_wp2
  go_ret
  exact ⟨rfl, Ht.out, only_of_below HB.out _⟩

theorem rdo_no_3_0 (w : World) (b : Nat) (t : Tr) (s : ByteArray) (h : RfAt w b t) (hz : Szd t) (hs : s.size ≤ 4194304) (hs1 : (!s.toList.isEmpty) = true) (hs2 : s.toList.isEmpty = false) (hr : ruleM 3 0 t s = none) :
    Calls Try.prog 13 #[.pointer (some ⟨b, 0, none⟩), .agg #[.int .i64 0, .int .u8 3, .string s]] w (RPost w b 3 t) := by
  have hm := fun W (h : RfAt W b t) => mayat3_0 W b t s h hz hs
  rw [show (ruleM 3 0 t s).isSome = false by rw [hr]; rfl] at hm
  have Hm := Lib.hid hm
  clear hm
  have hb0 : Below w.heap.size w w := Below.refl _ _
  have HB := Lib.hid hb0
  clear hb0
  have Ht := Lib.hid h
  clear h
  go_enter Try.func13, Try.ntmps13
  go_upto_region 1 with fail
  have hx := Blk.new w 36 #[.int .i64 0, .int .u8 3, .string s]
  have ht := Blk.alloc Ht.out (.cells #[.int .i64 0, .int .u8 3, .string s] 36)
  clear Ht
  have hB := HB.out.alloc HB.out.size (.cells #[.int .i64 0, .int .u8 3, .string s] 36)
  clear HB
  obtain ⟨gx, hge⟩ : ∃ g, g = w.heap.size := ⟨_, rfl⟩
  rw [← hge] at hx ⊢
  clear hge
  generalize w.alloc _ = w1 at *
  have Ht := Lib.hid ht
  clear ht
  have Hx := Lib.hid hx
  clear hx
  have HB := Lib.hid hB
  clear hB
  have x0 := Hx.out.cell 0
  have x1 := Hx.out.cell 1
  have x2 := Hx.out.cell 2
  simp at x0 x1 x2
  go_wp2_with fail
  refine (Hm.out _ Ht.out).mono ?_
  rintro r w2 ⟨rfl, hb2⟩
  have ht := Ht.out.below hb2 Ht.out.lt
  clear Ht
  have Ht := Lib.hid ht
  clear ht
  have hx := Hx.out.below hb2 Hx.out.lt
  clear Hx
  have Hx := Lib.hid hx
  clear hx
  have hB := HB.out.trans (hb2.mono HB.out.size)
  clear HB
  have HB := Lib.hid hB
  clear hB
  clear hb2 x0 x1 x2
  have x0 := Hx.out.cell 0
  have x1 := Hx.out.cell 1
  have x2 := Hx.out.cell 2
  simp at x0 x1 x2
  go_wp2
  go_ret
  exact ⟨rfl, Ht.out, only_of_below HB.out _⟩

theorem rdo_ok_3_0 (w : World) (b : Nat) (t : Tr) (s : ByteArray) (h : RfAt w b t) (hz : Szd t) (hs : s.size ≤ 4194304) (hs1 : (!s.toList.isEmpty) = true) (hs2 : s.toList.isEmpty = false) (hr : ruleM 3 0 t s = some (eff 0 3 s t)) (hf : t.s0.wr.size + s.size ≤ 1048576) :
    Calls Try.prog 13 #[.pointer (some ⟨b, 0, none⟩), .agg #[.int .i64 0, .int .u8 3, .string s]] w (RPost w b 0 (eff 0 3 s t)) := by
  have hm := fun W (h : RfAt W b t) => mayat3_0 W b t s h hz hs
  rw [show (ruleM 3 0 t s).isSome = true by rw [hr]; rfl] at hm
  have Hm := Lib.hid hm
  clear hm
  have hb0 : Below w.heap.size w w := Below.refl _ _
  have HB := Lib.hid hb0
  clear hb0
  have Ht := Lib.hid h
  clear h
  go_enter Try.func13, Try.ntmps13
  go_upto_region 1 with fail
  have hx := Blk.new w 36 #[.int .i64 0, .int .u8 3, .string s]
  have ht := Blk.alloc Ht.out (.cells #[.int .i64 0, .int .u8 3, .string s] 36)
  clear Ht
  have hB := HB.out.alloc HB.out.size (.cells #[.int .i64 0, .int .u8 3, .string s] 36)
  clear HB
  obtain ⟨gx, hge⟩ : ∃ g, g = w.heap.size := ⟨_, rfl⟩
  rw [← hge] at hx ⊢
  clear hge
  generalize w.alloc _ = w1 at *
  have Ht := Lib.hid ht
  clear ht
  have Hx := Lib.hid hx
  clear hx
  have HB := Lib.hid hB
  clear hB
  have x0 := Hx.out.cell 0
  have x1 := Hx.out.cell 1
  have x2 := Hx.out.cell 2
  simp at x0 x1 x2
  go_wp2_with fail
  refine (Hm.out _ Ht.out).mono ?_
  rintro r w2 ⟨rfl, hb2⟩
  have ht := Ht.out.below hb2 Ht.out.lt
  clear Ht
  have Ht := Lib.hid ht
  clear ht
  have hx := Hx.out.below hb2 Hx.out.lt
  clear Hx
  have Hx := Lib.hid hx
  clear hx
  have hB := HB.out.trans (hb2.mono HB.out.size)
  clear HB
  have HB := Lib.hid hB
  clear hB
  clear hb2 x0 x1 x2
  have x0 := Hx.out.cell 0
  have x1 := Hx.out.cell 1
  have x2 := Hx.out.cell 2
  simp at x0 x1 x2
  go_wp2
  go_quiet (fail)
  have ht := Blk.drewN Ht.out nq
  have hx := Blk.drewN Hx.out nq
  have hB := below_drewN HB.out nq
  clear Ht Hx HB x0 x1 x2
  generalize w2.drewN nq = W at *
  have Ht := Lib.hid ht
  have Hx := Lib.hid hx
  have HB := Lib.hid hB
  clear ht hx hB
  have x0 := Hx.out.cell 0
  have x1 := Hx.out.cell 1
  have x2 := Hx.out.cell 2
  simp at x0 x1 x2
  have c1 := Ht.out.cell 1
  simp at c1
  have hsum : IntKind.i64.wrap ((t.s0.wr.size : Int) + (s.size : Int)) = (t.s0.wr.size : Int) + (s.size : Int) := IntWalk.i64_in _ (by have := hz.1; omega)
  have hcmp : decide ((1048576 : Int) < (t.s0.wr.size : Int) + (s.size : Int)) = false := decide_eq_false (by omega)
  go_wp2
  go_quiet (fail)
  have ht := Blk.drewN Ht.out nq
  have hx := Blk.drewN Hx.out nq
  have hB := below_drewN HB.out nq
  clear Ht Hx HB x0 x1 x2 c1
  generalize W.drewN nq = V at *
  have Ht := Lib.hid ht
  have Hx := Lib.hid hx
  have HB := Lib.hid hB
  clear ht hx hB
  have x0 := Hx.out.cell 0
  have x1 := Hx.out.cell 1
  have x2 := Hx.out.cell 2
  simp at x0 x1 x2
  have c1 := Ht.out.cell 1
  simp at c1
  have f1 := Blk.frozen Ht.out 1
  have hadd := fun W : World => run_string_add_sum (P := Try.prog) W t.s0.wr s (by have := hz.1; omega)
  go_wp2
  go_still_tail 10, (by kernel_rfl)
  go_wp2
  go_ret
  exact ⟨rfl, (by have := Blk.drew (Blk.set_ Ht.out 1 (.string (t.s0.wr ++ s))); simpa [eff, gA, cA, Tr.put, Tr.own] using this), only_drew (only_set (only_of_below HB.out _) 1 _)⟩

theorem rdo_full_3_0 (w : World) (b : Nat) (t : Tr) (s : ByteArray) (h : RfAt w b t) (hz : Szd t) (hs : s.size ≤ 4194304) (hs1 : (!s.toList.isEmpty) = true) (hs2 : s.toList.isEmpty = false) (hr : ruleM 3 0 t s = some (eff 0 3 s t)) (hf : 1048576 < t.s0.wr.size + s.size) :
    Calls Try.prog 13 #[.pointer (some ⟨b, 0, none⟩), .agg #[.int .i64 0, .int .u8 3, .string s]] w (RPost w b 6 t) := by
  have hm := fun W (h : RfAt W b t) => mayat3_0 W b t s h hz hs
  rw [show (ruleM 3 0 t s).isSome = true by rw [hr]; rfl] at hm
  have Hm := Lib.hid hm
  clear hm
  have hb0 : Below w.heap.size w w := Below.refl _ _
  have HB := Lib.hid hb0
  clear hb0
  have Ht := Lib.hid h
  clear h
  go_enter Try.func13, Try.ntmps13
  go_upto_region 1 with fail
  have hx := Blk.new w 36 #[.int .i64 0, .int .u8 3, .string s]
  have ht := Blk.alloc Ht.out (.cells #[.int .i64 0, .int .u8 3, .string s] 36)
  clear Ht
  have hB := HB.out.alloc HB.out.size (.cells #[.int .i64 0, .int .u8 3, .string s] 36)
  clear HB
  obtain ⟨gx, hge⟩ : ∃ g, g = w.heap.size := ⟨_, rfl⟩
  rw [← hge] at hx ⊢
  clear hge
  generalize w.alloc _ = w1 at *
  have Ht := Lib.hid ht
  clear ht
  have Hx := Lib.hid hx
  clear hx
  have HB := Lib.hid hB
  clear hB
  have x0 := Hx.out.cell 0
  have x1 := Hx.out.cell 1
  have x2 := Hx.out.cell 2
  simp at x0 x1 x2
  go_wp2_with fail
  refine (Hm.out _ Ht.out).mono ?_
  rintro r w2 ⟨rfl, hb2⟩
  have ht := Ht.out.below hb2 Ht.out.lt
  clear Ht
  have Ht := Lib.hid ht
  clear ht
  have hx := Hx.out.below hb2 Hx.out.lt
  clear Hx
  have Hx := Lib.hid hx
  clear hx
  have hB := HB.out.trans (hb2.mono HB.out.size)
  clear HB
  have HB := Lib.hid hB
  clear hB
  clear hb2 x0 x1 x2
  have x0 := Hx.out.cell 0
  have x1 := Hx.out.cell 1
  have x2 := Hx.out.cell 2
  simp at x0 x1 x2
  go_wp2
  go_quiet (fail)
  have ht := Blk.drewN Ht.out nq
  have hx := Blk.drewN Hx.out nq
  have hB := below_drewN HB.out nq
  clear Ht Hx HB x0 x1 x2
  generalize w2.drewN nq = W at *
  have Ht := Lib.hid ht
  have Hx := Lib.hid hx
  have HB := Lib.hid hB
  clear ht hx hB
  have x0 := Hx.out.cell 0
  have x1 := Hx.out.cell 1
  have x2 := Hx.out.cell 2
  simp at x0 x1 x2
  have c1 := Ht.out.cell 1
  simp at c1
  have hsum : IntKind.i64.wrap ((t.s0.wr.size : Int) + (s.size : Int)) = (t.s0.wr.size : Int) + (s.size : Int) := IntWalk.i64_in _ (by have := hz.1; omega)
  have hcmp : decide ((1048576 : Int) < (t.s0.wr.size : Int) + (s.size : Int)) = true := decide_eq_true (by omega)
  go_wp2
  go_quiet (fail)
  have ht := Blk.drewN Ht.out nq
  have hx := Blk.drewN Hx.out nq
  have hB := below_drewN HB.out nq
  clear Ht Hx HB x0 x1 x2 c1
  generalize W.drewN nq = V at *
  have Ht := Lib.hid ht
  have Hx := Lib.hid hx
  have HB := Lib.hid hB
  clear ht hx hB
  have x0 := Hx.out.cell 0
  have x1 := Hx.out.cell 1
  have x2 := Hx.out.cell 2
  simp at x0 x1 x2
  have c1 := Ht.out.cell 1
  simp at c1
  go_wp2
  go_ret
  exact ⟨rfl, Ht.out, only_of_below HB.out _⟩

theorem rdo_no_4_0 (w : World) (b : Nat) (t : Tr) (s : ByteArray) (h : RfAt w b t) (hz : Szd t) (hs : s.size ≤ 4194304) (hs1 : (!s.toList.isEmpty) = true) (hs2 : s.toList.isEmpty = false) (hr : ruleM 4 0 t s = none) :
    Calls Try.prog 13 #[.pointer (some ⟨b, 0, none⟩), .agg #[.int .i64 0, .int .u8 4, .string s]] w (RPost w b 3 t) := by
  have hm := fun W (h : RfAt W b t) => mayat4_0 W b t s h hz hs
  rw [show (ruleM 4 0 t s).isSome = false by rw [hr]; rfl] at hm
  have Hm := Lib.hid hm
  clear hm
  have hb0 : Below w.heap.size w w := Below.refl _ _
  have HB := Lib.hid hb0
  clear hb0
  have Ht := Lib.hid h
  clear h
  go_enter Try.func13, Try.ntmps13
  go_upto_region 1 with fail
  have hx := Blk.new w 36 #[.int .i64 0, .int .u8 4, .string s]
  have ht := Blk.alloc Ht.out (.cells #[.int .i64 0, .int .u8 4, .string s] 36)
  clear Ht
  have hB := HB.out.alloc HB.out.size (.cells #[.int .i64 0, .int .u8 4, .string s] 36)
  clear HB
  obtain ⟨gx, hge⟩ : ∃ g, g = w.heap.size := ⟨_, rfl⟩
  rw [← hge] at hx ⊢
  clear hge
  generalize w.alloc _ = w1 at *
  have Ht := Lib.hid ht
  clear ht
  have Hx := Lib.hid hx
  clear hx
  have HB := Lib.hid hB
  clear hB
  have x0 := Hx.out.cell 0
  have x1 := Hx.out.cell 1
  have x2 := Hx.out.cell 2
  simp at x0 x1 x2
  go_wp2_with fail
  refine (Hm.out _ Ht.out).mono ?_
  rintro r w2 ⟨rfl, hb2⟩
  have ht := Ht.out.below hb2 Ht.out.lt
  clear Ht
  have Ht := Lib.hid ht
  clear ht
  have hx := Hx.out.below hb2 Hx.out.lt
  clear Hx
  have Hx := Lib.hid hx
  clear hx
  have hB := HB.out.trans (hb2.mono HB.out.size)
  clear HB
  have HB := Lib.hid hB
  clear hB
  clear hb2 x0 x1 x2
  have x0 := Hx.out.cell 0
  have x1 := Hx.out.cell 1
  have x2 := Hx.out.cell 2
  simp at x0 x1 x2
  go_wp2
  go_ret
  exact ⟨rfl, Ht.out, only_of_below HB.out _⟩

theorem rdo_ok_4_0 (w : World) (b : Nat) (t : Tr) (s : ByteArray) (h : RfAt w b t) (hz : Szd t) (hs : s.size ≤ 4194304) (hs1 : (!s.toList.isEmpty) = true) (hs2 : s.toList.isEmpty = false) (hr : ruleM 4 0 t s = some (eff 0 4 s t)) :
    Calls Try.prog 13 #[.pointer (some ⟨b, 0, none⟩), .agg #[.int .i64 0, .int .u8 4, .string s]] w (RPost w b 0 (eff 0 4 s t)) := by
  have hm := fun W (h : RfAt W b t) => mayat4_0 W b t s h hz hs
  rw [show (ruleM 4 0 t s).isSome = true by rw [hr]; rfl] at hm
  have Hm := Lib.hid hm
  clear hm
  have hb0 : Below w.heap.size w w := Below.refl _ _
  have HB := Lib.hid hb0
  clear hb0
  have Ht := Lib.hid h
  clear h
  go_enter Try.func13, Try.ntmps13
  go_upto_region 1 with fail
  have hx := Blk.new w 36 #[.int .i64 0, .int .u8 4, .string s]
  have ht := Blk.alloc Ht.out (.cells #[.int .i64 0, .int .u8 4, .string s] 36)
  clear Ht
  have hB := HB.out.alloc HB.out.size (.cells #[.int .i64 0, .int .u8 4, .string s] 36)
  clear HB
  obtain ⟨gx, hge⟩ : ∃ g, g = w.heap.size := ⟨_, rfl⟩
  rw [← hge] at hx ⊢
  clear hge
  generalize w.alloc _ = w1 at *
  have Ht := Lib.hid ht
  clear ht
  have Hx := Lib.hid hx
  clear hx
  have HB := Lib.hid hB
  clear hB
  have x0 := Hx.out.cell 0
  have x1 := Hx.out.cell 1
  have x2 := Hx.out.cell 2
  simp at x0 x1 x2
  go_wp2_with fail
  refine (Hm.out _ Ht.out).mono ?_
  rintro r w2 ⟨rfl, hb2⟩
  have ht := Ht.out.below hb2 Ht.out.lt
  clear Ht
  have Ht := Lib.hid ht
  clear ht
  have hx := Hx.out.below hb2 Hx.out.lt
  clear Hx
  have Hx := Lib.hid hx
  clear hx
  have hB := HB.out.trans (hb2.mono HB.out.size)
  clear HB
  have HB := Lib.hid hB
  clear hB
  clear hb2 x0 x1 x2
  have x0 := Hx.out.cell 0
  have x1 := Hx.out.cell 1
  have x2 := Hx.out.cell 2
  simp at x0 x1 x2
  go_wp2
  go_quiet (fail)
  have ht := Blk.drewN Ht.out nq
  have hx := Blk.drewN Hx.out nq
  have hB := below_drewN HB.out nq
  clear Ht Hx HB x0 x1 x2
  generalize w2.drewN nq = W at *
  have Ht := Lib.hid ht
  have Hx := Lib.hid hx
  have HB := Lib.hid hB
  clear ht hx hB
  have x0 := Hx.out.cell 0
  have x1 := Hx.out.cell 1
  have x2 := Hx.out.cell 2
  simp at x0 x1 x2
  have f1 := Blk.frozen Ht.out 2
  have c1 := Ht.out.cell 2
  simp at c1
  have hsum : IntKind.i64.wrap ((t.s0.rd : Int) + (s.size : Int)) = ((t.s0.rd + s.size : Nat) : Int) := by rw [IntWalk.i64_in _ (by have := hz.1; have := hz.2.1; have := hz.2.2.1; have := hz.2.2.2; omega)]; omega
  go_wp2
  go_still_tail 11, (by kernel_rfl)
  go_wp2
  go_ret
  exact ⟨rfl, (by have := Blk.drew (Blk.set_ Ht.out 2 (.int .i64 ((t.s0.rd + s.size : Nat) : Int))); simpa [RfAt, eff, gA, cA, Tr.put, Tr.own] using this), only_drew (only_set (only_of_below HB.out _) 2 _)⟩

theorem rdo_no_5_0 (w : World) (b : Nat) (t : Tr) (s : ByteArray) (h : RfAt w b t) (hz : Szd t) (hs : s.size ≤ 4194304) (hs1 : s.toList = []) (hs2 : s.toList.isEmpty = true) (hr : ruleM 5 0 t s = none) :
    Calls Try.prog 13 #[.pointer (some ⟨b, 0, none⟩), .agg #[.int .i64 0, .int .u8 5, .string s]] w (RPost w b 3 t) := by
  have hm := fun W (h : RfAt W b t) => mayat5_0 W b t s h hz hs
  rw [show (ruleM 5 0 t s).isSome = false by rw [hr]; rfl] at hm
  have Hm := Lib.hid hm
  clear hm
  have hb0 : Below w.heap.size w w := Below.refl _ _
  have HB := Lib.hid hb0
  clear hb0
  have Ht := Lib.hid h
  clear h
  go_enter Try.func13, Try.ntmps13
  go_upto_region 1 with fail
  have hx := Blk.new w 36 #[.int .i64 0, .int .u8 5, .string s]
  have ht := Blk.alloc Ht.out (.cells #[.int .i64 0, .int .u8 5, .string s] 36)
  clear Ht
  have hB := HB.out.alloc HB.out.size (.cells #[.int .i64 0, .int .u8 5, .string s] 36)
  clear HB
  obtain ⟨gx, hge⟩ : ∃ g, g = w.heap.size := ⟨_, rfl⟩
  rw [← hge] at hx ⊢
  clear hge
  generalize w.alloc _ = w1 at *
  have Ht := Lib.hid ht
  clear ht
  have Hx := Lib.hid hx
  clear hx
  have HB := Lib.hid hB
  clear hB
  have x0 := Hx.out.cell 0
  have x1 := Hx.out.cell 1
  have x2 := Hx.out.cell 2
  simp at x0 x1 x2
  go_wp2_with fail
  refine (Hm.out _ Ht.out).mono ?_
  rintro r w2 ⟨rfl, hb2⟩
  have ht := Ht.out.below hb2 Ht.out.lt
  clear Ht
  have Ht := Lib.hid ht
  clear ht
  have hx := Hx.out.below hb2 Hx.out.lt
  clear Hx
  have Hx := Lib.hid hx
  clear hx
  have hB := HB.out.trans (hb2.mono HB.out.size)
  clear HB
  have HB := Lib.hid hB
  clear hB
  clear hb2 x0 x1 x2
  have x0 := Hx.out.cell 0
  have x1 := Hx.out.cell 1
  have x2 := Hx.out.cell 2
  simp at x0 x1 x2
  go_wp2
  go_ret
  exact ⟨rfl, Ht.out, only_of_below HB.out _⟩

theorem rdo_ok_5_0 (w : World) (b : Nat) (t : Tr) (s : ByteArray) (h : RfAt w b t) (hz : Szd t) (hs : s.size ≤ 4194304) (hs1 : s.toList = []) (hs2 : s.toList.isEmpty = true) (hr : ruleM 5 0 t s = some (eff 0 5 s t)) :
    Calls Try.prog 13 #[.pointer (some ⟨b, 0, none⟩), .agg #[.int .i64 0, .int .u8 5, .string s]] w (RPost w b 0 (eff 0 5 s t)) := by
  have hm := fun W (h : RfAt W b t) => mayat5_0 W b t s h hz hs
  rw [show (ruleM 5 0 t s).isSome = true by rw [hr]; rfl] at hm
  have Hm := Lib.hid hm
  clear hm
  have hb0 : Below w.heap.size w w := Below.refl _ _
  have HB := Lib.hid hb0
  clear hb0
  have Ht := Lib.hid h
  clear h
  go_enter Try.func13, Try.ntmps13
  go_upto_region 1 with fail
  have hx := Blk.new w 36 #[.int .i64 0, .int .u8 5, .string s]
  have ht := Blk.alloc Ht.out (.cells #[.int .i64 0, .int .u8 5, .string s] 36)
  clear Ht
  have hB := HB.out.alloc HB.out.size (.cells #[.int .i64 0, .int .u8 5, .string s] 36)
  clear HB
  obtain ⟨gx, hge⟩ : ∃ g, g = w.heap.size := ⟨_, rfl⟩
  rw [← hge] at hx ⊢
  clear hge
  generalize w.alloc _ = w1 at *
  have Ht := Lib.hid ht
  clear ht
  have Hx := Lib.hid hx
  clear hx
  have HB := Lib.hid hB
  clear hB
  have x0 := Hx.out.cell 0
  have x1 := Hx.out.cell 1
  have x2 := Hx.out.cell 2
  simp at x0 x1 x2
  go_wp2_with fail
  refine (Hm.out _ Ht.out).mono ?_
  rintro r w2 ⟨rfl, hb2⟩
  have ht := Ht.out.below hb2 Ht.out.lt
  clear Ht
  have Ht := Lib.hid ht
  clear ht
  have hx := Hx.out.below hb2 Hx.out.lt
  clear Hx
  have Hx := Lib.hid hx
  clear hx
  have hB := HB.out.trans (hb2.mono HB.out.size)
  clear HB
  have HB := Lib.hid hB
  clear hB
  clear hb2 x0 x1 x2
  have x0 := Hx.out.cell 0
  have x1 := Hx.out.cell 1
  have x2 := Hx.out.cell 2
  simp at x0 x1 x2
  go_wp2
  go_quiet (fail)
  have ht := Blk.drewN Ht.out nq
  have hx := Blk.drewN Hx.out nq
  have hB := below_drewN HB.out nq
  clear Ht Hx HB x0 x1 x2
  generalize w2.drewN nq = W at *
  have Ht := Lib.hid ht
  have Hx := Lib.hid hx
  have HB := Lib.hid hB
  clear ht hx hB
  have x0 := Hx.out.cell 0
  have x1 := Hx.out.cell 1
  have x2 := Hx.out.cell 2
  simp at x0 x1 x2
  have f1 := Blk.frozen Ht.out 3
  have c1 := Ht.out.cell 3
  simp at c1
  go_wp2
  go_ret
  exact ⟨rfl, (by have := Blk.set_ Ht.out 3 (.bool true); simpa [eff, gA, cA, Tr.put, Tr.own] using this), only_set (only_of_below HB.out _) 3 _⟩

theorem rdo_no_6_0 (w : World) (b : Nat) (t : Tr) (s : ByteArray) (h : RfAt w b t) (hz : Szd t) (hs : s.size ≤ 4194304) (hs1 : s.toList = []) (hs2 : s.toList.isEmpty = true) (hr : ruleM 6 0 t s = none) :
    Calls Try.prog 13 #[.pointer (some ⟨b, 0, none⟩), .agg #[.int .i64 0, .int .u8 6, .string s]] w (RPost w b 3 t) := by
  have hm := fun W (h : RfAt W b t) => mayat6_0 W b t s h hz hs
  rw [show (ruleM 6 0 t s).isSome = false by rw [hr]; rfl] at hm
  have Hm := Lib.hid hm
  clear hm
  have hb0 : Below w.heap.size w w := Below.refl _ _
  have HB := Lib.hid hb0
  clear hb0
  have Ht := Lib.hid h
  clear h
  go_enter Try.func13, Try.ntmps13
  go_upto_region 1 with fail
  have hx := Blk.new w 36 #[.int .i64 0, .int .u8 6, .string s]
  have ht := Blk.alloc Ht.out (.cells #[.int .i64 0, .int .u8 6, .string s] 36)
  clear Ht
  have hB := HB.out.alloc HB.out.size (.cells #[.int .i64 0, .int .u8 6, .string s] 36)
  clear HB
  obtain ⟨gx, hge⟩ : ∃ g, g = w.heap.size := ⟨_, rfl⟩
  rw [← hge] at hx ⊢
  clear hge
  generalize w.alloc _ = w1 at *
  have Ht := Lib.hid ht
  clear ht
  have Hx := Lib.hid hx
  clear hx
  have HB := Lib.hid hB
  clear hB
  have x0 := Hx.out.cell 0
  have x1 := Hx.out.cell 1
  have x2 := Hx.out.cell 2
  simp at x0 x1 x2
  go_wp2_with fail
  refine (Hm.out _ Ht.out).mono ?_
  rintro r w2 ⟨rfl, hb2⟩
  have ht := Ht.out.below hb2 Ht.out.lt
  clear Ht
  have Ht := Lib.hid ht
  clear ht
  have hx := Hx.out.below hb2 Hx.out.lt
  clear Hx
  have Hx := Lib.hid hx
  clear hx
  have hB := HB.out.trans (hb2.mono HB.out.size)
  clear HB
  have HB := Lib.hid hB
  clear hB
  clear hb2 x0 x1 x2
  have x0 := Hx.out.cell 0
  have x1 := Hx.out.cell 1
  have x2 := Hx.out.cell 2
  simp at x0 x1 x2
  go_wp2
  go_ret
  exact ⟨rfl, Ht.out, only_of_below HB.out _⟩

theorem rdo_ok_6_0 (w : World) (b : Nat) (t : Tr) (s : ByteArray) (h : RfAt w b t) (hz : Szd t) (hs : s.size ≤ 4194304) (hs1 : s.toList = []) (hs2 : s.toList.isEmpty = true) (hr : ruleM 6 0 t s = some (eff 0 6 s t)) :
    Calls Try.prog 13 #[.pointer (some ⟨b, 0, none⟩), .agg #[.int .i64 0, .int .u8 6, .string s]] w (RPost w b 0 (eff 0 6 s t)) := by
  have hm := fun W (h : RfAt W b t) => mayat6_0 W b t s h hz hs
  rw [show (ruleM 6 0 t s).isSome = true by rw [hr]; rfl] at hm
  have Hm := Lib.hid hm
  clear hm
  have hb0 : Below w.heap.size w w := Below.refl _ _
  have HB := Lib.hid hb0
  clear hb0
  have Ht := Lib.hid h
  clear h
  go_enter Try.func13, Try.ntmps13
  go_upto_region 1 with fail
  have hx := Blk.new w 36 #[.int .i64 0, .int .u8 6, .string s]
  have ht := Blk.alloc Ht.out (.cells #[.int .i64 0, .int .u8 6, .string s] 36)
  clear Ht
  have hB := HB.out.alloc HB.out.size (.cells #[.int .i64 0, .int .u8 6, .string s] 36)
  clear HB
  obtain ⟨gx, hge⟩ : ∃ g, g = w.heap.size := ⟨_, rfl⟩
  rw [← hge] at hx ⊢
  clear hge
  generalize w.alloc _ = w1 at *
  have Ht := Lib.hid ht
  clear ht
  have Hx := Lib.hid hx
  clear hx
  have HB := Lib.hid hB
  clear hB
  have x0 := Hx.out.cell 0
  have x1 := Hx.out.cell 1
  have x2 := Hx.out.cell 2
  simp at x0 x1 x2
  go_wp2_with fail
  refine (Hm.out _ Ht.out).mono ?_
  rintro r w2 ⟨rfl, hb2⟩
  have ht := Ht.out.below hb2 Ht.out.lt
  clear Ht
  have Ht := Lib.hid ht
  clear ht
  have hx := Hx.out.below hb2 Hx.out.lt
  clear Hx
  have Hx := Lib.hid hx
  clear hx
  have hB := HB.out.trans (hb2.mono HB.out.size)
  clear HB
  have HB := Lib.hid hB
  clear hB
  clear hb2 x0 x1 x2
  have x0 := Hx.out.cell 0
  have x1 := Hx.out.cell 1
  have x2 := Hx.out.cell 2
  simp at x0 x1 x2
  go_wp2
  go_quiet (fail)
  have ht := Blk.drewN Ht.out nq
  have hx := Blk.drewN Hx.out nq
  have hB := below_drewN HB.out nq
  clear Ht Hx HB x0 x1 x2
  generalize w2.drewN nq = W at *
  have Ht := Lib.hid ht
  have Hx := Lib.hid hx
  have HB := Lib.hid hB
  clear ht hx hB
  have x0 := Hx.out.cell 0
  have x1 := Hx.out.cell 1
  have x2 := Hx.out.cell 2
  simp at x0 x1 x2
  have f1 := Blk.frozen Ht.out 4
  have c1 := Ht.out.cell 4
  simp at c1
  go_wp2
  go_ret
  exact ⟨rfl, (by have := Blk.set_ Ht.out 4 (.bool true); simpa [eff, gA, cA, Tr.put, Tr.own] using this), only_set (only_of_below HB.out _) 4 _⟩

theorem rdo_no_7_0 (w : World) (b : Nat) (t : Tr) (s : ByteArray) (h : RfAt w b t) (hz : Szd t) (hs : s.size ≤ 4194304) (hs1 : s.toList = []) (hs2 : s.toList.isEmpty = true) (hr : ruleM 7 0 t s = none) :
    Calls Try.prog 13 #[.pointer (some ⟨b, 0, none⟩), .agg #[.int .i64 0, .int .u8 7, .string s]] w (RPost w b 3 t) := by
  have hm := fun W (h : RfAt W b t) => mayat7_0 W b t s h hz hs
  rw [show (ruleM 7 0 t s).isSome = false by rw [hr]; rfl] at hm
  have Hm := Lib.hid hm
  clear hm
  have hb0 : Below w.heap.size w w := Below.refl _ _
  have HB := Lib.hid hb0
  clear hb0
  have Ht := Lib.hid h
  clear h
  go_enter Try.func13, Try.ntmps13
  go_upto_region 1 with fail
  have hx := Blk.new w 36 #[.int .i64 0, .int .u8 7, .string s]
  have ht := Blk.alloc Ht.out (.cells #[.int .i64 0, .int .u8 7, .string s] 36)
  clear Ht
  have hB := HB.out.alloc HB.out.size (.cells #[.int .i64 0, .int .u8 7, .string s] 36)
  clear HB
  obtain ⟨gx, hge⟩ : ∃ g, g = w.heap.size := ⟨_, rfl⟩
  rw [← hge] at hx ⊢
  clear hge
  generalize w.alloc _ = w1 at *
  have Ht := Lib.hid ht
  clear ht
  have Hx := Lib.hid hx
  clear hx
  have HB := Lib.hid hB
  clear hB
  have x0 := Hx.out.cell 0
  have x1 := Hx.out.cell 1
  have x2 := Hx.out.cell 2
  simp at x0 x1 x2
  go_wp2_with fail
  refine (Hm.out _ Ht.out).mono ?_
  rintro r w2 ⟨rfl, hb2⟩
  have ht := Ht.out.below hb2 Ht.out.lt
  clear Ht
  have Ht := Lib.hid ht
  clear ht
  have hx := Hx.out.below hb2 Hx.out.lt
  clear Hx
  have Hx := Lib.hid hx
  clear hx
  have hB := HB.out.trans (hb2.mono HB.out.size)
  clear HB
  have HB := Lib.hid hB
  clear hB
  clear hb2 x0 x1 x2
  have x0 := Hx.out.cell 0
  have x1 := Hx.out.cell 1
  have x2 := Hx.out.cell 2
  simp at x0 x1 x2
  go_wp2
  go_ret
  exact ⟨rfl, Ht.out, only_of_below HB.out _⟩

theorem rdo_ok_7_0 (w : World) (b : Nat) (t : Tr) (s : ByteArray) (h : RfAt w b t) (hz : Szd t) (hs : s.size ≤ 4194304) (hs1 : s.toList = []) (hs2 : s.toList.isEmpty = true) (hr : ruleM 7 0 t s = some (eff 0 7 s t)) :
    Calls Try.prog 13 #[.pointer (some ⟨b, 0, none⟩), .agg #[.int .i64 0, .int .u8 7, .string s]] w (RPost w b 0 (eff 0 7 s t)) := by
  have hm := fun W (h : RfAt W b t) => mayat7_0 W b t s h hz hs
  rw [show (ruleM 7 0 t s).isSome = true by rw [hr]; rfl] at hm
  have Hm := Lib.hid hm
  clear hm
  have hb0 : Below w.heap.size w w := Below.refl _ _
  have HB := Lib.hid hb0
  clear hb0
  have Ht := Lib.hid h
  clear h
  go_enter Try.func13, Try.ntmps13
  go_upto_region 1 with fail
  have hx := Blk.new w 36 #[.int .i64 0, .int .u8 7, .string s]
  have ht := Blk.alloc Ht.out (.cells #[.int .i64 0, .int .u8 7, .string s] 36)
  clear Ht
  have hB := HB.out.alloc HB.out.size (.cells #[.int .i64 0, .int .u8 7, .string s] 36)
  clear HB
  obtain ⟨gx, hge⟩ : ∃ g, g = w.heap.size := ⟨_, rfl⟩
  rw [← hge] at hx ⊢
  clear hge
  generalize w.alloc _ = w1 at *
  have Ht := Lib.hid ht
  clear ht
  have Hx := Lib.hid hx
  clear hx
  have HB := Lib.hid hB
  clear hB
  have x0 := Hx.out.cell 0
  have x1 := Hx.out.cell 1
  have x2 := Hx.out.cell 2
  simp at x0 x1 x2
  go_wp2_with fail
  refine (Hm.out _ Ht.out).mono ?_
  rintro r w2 ⟨rfl, hb2⟩
  have ht := Ht.out.below hb2 Ht.out.lt
  clear Ht
  have Ht := Lib.hid ht
  clear ht
  have hx := Hx.out.below hb2 Hx.out.lt
  clear Hx
  have Hx := Lib.hid hx
  clear hx
  have hB := HB.out.trans (hb2.mono HB.out.size)
  clear HB
  have HB := Lib.hid hB
  clear hB
  clear hb2 x0 x1 x2
  have x0 := Hx.out.cell 0
  have x1 := Hx.out.cell 1
  have x2 := Hx.out.cell 2
  simp at x0 x1 x2
  go_wp2
  go_quiet (fail)
  have ht := Blk.drewN Ht.out nq
  have hx := Blk.drewN Hx.out nq
  have hB := below_drewN HB.out nq
  clear Ht Hx HB x0 x1 x2
  generalize w2.drewN nq = W at *
  have Ht := Lib.hid ht
  have Hx := Lib.hid hx
  have HB := Lib.hid hB
  clear ht hx hB
  have x0 := Hx.out.cell 0
  have x1 := Hx.out.cell 1
  have x2 := Hx.out.cell 2
  simp at x0 x1 x2
  have f12 := Blk.frozen Ht.out 12
  have c12 := Ht.out.cell 12
  have f5 := Blk.frozen Ht.out 5
  have c5 := Ht.out.cell 5
  simp at c12 c5
  go_wp2
  go_ret
  exact ⟨rfl, (by have := Blk.set_ (Blk.set_ Ht.out 5 (.bool true)) 12 (.bool true); simpa [eff, gA, cA, Tr.put, Tr.own] using this), only_set (only_set (only_of_below HB.out _) 5 _) 12 _⟩

theorem rdo_no_8_0 (w : World) (b : Nat) (t : Tr) (s : ByteArray) (h : RfAt w b t) (hz : Szd t) (hs : s.size ≤ 4194304) (hs1 : s.toList = []) (hs2 : s.toList.isEmpty = true) (hr : ruleM 8 0 t s = none) :
    Calls Try.prog 13 #[.pointer (some ⟨b, 0, none⟩), .agg #[.int .i64 0, .int .u8 8, .string s]] w (RPost w b 3 t) := by
  have hm := fun W (h : RfAt W b t) => mayat8_0 W b t s h hz hs
  rw [show (ruleM 8 0 t s).isSome = false by rw [hr]; rfl] at hm
  have Hm := Lib.hid hm
  clear hm
  have hb0 : Below w.heap.size w w := Below.refl _ _
  have HB := Lib.hid hb0
  clear hb0
  have Ht := Lib.hid h
  clear h
  go_enter Try.func13, Try.ntmps13
  go_upto_region 1 with fail
  have hx := Blk.new w 36 #[.int .i64 0, .int .u8 8, .string s]
  have ht := Blk.alloc Ht.out (.cells #[.int .i64 0, .int .u8 8, .string s] 36)
  clear Ht
  have hB := HB.out.alloc HB.out.size (.cells #[.int .i64 0, .int .u8 8, .string s] 36)
  clear HB
  obtain ⟨gx, hge⟩ : ∃ g, g = w.heap.size := ⟨_, rfl⟩
  rw [← hge] at hx ⊢
  clear hge
  generalize w.alloc _ = w1 at *
  have Ht := Lib.hid ht
  clear ht
  have Hx := Lib.hid hx
  clear hx
  have HB := Lib.hid hB
  clear hB
  have x0 := Hx.out.cell 0
  have x1 := Hx.out.cell 1
  have x2 := Hx.out.cell 2
  simp at x0 x1 x2
  go_wp2_with fail
  refine (Hm.out _ Ht.out).mono ?_
  rintro r w2 ⟨rfl, hb2⟩
  have ht := Ht.out.below hb2 Ht.out.lt
  clear Ht
  have Ht := Lib.hid ht
  clear ht
  have hx := Hx.out.below hb2 Hx.out.lt
  clear Hx
  have Hx := Lib.hid hx
  clear hx
  have hB := HB.out.trans (hb2.mono HB.out.size)
  clear HB
  have HB := Lib.hid hB
  clear hB
  clear hb2 x0 x1 x2
  have x0 := Hx.out.cell 0
  have x1 := Hx.out.cell 1
  have x2 := Hx.out.cell 2
  simp at x0 x1 x2
  go_wp2
  go_ret
  exact ⟨rfl, Ht.out, only_of_below HB.out _⟩

theorem rdo_ok_8_0 (w : World) (b : Nat) (t : Tr) (s : ByteArray) (h : RfAt w b t) (hz : Szd t) (hs : s.size ≤ 4194304) (hs1 : s.toList = []) (hs2 : s.toList.isEmpty = true) (hr : ruleM 8 0 t s = some (eff 0 8 s t)) :
    Calls Try.prog 13 #[.pointer (some ⟨b, 0, none⟩), .agg #[.int .i64 0, .int .u8 8, .string s]] w (RPost w b 0 (eff 0 8 s t)) := by
  have hm := fun W (h : RfAt W b t) => mayat8_0 W b t s h hz hs
  rw [show (ruleM 8 0 t s).isSome = true by rw [hr]; rfl] at hm
  have Hm := Lib.hid hm
  clear hm
  have hb0 : Below w.heap.size w w := Below.refl _ _
  have HB := Lib.hid hb0
  clear hb0
  have Ht := Lib.hid h
  clear h
  go_enter Try.func13, Try.ntmps13
  go_upto_region 1 with fail
  have hx := Blk.new w 36 #[.int .i64 0, .int .u8 8, .string s]
  have ht := Blk.alloc Ht.out (.cells #[.int .i64 0, .int .u8 8, .string s] 36)
  clear Ht
  have hB := HB.out.alloc HB.out.size (.cells #[.int .i64 0, .int .u8 8, .string s] 36)
  clear HB
  obtain ⟨gx, hge⟩ : ∃ g, g = w.heap.size := ⟨_, rfl⟩
  rw [← hge] at hx ⊢
  clear hge
  generalize w.alloc _ = w1 at *
  have Ht := Lib.hid ht
  clear ht
  have Hx := Lib.hid hx
  clear hx
  have HB := Lib.hid hB
  clear hB
  have x0 := Hx.out.cell 0
  have x1 := Hx.out.cell 1
  have x2 := Hx.out.cell 2
  simp at x0 x1 x2
  go_wp2_with fail
  refine (Hm.out _ Ht.out).mono ?_
  rintro r w2 ⟨rfl, hb2⟩
  have ht := Ht.out.below hb2 Ht.out.lt
  clear Ht
  have Ht := Lib.hid ht
  clear ht
  have hx := Hx.out.below hb2 Hx.out.lt
  clear Hx
  have Hx := Lib.hid hx
  clear hx
  have hB := HB.out.trans (hb2.mono HB.out.size)
  clear HB
  have HB := Lib.hid hB
  clear hB
  clear hb2 x0 x1 x2
  have x0 := Hx.out.cell 0
  have x1 := Hx.out.cell 1
  have x2 := Hx.out.cell 2
  simp at x0 x1 x2
  go_wp2
  go_quiet (fail)
  have ht := Blk.drewN Ht.out nq
  have hx := Blk.drewN Hx.out nq
  have hB := below_drewN HB.out nq
  clear Ht Hx HB x0 x1 x2
  generalize w2.drewN nq = W at *
  have Ht := Lib.hid ht
  have Hx := Lib.hid hx
  have HB := Lib.hid hB
  clear ht hx hB
  have x0 := Hx.out.cell 0
  have x1 := Hx.out.cell 1
  have x2 := Hx.out.cell 2
  simp at x0 x1 x2
  have f1 := Blk.frozen Ht.out 5
  have c1 := Ht.out.cell 5
  simp at c1
  go_wp2
  go_ret
  exact ⟨rfl, (by have := Blk.set_ Ht.out 5 (.bool true); simpa [eff, gA, cA, Tr.put, Tr.own] using this), only_set (only_of_below HB.out _) 5 _⟩

theorem rdo_no_9_0 (w : World) (b : Nat) (t : Tr) (s : ByteArray) (h : RfAt w b t) (hz : Szd t) (hs : s.size ≤ 4194304) (hs1 : s.toList = []) (hs2 : s.toList.isEmpty = true) (hr : ruleM 9 0 t s = none) :
    Calls Try.prog 13 #[.pointer (some ⟨b, 0, none⟩), .agg #[.int .i64 0, .int .u8 9, .string s]] w (RPost w b 3 t) := by
  have hm := fun W (h : RfAt W b t) => mayat9_0 W b t s h hz hs
  rw [show (ruleM 9 0 t s).isSome = false by rw [hr]; rfl] at hm
  have Hm := Lib.hid hm
  clear hm
  have hb0 : Below w.heap.size w w := Below.refl _ _
  have HB := Lib.hid hb0
  clear hb0
  have Ht := Lib.hid h
  clear h
  go_enter Try.func13, Try.ntmps13
  go_upto_region 1 with fail
  have hx := Blk.new w 36 #[.int .i64 0, .int .u8 9, .string s]
  have ht := Blk.alloc Ht.out (.cells #[.int .i64 0, .int .u8 9, .string s] 36)
  clear Ht
  have hB := HB.out.alloc HB.out.size (.cells #[.int .i64 0, .int .u8 9, .string s] 36)
  clear HB
  obtain ⟨gx, hge⟩ : ∃ g, g = w.heap.size := ⟨_, rfl⟩
  rw [← hge] at hx ⊢
  clear hge
  generalize w.alloc _ = w1 at *
  have Ht := Lib.hid ht
  clear ht
  have Hx := Lib.hid hx
  clear hx
  have HB := Lib.hid hB
  clear hB
  have x0 := Hx.out.cell 0
  have x1 := Hx.out.cell 1
  have x2 := Hx.out.cell 2
  simp at x0 x1 x2
  go_wp2_with fail
  refine (Hm.out _ Ht.out).mono ?_
  rintro r w2 ⟨rfl, hb2⟩
  have ht := Ht.out.below hb2 Ht.out.lt
  clear Ht
  have Ht := Lib.hid ht
  clear ht
  have hx := Hx.out.below hb2 Hx.out.lt
  clear Hx
  have Hx := Lib.hid hx
  clear hx
  have hB := HB.out.trans (hb2.mono HB.out.size)
  clear HB
  have HB := Lib.hid hB
  clear hB
  clear hb2 x0 x1 x2
  have x0 := Hx.out.cell 0
  have x1 := Hx.out.cell 1
  have x2 := Hx.out.cell 2
  simp at x0 x1 x2
  go_wp2
  go_ret
  exact ⟨rfl, Ht.out, only_of_below HB.out _⟩

theorem rdo_ok_9_0 (w : World) (b : Nat) (t : Tr) (s : ByteArray) (h : RfAt w b t) (hz : Szd t) (hs : s.size ≤ 4194304) (hs1 : s.toList = []) (hs2 : s.toList.isEmpty = true) (hr : ruleM 9 0 t s = some (eff 0 9 s t)) :
    Calls Try.prog 13 #[.pointer (some ⟨b, 0, none⟩), .agg #[.int .i64 0, .int .u8 9, .string s]] w (RPost w b 0 (eff 0 9 s t)) := by
  have hm := fun W (h : RfAt W b t) => mayat9_0 W b t s h hz hs
  rw [show (ruleM 9 0 t s).isSome = true by rw [hr]; rfl] at hm
  have Hm := Lib.hid hm
  clear hm
  have hb0 : Below w.heap.size w w := Below.refl _ _
  have HB := Lib.hid hb0
  clear hb0
  have Ht := Lib.hid h
  clear h
  go_enter Try.func13, Try.ntmps13
  go_upto_region 1 with fail
  have hx := Blk.new w 36 #[.int .i64 0, .int .u8 9, .string s]
  have ht := Blk.alloc Ht.out (.cells #[.int .i64 0, .int .u8 9, .string s] 36)
  clear Ht
  have hB := HB.out.alloc HB.out.size (.cells #[.int .i64 0, .int .u8 9, .string s] 36)
  clear HB
  obtain ⟨gx, hge⟩ : ∃ g, g = w.heap.size := ⟨_, rfl⟩
  rw [← hge] at hx ⊢
  clear hge
  generalize w.alloc _ = w1 at *
  have Ht := Lib.hid ht
  clear ht
  have Hx := Lib.hid hx
  clear hx
  have HB := Lib.hid hB
  clear hB
  have x0 := Hx.out.cell 0
  have x1 := Hx.out.cell 1
  have x2 := Hx.out.cell 2
  simp at x0 x1 x2
  go_wp2_with fail
  refine (Hm.out _ Ht.out).mono ?_
  rintro r w2 ⟨rfl, hb2⟩
  have ht := Ht.out.below hb2 Ht.out.lt
  clear Ht
  have Ht := Lib.hid ht
  clear ht
  have hx := Hx.out.below hb2 Hx.out.lt
  clear Hx
  have Hx := Lib.hid hx
  clear hx
  have hB := HB.out.trans (hb2.mono HB.out.size)
  clear HB
  have HB := Lib.hid hB
  clear hB
  clear hb2 x0 x1 x2
  have x0 := Hx.out.cell 0
  have x1 := Hx.out.cell 1
  have x2 := Hx.out.cell 2
  simp at x0 x1 x2
  go_wp2
  go_quiet (fail)
  have ht := Blk.drewN Ht.out nq
  have hx := Blk.drewN Hx.out nq
  have hB := below_drewN HB.out nq
  clear Ht Hx HB x0 x1 x2
  generalize w2.drewN nq = W at *
  have Ht := Lib.hid ht
  have Hx := Lib.hid hx
  have HB := Lib.hid hB
  clear ht hx hB
  have x0 := Hx.out.cell 0
  have x1 := Hx.out.cell 1
  have x2 := Hx.out.cell 2
  simp at x0 x1 x2
  have f12 := Blk.frozen Ht.out 12
  have c12 := Ht.out.cell 12
  simp at c12
  go_wp2
  go_ret
  exact ⟨rfl, (by have := Blk.set_ Ht.out 12 (.bool true); simpa [eff, gA, cA, Tr.put, Tr.own] using this), only_set (only_of_below HB.out _) 12 _⟩

theorem rdo_no_1_1 (w : World) (b : Nat) (t : Tr) (s : ByteArray) (h : RfAt w b t) (hz : Szd t) (hs : s.size ≤ 4194304) (hs1 : s.toList = []) (hs2 : s.toList.isEmpty = true) (hr : ruleM 1 1 t s = none) :
    Calls Try.prog 13 #[.pointer (some ⟨b, 0, none⟩), .agg #[.int .i64 1, .int .u8 1, .string s]] w (RPost w b 3 t) := by
  have hm := fun W (h : RfAt W b t) => mayat1_1 W b t s h hz hs
  rw [show (ruleM 1 1 t s).isSome = false by rw [hr]; rfl] at hm
  have Hm := Lib.hid hm
  clear hm
  have hb0 : Below w.heap.size w w := Below.refl _ _
  have HB := Lib.hid hb0
  clear hb0
  have Ht := Lib.hid h
  clear h
  go_enter Try.func13, Try.ntmps13
  go_upto_region 1 with fail
  have hx := Blk.new w 36 #[.int .i64 1, .int .u8 1, .string s]
  have ht := Blk.alloc Ht.out (.cells #[.int .i64 1, .int .u8 1, .string s] 36)
  clear Ht
  have hB := HB.out.alloc HB.out.size (.cells #[.int .i64 1, .int .u8 1, .string s] 36)
  clear HB
  obtain ⟨gx, hge⟩ : ∃ g, g = w.heap.size := ⟨_, rfl⟩
  rw [← hge] at hx ⊢
  clear hge
  generalize w.alloc _ = w1 at *
  have Ht := Lib.hid ht
  clear ht
  have Hx := Lib.hid hx
  clear hx
  have HB := Lib.hid hB
  clear hB
  have x0 := Hx.out.cell 0
  have x1 := Hx.out.cell 1
  have x2 := Hx.out.cell 2
  simp at x0 x1 x2
  go_wp2_with fail
  refine (Hm.out _ Ht.out).mono ?_
  rintro r w2 ⟨rfl, hb2⟩
  have ht := Ht.out.below hb2 Ht.out.lt
  clear Ht
  have Ht := Lib.hid ht
  clear ht
  have hx := Hx.out.below hb2 Hx.out.lt
  clear Hx
  have Hx := Lib.hid hx
  clear hx
  have hB := HB.out.trans (hb2.mono HB.out.size)
  clear HB
  have HB := Lib.hid hB
  clear hB
  clear hb2 x0 x1 x2
  have x0 := Hx.out.cell 0
  have x1 := Hx.out.cell 1
  have x2 := Hx.out.cell 2
  simp at x0 x1 x2
  go_wp2
  go_ret
  exact ⟨rfl, Ht.out, only_of_below HB.out _⟩

theorem rdo_no_2_1 (w : World) (b : Nat) (t : Tr) (s : ByteArray) (h : RfAt w b t) (hz : Szd t) (hs : s.size ≤ 4194304) (hs1 : s.toList = []) (hs2 : s.toList.isEmpty = true) (hr : ruleM 2 1 t s = none) :
    Calls Try.prog 13 #[.pointer (some ⟨b, 0, none⟩), .agg #[.int .i64 1, .int .u8 2, .string s]] w (RPost w b 3 t) := by
  have hm := fun W (h : RfAt W b t) => mayat2_1 W b t s h hz hs
  rw [show (ruleM 2 1 t s).isSome = false by rw [hr]; rfl] at hm
  have Hm := Lib.hid hm
  clear hm
  have hb0 : Below w.heap.size w w := Below.refl _ _
  have HB := Lib.hid hb0
  clear hb0
  have Ht := Lib.hid h
  clear h
  go_enter Try.func13, Try.ntmps13
  go_upto_region 1 with fail
  have hx := Blk.new w 36 #[.int .i64 1, .int .u8 2, .string s]
  have ht := Blk.alloc Ht.out (.cells #[.int .i64 1, .int .u8 2, .string s] 36)
  clear Ht
  have hB := HB.out.alloc HB.out.size (.cells #[.int .i64 1, .int .u8 2, .string s] 36)
  clear HB
  obtain ⟨gx, hge⟩ : ∃ g, g = w.heap.size := ⟨_, rfl⟩
  rw [← hge] at hx ⊢
  clear hge
  generalize w.alloc _ = w1 at *
  have Ht := Lib.hid ht
  clear ht
  have Hx := Lib.hid hx
  clear hx
  have HB := Lib.hid hB
  clear hB
  have x0 := Hx.out.cell 0
  have x1 := Hx.out.cell 1
  have x2 := Hx.out.cell 2
  simp at x0 x1 x2
  go_wp2_with fail
  refine (Hm.out _ Ht.out).mono ?_
  rintro r w2 ⟨rfl, hb2⟩
  have ht := Ht.out.below hb2 Ht.out.lt
  clear Ht
  have Ht := Lib.hid ht
  clear ht
  have hx := Hx.out.below hb2 Hx.out.lt
  clear Hx
  have Hx := Lib.hid hx
  clear hx
  have hB := HB.out.trans (hb2.mono HB.out.size)
  clear HB
  have HB := Lib.hid hB
  clear hB
  clear hb2 x0 x1 x2
  have x0 := Hx.out.cell 0
  have x1 := Hx.out.cell 1
  have x2 := Hx.out.cell 2
  simp at x0 x1 x2
  go_wp2
  go_ret
  exact ⟨rfl, Ht.out, only_of_below HB.out _⟩

theorem rdo_ok_2_1 (w : World) (b : Nat) (t : Tr) (s : ByteArray) (h : RfAt w b t) (hz : Szd t) (hs : s.size ≤ 4194304) (hs1 : s.toList = []) (hs2 : s.toList.isEmpty = true) (hr : ruleM 2 1 t s = some (eff 1 2 s t)) :
    Calls Try.prog 13 #[.pointer (some ⟨b, 0, none⟩), .agg #[.int .i64 1, .int .u8 2, .string s]] w (RPost w b 0 (eff 1 2 s t)) := by
  have hm := fun W (h : RfAt W b t) => mayat2_1 W b t s h hz hs
  rw [show (ruleM 2 1 t s).isSome = true by rw [hr]; rfl] at hm
  have Hm := Lib.hid hm
  clear hm
  have hb0 : Below w.heap.size w w := Below.refl _ _
  have HB := Lib.hid hb0
  clear hb0
  have Ht := Lib.hid h
  clear h
  go_enter Try.func13, Try.ntmps13
  go_upto_region 1 with fail
  have hx := Blk.new w 36 #[.int .i64 1, .int .u8 2, .string s]
  have ht := Blk.alloc Ht.out (.cells #[.int .i64 1, .int .u8 2, .string s] 36)
  clear Ht
  have hB := HB.out.alloc HB.out.size (.cells #[.int .i64 1, .int .u8 2, .string s] 36)
  clear HB
  obtain ⟨gx, hge⟩ : ∃ g, g = w.heap.size := ⟨_, rfl⟩
  rw [← hge] at hx ⊢
  clear hge
  generalize w.alloc _ = w1 at *
  have Ht := Lib.hid ht
  clear ht
  have Hx := Lib.hid hx
  clear hx
  have HB := Lib.hid hB
  clear hB
  have x0 := Hx.out.cell 0
  have x1 := Hx.out.cell 1
  have x2 := Hx.out.cell 2
  simp at x0 x1 x2
  go_wp2_with fail
  refine (Hm.out _ Ht.out).mono ?_
  rintro r w2 ⟨rfl, hb2⟩
  have ht := Ht.out.below hb2 Ht.out.lt
  clear Ht
  have Ht := Lib.hid ht
  clear ht
  have hx := Hx.out.below hb2 Hx.out.lt
  clear Hx
  have Hx := Lib.hid hx
  clear hx
  have hB := HB.out.trans (hb2.mono HB.out.size)
  clear HB
  have HB := Lib.hid hB
  clear hB
  clear hb2 x0 x1 x2
  have x0 := Hx.out.cell 0
  have x1 := Hx.out.cell 1
  have x2 := Hx.out.cell 2
  simp at x0 x1 x2
  go_wp2
  go_quiet (fail)
  have ht := Blk.drewN Ht.out nq
  have hx := Blk.drewN Hx.out nq
  have hB := below_drewN HB.out nq
  clear Ht Hx HB x0 x1 x2
  generalize w2.drewN nq = W at *
  have Ht := Lib.hid ht
  have Hx := Lib.hid hx
  have HB := Lib.hid hB
  clear ht hx hB
  have x0 := Hx.out.cell 0
  have x1 := Hx.out.cell 1
  have x2 := Hx.out.cell 2
  simp at x0 x1 x2
  have f1 := Blk.frozen Ht.out 6
  have c1 := Ht.out.cell 6
  simp at c1
  go_wp2
  go_ret
  exact ⟨rfl, (by have := Blk.set_ Ht.out 6 (.bool true); simpa [eff, gA, cA, Tr.put, Tr.own] using this), only_set (only_of_below HB.out _) 6 _⟩

theorem rdo_no_3_1 (w : World) (b : Nat) (t : Tr) (s : ByteArray) (h : RfAt w b t) (hz : Szd t) (hs : s.size ≤ 4194304) (hs1 : (!s.toList.isEmpty) = true) (hs2 : s.toList.isEmpty = false) (hr : ruleM 3 1 t s = none) :
    Calls Try.prog 13 #[.pointer (some ⟨b, 0, none⟩), .agg #[.int .i64 1, .int .u8 3, .string s]] w (RPost w b 3 t) := by
  have hm := fun W (h : RfAt W b t) => mayat3_1 W b t s h hz hs
  rw [show (ruleM 3 1 t s).isSome = false by rw [hr]; rfl] at hm
  have Hm := Lib.hid hm
  clear hm
  have hb0 : Below w.heap.size w w := Below.refl _ _
  have HB := Lib.hid hb0
  clear hb0
  have Ht := Lib.hid h
  clear h
  go_enter Try.func13, Try.ntmps13
  go_upto_region 1 with fail
  have hx := Blk.new w 36 #[.int .i64 1, .int .u8 3, .string s]
  have ht := Blk.alloc Ht.out (.cells #[.int .i64 1, .int .u8 3, .string s] 36)
  clear Ht
  have hB := HB.out.alloc HB.out.size (.cells #[.int .i64 1, .int .u8 3, .string s] 36)
  clear HB
  obtain ⟨gx, hge⟩ : ∃ g, g = w.heap.size := ⟨_, rfl⟩
  rw [← hge] at hx ⊢
  clear hge
  generalize w.alloc _ = w1 at *
  have Ht := Lib.hid ht
  clear ht
  have Hx := Lib.hid hx
  clear hx
  have HB := Lib.hid hB
  clear hB
  have x0 := Hx.out.cell 0
  have x1 := Hx.out.cell 1
  have x2 := Hx.out.cell 2
  simp at x0 x1 x2
  go_wp2_with fail
  refine (Hm.out _ Ht.out).mono ?_
  rintro r w2 ⟨rfl, hb2⟩
  have ht := Ht.out.below hb2 Ht.out.lt
  clear Ht
  have Ht := Lib.hid ht
  clear ht
  have hx := Hx.out.below hb2 Hx.out.lt
  clear Hx
  have Hx := Lib.hid hx
  clear hx
  have hB := HB.out.trans (hb2.mono HB.out.size)
  clear HB
  have HB := Lib.hid hB
  clear hB
  clear hb2 x0 x1 x2
  have x0 := Hx.out.cell 0
  have x1 := Hx.out.cell 1
  have x2 := Hx.out.cell 2
  simp at x0 x1 x2
  go_wp2
  go_ret
  exact ⟨rfl, Ht.out, only_of_below HB.out _⟩

theorem rdo_ok_3_1 (w : World) (b : Nat) (t : Tr) (s : ByteArray) (h : RfAt w b t) (hz : Szd t) (hs : s.size ≤ 4194304) (hs1 : (!s.toList.isEmpty) = true) (hs2 : s.toList.isEmpty = false) (hr : ruleM 3 1 t s = some (eff 1 3 s t)) (hf : t.s1.wr.size + s.size ≤ 1048576) :
    Calls Try.prog 13 #[.pointer (some ⟨b, 0, none⟩), .agg #[.int .i64 1, .int .u8 3, .string s]] w (RPost w b 0 (eff 1 3 s t)) := by
  have hm := fun W (h : RfAt W b t) => mayat3_1 W b t s h hz hs
  rw [show (ruleM 3 1 t s).isSome = true by rw [hr]; rfl] at hm
  have Hm := Lib.hid hm
  clear hm
  have hb0 : Below w.heap.size w w := Below.refl _ _
  have HB := Lib.hid hb0
  clear hb0
  have Ht := Lib.hid h
  clear h
  go_enter Try.func13, Try.ntmps13
  go_upto_region 1 with fail
  have hx := Blk.new w 36 #[.int .i64 1, .int .u8 3, .string s]
  have ht := Blk.alloc Ht.out (.cells #[.int .i64 1, .int .u8 3, .string s] 36)
  clear Ht
  have hB := HB.out.alloc HB.out.size (.cells #[.int .i64 1, .int .u8 3, .string s] 36)
  clear HB
  obtain ⟨gx, hge⟩ : ∃ g, g = w.heap.size := ⟨_, rfl⟩
  rw [← hge] at hx ⊢
  clear hge
  generalize w.alloc _ = w1 at *
  have Ht := Lib.hid ht
  clear ht
  have Hx := Lib.hid hx
  clear hx
  have HB := Lib.hid hB
  clear hB
  have x0 := Hx.out.cell 0
  have x1 := Hx.out.cell 1
  have x2 := Hx.out.cell 2
  simp at x0 x1 x2
  go_wp2_with fail
  refine (Hm.out _ Ht.out).mono ?_
  rintro r w2 ⟨rfl, hb2⟩
  have ht := Ht.out.below hb2 Ht.out.lt
  clear Ht
  have Ht := Lib.hid ht
  clear ht
  have hx := Hx.out.below hb2 Hx.out.lt
  clear Hx
  have Hx := Lib.hid hx
  clear hx
  have hB := HB.out.trans (hb2.mono HB.out.size)
  clear HB
  have HB := Lib.hid hB
  clear hB
  clear hb2 x0 x1 x2
  have x0 := Hx.out.cell 0
  have x1 := Hx.out.cell 1
  have x2 := Hx.out.cell 2
  simp at x0 x1 x2
  go_wp2
  go_quiet (fail)
  have ht := Blk.drewN Ht.out nq
  have hx := Blk.drewN Hx.out nq
  have hB := below_drewN HB.out nq
  clear Ht Hx HB x0 x1 x2
  generalize w2.drewN nq = W at *
  have Ht := Lib.hid ht
  have Hx := Lib.hid hx
  have HB := Lib.hid hB
  clear ht hx hB
  have x0 := Hx.out.cell 0
  have x1 := Hx.out.cell 1
  have x2 := Hx.out.cell 2
  simp at x0 x1 x2
  have c1 := Ht.out.cell 7
  simp at c1
  have hsum : IntKind.i64.wrap ((t.s1.wr.size : Int) + (s.size : Int)) = (t.s1.wr.size : Int) + (s.size : Int) := IntWalk.i64_in _ (by have := hz.2.1; omega)
  have hcmp : decide ((1048576 : Int) < (t.s1.wr.size : Int) + (s.size : Int)) = false := decide_eq_false (by omega)
  go_wp2
  go_quiet (fail)
  have ht := Blk.drewN Ht.out nq
  have hx := Blk.drewN Hx.out nq
  have hB := below_drewN HB.out nq
  clear Ht Hx HB x0 x1 x2 c1
  generalize W.drewN nq = V at *
  have Ht := Lib.hid ht
  have Hx := Lib.hid hx
  have HB := Lib.hid hB
  clear ht hx hB
  have x0 := Hx.out.cell 0
  have x1 := Hx.out.cell 1
  have x2 := Hx.out.cell 2
  simp at x0 x1 x2
  have c1 := Ht.out.cell 7
  simp at c1
  have f1 := Blk.frozen Ht.out 7
  have hadd := fun W : World => run_string_add_sum (P := Try.prog) W t.s1.wr s (by have := hz.2.1; omega)
  go_wp2
  go_still_tail 10, (by kernel_rfl)
  go_wp2
  go_ret
  exact ⟨rfl, (by have := Blk.drew (Blk.set_ Ht.out 7 (.string (t.s1.wr ++ s))); simpa [eff, gA, cA, Tr.put, Tr.own] using this), only_drew (only_set (only_of_below HB.out _) 7 _)⟩

theorem rdo_full_3_1 (w : World) (b : Nat) (t : Tr) (s : ByteArray) (h : RfAt w b t) (hz : Szd t) (hs : s.size ≤ 4194304) (hs1 : (!s.toList.isEmpty) = true) (hs2 : s.toList.isEmpty = false) (hr : ruleM 3 1 t s = some (eff 1 3 s t)) (hf : 1048576 < t.s1.wr.size + s.size) :
    Calls Try.prog 13 #[.pointer (some ⟨b, 0, none⟩), .agg #[.int .i64 1, .int .u8 3, .string s]] w (RPost w b 6 t) := by
  have hm := fun W (h : RfAt W b t) => mayat3_1 W b t s h hz hs
  rw [show (ruleM 3 1 t s).isSome = true by rw [hr]; rfl] at hm
  have Hm := Lib.hid hm
  clear hm
  have hb0 : Below w.heap.size w w := Below.refl _ _
  have HB := Lib.hid hb0
  clear hb0
  have Ht := Lib.hid h
  clear h
  go_enter Try.func13, Try.ntmps13
  go_upto_region 1 with fail
  have hx := Blk.new w 36 #[.int .i64 1, .int .u8 3, .string s]
  have ht := Blk.alloc Ht.out (.cells #[.int .i64 1, .int .u8 3, .string s] 36)
  clear Ht
  have hB := HB.out.alloc HB.out.size (.cells #[.int .i64 1, .int .u8 3, .string s] 36)
  clear HB
  obtain ⟨gx, hge⟩ : ∃ g, g = w.heap.size := ⟨_, rfl⟩
  rw [← hge] at hx ⊢
  clear hge
  generalize w.alloc _ = w1 at *
  have Ht := Lib.hid ht
  clear ht
  have Hx := Lib.hid hx
  clear hx
  have HB := Lib.hid hB
  clear hB
  have x0 := Hx.out.cell 0
  have x1 := Hx.out.cell 1
  have x2 := Hx.out.cell 2
  simp at x0 x1 x2
  go_wp2_with fail
  refine (Hm.out _ Ht.out).mono ?_
  rintro r w2 ⟨rfl, hb2⟩
  have ht := Ht.out.below hb2 Ht.out.lt
  clear Ht
  have Ht := Lib.hid ht
  clear ht
  have hx := Hx.out.below hb2 Hx.out.lt
  clear Hx
  have Hx := Lib.hid hx
  clear hx
  have hB := HB.out.trans (hb2.mono HB.out.size)
  clear HB
  have HB := Lib.hid hB
  clear hB
  clear hb2 x0 x1 x2
  have x0 := Hx.out.cell 0
  have x1 := Hx.out.cell 1
  have x2 := Hx.out.cell 2
  simp at x0 x1 x2
  go_wp2
  go_quiet (fail)
  have ht := Blk.drewN Ht.out nq
  have hx := Blk.drewN Hx.out nq
  have hB := below_drewN HB.out nq
  clear Ht Hx HB x0 x1 x2
  generalize w2.drewN nq = W at *
  have Ht := Lib.hid ht
  have Hx := Lib.hid hx
  have HB := Lib.hid hB
  clear ht hx hB
  have x0 := Hx.out.cell 0
  have x1 := Hx.out.cell 1
  have x2 := Hx.out.cell 2
  simp at x0 x1 x2
  have c1 := Ht.out.cell 7
  simp at c1
  have hsum : IntKind.i64.wrap ((t.s1.wr.size : Int) + (s.size : Int)) = (t.s1.wr.size : Int) + (s.size : Int) := IntWalk.i64_in _ (by have := hz.2.1; omega)
  have hcmp : decide ((1048576 : Int) < (t.s1.wr.size : Int) + (s.size : Int)) = true := decide_eq_true (by omega)
  go_wp2
  go_quiet (fail)
  have ht := Blk.drewN Ht.out nq
  have hx := Blk.drewN Hx.out nq
  have hB := below_drewN HB.out nq
  clear Ht Hx HB x0 x1 x2 c1
  generalize W.drewN nq = V at *
  have Ht := Lib.hid ht
  have Hx := Lib.hid hx
  have HB := Lib.hid hB
  clear ht hx hB
  have x0 := Hx.out.cell 0
  have x1 := Hx.out.cell 1
  have x2 := Hx.out.cell 2
  simp at x0 x1 x2
  have c1 := Ht.out.cell 7
  simp at c1
  go_wp2
  go_ret
  exact ⟨rfl, Ht.out, only_of_below HB.out _⟩

theorem rdo_no_4_1 (w : World) (b : Nat) (t : Tr) (s : ByteArray) (h : RfAt w b t) (hz : Szd t) (hs : s.size ≤ 4194304) (hs1 : (!s.toList.isEmpty) = true) (hs2 : s.toList.isEmpty = false) (hr : ruleM 4 1 t s = none) :
    Calls Try.prog 13 #[.pointer (some ⟨b, 0, none⟩), .agg #[.int .i64 1, .int .u8 4, .string s]] w (RPost w b 3 t) := by
  have hm := fun W (h : RfAt W b t) => mayat4_1 W b t s h hz hs
  rw [show (ruleM 4 1 t s).isSome = false by rw [hr]; rfl] at hm
  have Hm := Lib.hid hm
  clear hm
  have hb0 : Below w.heap.size w w := Below.refl _ _
  have HB := Lib.hid hb0
  clear hb0
  have Ht := Lib.hid h
  clear h
  go_enter Try.func13, Try.ntmps13
  go_upto_region 1 with fail
  have hx := Blk.new w 36 #[.int .i64 1, .int .u8 4, .string s]
  have ht := Blk.alloc Ht.out (.cells #[.int .i64 1, .int .u8 4, .string s] 36)
  clear Ht
  have hB := HB.out.alloc HB.out.size (.cells #[.int .i64 1, .int .u8 4, .string s] 36)
  clear HB
  obtain ⟨gx, hge⟩ : ∃ g, g = w.heap.size := ⟨_, rfl⟩
  rw [← hge] at hx ⊢
  clear hge
  generalize w.alloc _ = w1 at *
  have Ht := Lib.hid ht
  clear ht
  have Hx := Lib.hid hx
  clear hx
  have HB := Lib.hid hB
  clear hB
  have x0 := Hx.out.cell 0
  have x1 := Hx.out.cell 1
  have x2 := Hx.out.cell 2
  simp at x0 x1 x2
  go_wp2_with fail
  refine (Hm.out _ Ht.out).mono ?_
  rintro r w2 ⟨rfl, hb2⟩
  have ht := Ht.out.below hb2 Ht.out.lt
  clear Ht
  have Ht := Lib.hid ht
  clear ht
  have hx := Hx.out.below hb2 Hx.out.lt
  clear Hx
  have Hx := Lib.hid hx
  clear hx
  have hB := HB.out.trans (hb2.mono HB.out.size)
  clear HB
  have HB := Lib.hid hB
  clear hB
  clear hb2 x0 x1 x2
  have x0 := Hx.out.cell 0
  have x1 := Hx.out.cell 1
  have x2 := Hx.out.cell 2
  simp at x0 x1 x2
  go_wp2
  go_ret
  exact ⟨rfl, Ht.out, only_of_below HB.out _⟩

theorem rdo_ok_4_1 (w : World) (b : Nat) (t : Tr) (s : ByteArray) (h : RfAt w b t) (hz : Szd t) (hs : s.size ≤ 4194304) (hs1 : (!s.toList.isEmpty) = true) (hs2 : s.toList.isEmpty = false) (hr : ruleM 4 1 t s = some (eff 1 4 s t)) :
    Calls Try.prog 13 #[.pointer (some ⟨b, 0, none⟩), .agg #[.int .i64 1, .int .u8 4, .string s]] w (RPost w b 0 (eff 1 4 s t)) := by
  have hm := fun W (h : RfAt W b t) => mayat4_1 W b t s h hz hs
  rw [show (ruleM 4 1 t s).isSome = true by rw [hr]; rfl] at hm
  have Hm := Lib.hid hm
  clear hm
  have hb0 : Below w.heap.size w w := Below.refl _ _
  have HB := Lib.hid hb0
  clear hb0
  have Ht := Lib.hid h
  clear h
  go_enter Try.func13, Try.ntmps13
  go_upto_region 1 with fail
  have hx := Blk.new w 36 #[.int .i64 1, .int .u8 4, .string s]
  have ht := Blk.alloc Ht.out (.cells #[.int .i64 1, .int .u8 4, .string s] 36)
  clear Ht
  have hB := HB.out.alloc HB.out.size (.cells #[.int .i64 1, .int .u8 4, .string s] 36)
  clear HB
  obtain ⟨gx, hge⟩ : ∃ g, g = w.heap.size := ⟨_, rfl⟩
  rw [← hge] at hx ⊢
  clear hge
  generalize w.alloc _ = w1 at *
  have Ht := Lib.hid ht
  clear ht
  have Hx := Lib.hid hx
  clear hx
  have HB := Lib.hid hB
  clear hB
  have x0 := Hx.out.cell 0
  have x1 := Hx.out.cell 1
  have x2 := Hx.out.cell 2
  simp at x0 x1 x2
  go_wp2_with fail
  refine (Hm.out _ Ht.out).mono ?_
  rintro r w2 ⟨rfl, hb2⟩
  have ht := Ht.out.below hb2 Ht.out.lt
  clear Ht
  have Ht := Lib.hid ht
  clear ht
  have hx := Hx.out.below hb2 Hx.out.lt
  clear Hx
  have Hx := Lib.hid hx
  clear hx
  have hB := HB.out.trans (hb2.mono HB.out.size)
  clear HB
  have HB := Lib.hid hB
  clear hB
  clear hb2 x0 x1 x2
  have x0 := Hx.out.cell 0
  have x1 := Hx.out.cell 1
  have x2 := Hx.out.cell 2
  simp at x0 x1 x2
  go_wp2
  go_quiet (fail)
  have ht := Blk.drewN Ht.out nq
  have hx := Blk.drewN Hx.out nq
  have hB := below_drewN HB.out nq
  clear Ht Hx HB x0 x1 x2
  generalize w2.drewN nq = W at *
  have Ht := Lib.hid ht
  have Hx := Lib.hid hx
  have HB := Lib.hid hB
  clear ht hx hB
  have x0 := Hx.out.cell 0
  have x1 := Hx.out.cell 1
  have x2 := Hx.out.cell 2
  simp at x0 x1 x2
  have f1 := Blk.frozen Ht.out 8
  have c1 := Ht.out.cell 8
  simp at c1
  have hsum : IntKind.i64.wrap ((t.s1.rd : Int) + (s.size : Int)) = ((t.s1.rd + s.size : Nat) : Int) := by rw [IntWalk.i64_in _ (by have := hz.1; have := hz.2.1; have := hz.2.2.1; have := hz.2.2.2; omega)]; omega
  go_wp2
  go_still_tail 11, (by kernel_rfl)
  go_wp2
  go_ret
  exact ⟨rfl, (by have := Blk.drew (Blk.set_ Ht.out 8 (.int .i64 ((t.s1.rd + s.size : Nat) : Int))); simpa [RfAt, eff, gA, cA, Tr.put, Tr.own] using this), only_drew (only_set (only_of_below HB.out _) 8 _)⟩

theorem rdo_no_5_1 (w : World) (b : Nat) (t : Tr) (s : ByteArray) (h : RfAt w b t) (hz : Szd t) (hs : s.size ≤ 4194304) (hs1 : s.toList = []) (hs2 : s.toList.isEmpty = true) (hr : ruleM 5 1 t s = none) :
    Calls Try.prog 13 #[.pointer (some ⟨b, 0, none⟩), .agg #[.int .i64 1, .int .u8 5, .string s]] w (RPost w b 3 t) := by
  have hm := fun W (h : RfAt W b t) => mayat5_1 W b t s h hz hs
  rw [show (ruleM 5 1 t s).isSome = false by rw [hr]; rfl] at hm
  have Hm := Lib.hid hm
  clear hm
  have hb0 : Below w.heap.size w w := Below.refl _ _
  have HB := Lib.hid hb0
  clear hb0
  have Ht := Lib.hid h
  clear h
  go_enter Try.func13, Try.ntmps13
  go_upto_region 1 with fail
  have hx := Blk.new w 36 #[.int .i64 1, .int .u8 5, .string s]
  have ht := Blk.alloc Ht.out (.cells #[.int .i64 1, .int .u8 5, .string s] 36)
  clear Ht
  have hB := HB.out.alloc HB.out.size (.cells #[.int .i64 1, .int .u8 5, .string s] 36)
  clear HB
  obtain ⟨gx, hge⟩ : ∃ g, g = w.heap.size := ⟨_, rfl⟩
  rw [← hge] at hx ⊢
  clear hge
  generalize w.alloc _ = w1 at *
  have Ht := Lib.hid ht
  clear ht
  have Hx := Lib.hid hx
  clear hx
  have HB := Lib.hid hB
  clear hB
  have x0 := Hx.out.cell 0
  have x1 := Hx.out.cell 1
  have x2 := Hx.out.cell 2
  simp at x0 x1 x2
  go_wp2_with fail
  refine (Hm.out _ Ht.out).mono ?_
  rintro r w2 ⟨rfl, hb2⟩
  have ht := Ht.out.below hb2 Ht.out.lt
  clear Ht
  have Ht := Lib.hid ht
  clear ht
  have hx := Hx.out.below hb2 Hx.out.lt
  clear Hx
  have Hx := Lib.hid hx
  clear hx
  have hB := HB.out.trans (hb2.mono HB.out.size)
  clear HB
  have HB := Lib.hid hB
  clear hB
  clear hb2 x0 x1 x2
  have x0 := Hx.out.cell 0
  have x1 := Hx.out.cell 1
  have x2 := Hx.out.cell 2
  simp at x0 x1 x2
  go_wp2
  go_ret
  exact ⟨rfl, Ht.out, only_of_below HB.out _⟩

theorem rdo_ok_5_1 (w : World) (b : Nat) (t : Tr) (s : ByteArray) (h : RfAt w b t) (hz : Szd t) (hs : s.size ≤ 4194304) (hs1 : s.toList = []) (hs2 : s.toList.isEmpty = true) (hr : ruleM 5 1 t s = some (eff 1 5 s t)) :
    Calls Try.prog 13 #[.pointer (some ⟨b, 0, none⟩), .agg #[.int .i64 1, .int .u8 5, .string s]] w (RPost w b 0 (eff 1 5 s t)) := by
  have hm := fun W (h : RfAt W b t) => mayat5_1 W b t s h hz hs
  rw [show (ruleM 5 1 t s).isSome = true by rw [hr]; rfl] at hm
  have Hm := Lib.hid hm
  clear hm
  have hb0 : Below w.heap.size w w := Below.refl _ _
  have HB := Lib.hid hb0
  clear hb0
  have Ht := Lib.hid h
  clear h
  go_enter Try.func13, Try.ntmps13
  go_upto_region 1 with fail
  have hx := Blk.new w 36 #[.int .i64 1, .int .u8 5, .string s]
  have ht := Blk.alloc Ht.out (.cells #[.int .i64 1, .int .u8 5, .string s] 36)
  clear Ht
  have hB := HB.out.alloc HB.out.size (.cells #[.int .i64 1, .int .u8 5, .string s] 36)
  clear HB
  obtain ⟨gx, hge⟩ : ∃ g, g = w.heap.size := ⟨_, rfl⟩
  rw [← hge] at hx ⊢
  clear hge
  generalize w.alloc _ = w1 at *
  have Ht := Lib.hid ht
  clear ht
  have Hx := Lib.hid hx
  clear hx
  have HB := Lib.hid hB
  clear hB
  have x0 := Hx.out.cell 0
  have x1 := Hx.out.cell 1
  have x2 := Hx.out.cell 2
  simp at x0 x1 x2
  go_wp2_with fail
  refine (Hm.out _ Ht.out).mono ?_
  rintro r w2 ⟨rfl, hb2⟩
  have ht := Ht.out.below hb2 Ht.out.lt
  clear Ht
  have Ht := Lib.hid ht
  clear ht
  have hx := Hx.out.below hb2 Hx.out.lt
  clear Hx
  have Hx := Lib.hid hx
  clear hx
  have hB := HB.out.trans (hb2.mono HB.out.size)
  clear HB
  have HB := Lib.hid hB
  clear hB
  clear hb2 x0 x1 x2
  have x0 := Hx.out.cell 0
  have x1 := Hx.out.cell 1
  have x2 := Hx.out.cell 2
  simp at x0 x1 x2
  go_wp2
  go_quiet (fail)
  have ht := Blk.drewN Ht.out nq
  have hx := Blk.drewN Hx.out nq
  have hB := below_drewN HB.out nq
  clear Ht Hx HB x0 x1 x2
  generalize w2.drewN nq = W at *
  have Ht := Lib.hid ht
  have Hx := Lib.hid hx
  have HB := Lib.hid hB
  clear ht hx hB
  have x0 := Hx.out.cell 0
  have x1 := Hx.out.cell 1
  have x2 := Hx.out.cell 2
  simp at x0 x1 x2
  have f1 := Blk.frozen Ht.out 9
  have c1 := Ht.out.cell 9
  simp at c1
  go_wp2
  go_ret
  exact ⟨rfl, (by have := Blk.set_ Ht.out 9 (.bool true); simpa [eff, gA, cA, Tr.put, Tr.own] using this), only_set (only_of_below HB.out _) 9 _⟩

theorem rdo_no_6_1 (w : World) (b : Nat) (t : Tr) (s : ByteArray) (h : RfAt w b t) (hz : Szd t) (hs : s.size ≤ 4194304) (hs1 : s.toList = []) (hs2 : s.toList.isEmpty = true) (hr : ruleM 6 1 t s = none) :
    Calls Try.prog 13 #[.pointer (some ⟨b, 0, none⟩), .agg #[.int .i64 1, .int .u8 6, .string s]] w (RPost w b 3 t) := by
  have hm := fun W (h : RfAt W b t) => mayat6_1 W b t s h hz hs
  rw [show (ruleM 6 1 t s).isSome = false by rw [hr]; rfl] at hm
  have Hm := Lib.hid hm
  clear hm
  have hb0 : Below w.heap.size w w := Below.refl _ _
  have HB := Lib.hid hb0
  clear hb0
  have Ht := Lib.hid h
  clear h
  go_enter Try.func13, Try.ntmps13
  go_upto_region 1 with fail
  have hx := Blk.new w 36 #[.int .i64 1, .int .u8 6, .string s]
  have ht := Blk.alloc Ht.out (.cells #[.int .i64 1, .int .u8 6, .string s] 36)
  clear Ht
  have hB := HB.out.alloc HB.out.size (.cells #[.int .i64 1, .int .u8 6, .string s] 36)
  clear HB
  obtain ⟨gx, hge⟩ : ∃ g, g = w.heap.size := ⟨_, rfl⟩
  rw [← hge] at hx ⊢
  clear hge
  generalize w.alloc _ = w1 at *
  have Ht := Lib.hid ht
  clear ht
  have Hx := Lib.hid hx
  clear hx
  have HB := Lib.hid hB
  clear hB
  have x0 := Hx.out.cell 0
  have x1 := Hx.out.cell 1
  have x2 := Hx.out.cell 2
  simp at x0 x1 x2
  go_wp2_with fail
  refine (Hm.out _ Ht.out).mono ?_
  rintro r w2 ⟨rfl, hb2⟩
  have ht := Ht.out.below hb2 Ht.out.lt
  clear Ht
  have Ht := Lib.hid ht
  clear ht
  have hx := Hx.out.below hb2 Hx.out.lt
  clear Hx
  have Hx := Lib.hid hx
  clear hx
  have hB := HB.out.trans (hb2.mono HB.out.size)
  clear HB
  have HB := Lib.hid hB
  clear hB
  clear hb2 x0 x1 x2
  have x0 := Hx.out.cell 0
  have x1 := Hx.out.cell 1
  have x2 := Hx.out.cell 2
  simp at x0 x1 x2
  go_wp2
  go_ret
  exact ⟨rfl, Ht.out, only_of_below HB.out _⟩

theorem rdo_ok_6_1 (w : World) (b : Nat) (t : Tr) (s : ByteArray) (h : RfAt w b t) (hz : Szd t) (hs : s.size ≤ 4194304) (hs1 : s.toList = []) (hs2 : s.toList.isEmpty = true) (hr : ruleM 6 1 t s = some (eff 1 6 s t)) :
    Calls Try.prog 13 #[.pointer (some ⟨b, 0, none⟩), .agg #[.int .i64 1, .int .u8 6, .string s]] w (RPost w b 0 (eff 1 6 s t)) := by
  have hm := fun W (h : RfAt W b t) => mayat6_1 W b t s h hz hs
  rw [show (ruleM 6 1 t s).isSome = true by rw [hr]; rfl] at hm
  have Hm := Lib.hid hm
  clear hm
  have hb0 : Below w.heap.size w w := Below.refl _ _
  have HB := Lib.hid hb0
  clear hb0
  have Ht := Lib.hid h
  clear h
  go_enter Try.func13, Try.ntmps13
  go_upto_region 1 with fail
  have hx := Blk.new w 36 #[.int .i64 1, .int .u8 6, .string s]
  have ht := Blk.alloc Ht.out (.cells #[.int .i64 1, .int .u8 6, .string s] 36)
  clear Ht
  have hB := HB.out.alloc HB.out.size (.cells #[.int .i64 1, .int .u8 6, .string s] 36)
  clear HB
  obtain ⟨gx, hge⟩ : ∃ g, g = w.heap.size := ⟨_, rfl⟩
  rw [← hge] at hx ⊢
  clear hge
  generalize w.alloc _ = w1 at *
  have Ht := Lib.hid ht
  clear ht
  have Hx := Lib.hid hx
  clear hx
  have HB := Lib.hid hB
  clear hB
  have x0 := Hx.out.cell 0
  have x1 := Hx.out.cell 1
  have x2 := Hx.out.cell 2
  simp at x0 x1 x2
  go_wp2_with fail
  refine (Hm.out _ Ht.out).mono ?_
  rintro r w2 ⟨rfl, hb2⟩
  have ht := Ht.out.below hb2 Ht.out.lt
  clear Ht
  have Ht := Lib.hid ht
  clear ht
  have hx := Hx.out.below hb2 Hx.out.lt
  clear Hx
  have Hx := Lib.hid hx
  clear hx
  have hB := HB.out.trans (hb2.mono HB.out.size)
  clear HB
  have HB := Lib.hid hB
  clear hB
  clear hb2 x0 x1 x2
  have x0 := Hx.out.cell 0
  have x1 := Hx.out.cell 1
  have x2 := Hx.out.cell 2
  simp at x0 x1 x2
  go_wp2
  go_quiet (fail)
  have ht := Blk.drewN Ht.out nq
  have hx := Blk.drewN Hx.out nq
  have hB := below_drewN HB.out nq
  clear Ht Hx HB x0 x1 x2
  generalize w2.drewN nq = W at *
  have Ht := Lib.hid ht
  have Hx := Lib.hid hx
  have HB := Lib.hid hB
  clear ht hx hB
  have x0 := Hx.out.cell 0
  have x1 := Hx.out.cell 1
  have x2 := Hx.out.cell 2
  simp at x0 x1 x2
  have f1 := Blk.frozen Ht.out 10
  have c1 := Ht.out.cell 10
  simp at c1
  go_wp2
  go_ret
  exact ⟨rfl, (by have := Blk.set_ Ht.out 10 (.bool true); simpa [eff, gA, cA, Tr.put, Tr.own] using this), only_set (only_of_below HB.out _) 10 _⟩

theorem rdo_no_7_1 (w : World) (b : Nat) (t : Tr) (s : ByteArray) (h : RfAt w b t) (hz : Szd t) (hs : s.size ≤ 4194304) (hs1 : s.toList = []) (hs2 : s.toList.isEmpty = true) (hr : ruleM 7 1 t s = none) :
    Calls Try.prog 13 #[.pointer (some ⟨b, 0, none⟩), .agg #[.int .i64 1, .int .u8 7, .string s]] w (RPost w b 3 t) := by
  have hm := fun W (h : RfAt W b t) => mayat7_1 W b t s h hz hs
  rw [show (ruleM 7 1 t s).isSome = false by rw [hr]; rfl] at hm
  have Hm := Lib.hid hm
  clear hm
  have hb0 : Below w.heap.size w w := Below.refl _ _
  have HB := Lib.hid hb0
  clear hb0
  have Ht := Lib.hid h
  clear h
  go_enter Try.func13, Try.ntmps13
  go_upto_region 1 with fail
  have hx := Blk.new w 36 #[.int .i64 1, .int .u8 7, .string s]
  have ht := Blk.alloc Ht.out (.cells #[.int .i64 1, .int .u8 7, .string s] 36)
  clear Ht
  have hB := HB.out.alloc HB.out.size (.cells #[.int .i64 1, .int .u8 7, .string s] 36)
  clear HB
  obtain ⟨gx, hge⟩ : ∃ g, g = w.heap.size := ⟨_, rfl⟩
  rw [← hge] at hx ⊢
  clear hge
  generalize w.alloc _ = w1 at *
  have Ht := Lib.hid ht
  clear ht
  have Hx := Lib.hid hx
  clear hx
  have HB := Lib.hid hB
  clear hB
  have x0 := Hx.out.cell 0
  have x1 := Hx.out.cell 1
  have x2 := Hx.out.cell 2
  simp at x0 x1 x2
  go_wp2_with fail
  refine (Hm.out _ Ht.out).mono ?_
  rintro r w2 ⟨rfl, hb2⟩
  have ht := Ht.out.below hb2 Ht.out.lt
  clear Ht
  have Ht := Lib.hid ht
  clear ht
  have hx := Hx.out.below hb2 Hx.out.lt
  clear Hx
  have Hx := Lib.hid hx
  clear hx
  have hB := HB.out.trans (hb2.mono HB.out.size)
  clear HB
  have HB := Lib.hid hB
  clear hB
  clear hb2 x0 x1 x2
  have x0 := Hx.out.cell 0
  have x1 := Hx.out.cell 1
  have x2 := Hx.out.cell 2
  simp at x0 x1 x2
  go_wp2
  go_ret
  exact ⟨rfl, Ht.out, only_of_below HB.out _⟩

theorem rdo_ok_7_1 (w : World) (b : Nat) (t : Tr) (s : ByteArray) (h : RfAt w b t) (hz : Szd t) (hs : s.size ≤ 4194304) (hs1 : s.toList = []) (hs2 : s.toList.isEmpty = true) (hr : ruleM 7 1 t s = some (eff 1 7 s t)) :
    Calls Try.prog 13 #[.pointer (some ⟨b, 0, none⟩), .agg #[.int .i64 1, .int .u8 7, .string s]] w (RPost w b 0 (eff 1 7 s t)) := by
  have hm := fun W (h : RfAt W b t) => mayat7_1 W b t s h hz hs
  rw [show (ruleM 7 1 t s).isSome = true by rw [hr]; rfl] at hm
  have Hm := Lib.hid hm
  clear hm
  have hb0 : Below w.heap.size w w := Below.refl _ _
  have HB := Lib.hid hb0
  clear hb0
  have Ht := Lib.hid h
  clear h
  go_enter Try.func13, Try.ntmps13
  go_upto_region 1 with fail
  have hx := Blk.new w 36 #[.int .i64 1, .int .u8 7, .string s]
  have ht := Blk.alloc Ht.out (.cells #[.int .i64 1, .int .u8 7, .string s] 36)
  clear Ht
  have hB := HB.out.alloc HB.out.size (.cells #[.int .i64 1, .int .u8 7, .string s] 36)
  clear HB
  obtain ⟨gx, hge⟩ : ∃ g, g = w.heap.size := ⟨_, rfl⟩
  rw [← hge] at hx ⊢
  clear hge
  generalize w.alloc _ = w1 at *
  have Ht := Lib.hid ht
  clear ht
  have Hx := Lib.hid hx
  clear hx
  have HB := Lib.hid hB
  clear hB
  have x0 := Hx.out.cell 0
  have x1 := Hx.out.cell 1
  have x2 := Hx.out.cell 2
  simp at x0 x1 x2
  go_wp2_with fail
  refine (Hm.out _ Ht.out).mono ?_
  rintro r w2 ⟨rfl, hb2⟩
  have ht := Ht.out.below hb2 Ht.out.lt
  clear Ht
  have Ht := Lib.hid ht
  clear ht
  have hx := Hx.out.below hb2 Hx.out.lt
  clear Hx
  have Hx := Lib.hid hx
  clear hx
  have hB := HB.out.trans (hb2.mono HB.out.size)
  clear HB
  have HB := Lib.hid hB
  clear hB
  clear hb2 x0 x1 x2
  have x0 := Hx.out.cell 0
  have x1 := Hx.out.cell 1
  have x2 := Hx.out.cell 2
  simp at x0 x1 x2
  go_wp2
  go_quiet (fail)
  have ht := Blk.drewN Ht.out nq
  have hx := Blk.drewN Hx.out nq
  have hB := below_drewN HB.out nq
  clear Ht Hx HB x0 x1 x2
  generalize w2.drewN nq = W at *
  have Ht := Lib.hid ht
  have Hx := Lib.hid hx
  have HB := Lib.hid hB
  clear ht hx hB
  have x0 := Hx.out.cell 0
  have x1 := Hx.out.cell 1
  have x2 := Hx.out.cell 2
  simp at x0 x1 x2
  have f12 := Blk.frozen Ht.out 12
  have c12 := Ht.out.cell 12
  have f5 := Blk.frozen Ht.out 11
  have c5 := Ht.out.cell 11
  simp at c12 c5
  go_wp2
  go_ret
  exact ⟨rfl, (by have := Blk.set_ (Blk.set_ Ht.out 11 (.bool true)) 12 (.bool true); simpa [eff, gA, cA, Tr.put, Tr.own] using this), only_set (only_set (only_of_below HB.out _) 11 _) 12 _⟩

theorem rdo_no_8_1 (w : World) (b : Nat) (t : Tr) (s : ByteArray) (h : RfAt w b t) (hz : Szd t) (hs : s.size ≤ 4194304) (hs1 : s.toList = []) (hs2 : s.toList.isEmpty = true) (hr : ruleM 8 1 t s = none) :
    Calls Try.prog 13 #[.pointer (some ⟨b, 0, none⟩), .agg #[.int .i64 1, .int .u8 8, .string s]] w (RPost w b 3 t) := by
  have hm := fun W (h : RfAt W b t) => mayat8_1 W b t s h hz hs
  rw [show (ruleM 8 1 t s).isSome = false by rw [hr]; rfl] at hm
  have Hm := Lib.hid hm
  clear hm
  have hb0 : Below w.heap.size w w := Below.refl _ _
  have HB := Lib.hid hb0
  clear hb0
  have Ht := Lib.hid h
  clear h
  go_enter Try.func13, Try.ntmps13
  go_upto_region 1 with fail
  have hx := Blk.new w 36 #[.int .i64 1, .int .u8 8, .string s]
  have ht := Blk.alloc Ht.out (.cells #[.int .i64 1, .int .u8 8, .string s] 36)
  clear Ht
  have hB := HB.out.alloc HB.out.size (.cells #[.int .i64 1, .int .u8 8, .string s] 36)
  clear HB
  obtain ⟨gx, hge⟩ : ∃ g, g = w.heap.size := ⟨_, rfl⟩
  rw [← hge] at hx ⊢
  clear hge
  generalize w.alloc _ = w1 at *
  have Ht := Lib.hid ht
  clear ht
  have Hx := Lib.hid hx
  clear hx
  have HB := Lib.hid hB
  clear hB
  have x0 := Hx.out.cell 0
  have x1 := Hx.out.cell 1
  have x2 := Hx.out.cell 2
  simp at x0 x1 x2
  go_wp2_with fail
  refine (Hm.out _ Ht.out).mono ?_
  rintro r w2 ⟨rfl, hb2⟩
  have ht := Ht.out.below hb2 Ht.out.lt
  clear Ht
  have Ht := Lib.hid ht
  clear ht
  have hx := Hx.out.below hb2 Hx.out.lt
  clear Hx
  have Hx := Lib.hid hx
  clear hx
  have hB := HB.out.trans (hb2.mono HB.out.size)
  clear HB
  have HB := Lib.hid hB
  clear hB
  clear hb2 x0 x1 x2
  have x0 := Hx.out.cell 0
  have x1 := Hx.out.cell 1
  have x2 := Hx.out.cell 2
  simp at x0 x1 x2
  go_wp2
  go_ret
  exact ⟨rfl, Ht.out, only_of_below HB.out _⟩

theorem rdo_ok_8_1 (w : World) (b : Nat) (t : Tr) (s : ByteArray) (h : RfAt w b t) (hz : Szd t) (hs : s.size ≤ 4194304) (hs1 : s.toList = []) (hs2 : s.toList.isEmpty = true) (hr : ruleM 8 1 t s = some (eff 1 8 s t)) :
    Calls Try.prog 13 #[.pointer (some ⟨b, 0, none⟩), .agg #[.int .i64 1, .int .u8 8, .string s]] w (RPost w b 0 (eff 1 8 s t)) := by
  have hm := fun W (h : RfAt W b t) => mayat8_1 W b t s h hz hs
  rw [show (ruleM 8 1 t s).isSome = true by rw [hr]; rfl] at hm
  have Hm := Lib.hid hm
  clear hm
  have hb0 : Below w.heap.size w w := Below.refl _ _
  have HB := Lib.hid hb0
  clear hb0
  have Ht := Lib.hid h
  clear h
  go_enter Try.func13, Try.ntmps13
  go_upto_region 1 with fail
  have hx := Blk.new w 36 #[.int .i64 1, .int .u8 8, .string s]
  have ht := Blk.alloc Ht.out (.cells #[.int .i64 1, .int .u8 8, .string s] 36)
  clear Ht
  have hB := HB.out.alloc HB.out.size (.cells #[.int .i64 1, .int .u8 8, .string s] 36)
  clear HB
  obtain ⟨gx, hge⟩ : ∃ g, g = w.heap.size := ⟨_, rfl⟩
  rw [← hge] at hx ⊢
  clear hge
  generalize w.alloc _ = w1 at *
  have Ht := Lib.hid ht
  clear ht
  have Hx := Lib.hid hx
  clear hx
  have HB := Lib.hid hB
  clear hB
  have x0 := Hx.out.cell 0
  have x1 := Hx.out.cell 1
  have x2 := Hx.out.cell 2
  simp at x0 x1 x2
  go_wp2_with fail
  refine (Hm.out _ Ht.out).mono ?_
  rintro r w2 ⟨rfl, hb2⟩
  have ht := Ht.out.below hb2 Ht.out.lt
  clear Ht
  have Ht := Lib.hid ht
  clear ht
  have hx := Hx.out.below hb2 Hx.out.lt
  clear Hx
  have Hx := Lib.hid hx
  clear hx
  have hB := HB.out.trans (hb2.mono HB.out.size)
  clear HB
  have HB := Lib.hid hB
  clear hB
  clear hb2 x0 x1 x2
  have x0 := Hx.out.cell 0
  have x1 := Hx.out.cell 1
  have x2 := Hx.out.cell 2
  simp at x0 x1 x2
  go_wp2
  go_quiet (fail)
  have ht := Blk.drewN Ht.out nq
  have hx := Blk.drewN Hx.out nq
  have hB := below_drewN HB.out nq
  clear Ht Hx HB x0 x1 x2
  generalize w2.drewN nq = W at *
  have Ht := Lib.hid ht
  have Hx := Lib.hid hx
  have HB := Lib.hid hB
  clear ht hx hB
  have x0 := Hx.out.cell 0
  have x1 := Hx.out.cell 1
  have x2 := Hx.out.cell 2
  simp at x0 x1 x2
  have f1 := Blk.frozen Ht.out 11
  have c1 := Ht.out.cell 11
  simp at c1
  go_wp2
  go_ret
  exact ⟨rfl, (by have := Blk.set_ Ht.out 11 (.bool true); simpa [eff, gA, cA, Tr.put, Tr.own] using this), only_set (only_of_below HB.out _) 11 _⟩

theorem rdo_no_9_1 (w : World) (b : Nat) (t : Tr) (s : ByteArray) (h : RfAt w b t) (hz : Szd t) (hs : s.size ≤ 4194304) (hs1 : s.toList = []) (hs2 : s.toList.isEmpty = true) (hr : ruleM 9 1 t s = none) :
    Calls Try.prog 13 #[.pointer (some ⟨b, 0, none⟩), .agg #[.int .i64 1, .int .u8 9, .string s]] w (RPost w b 3 t) := by
  have hm := fun W (h : RfAt W b t) => mayat9_1 W b t s h hz hs
  rw [show (ruleM 9 1 t s).isSome = false by rw [hr]; rfl] at hm
  have Hm := Lib.hid hm
  clear hm
  have hb0 : Below w.heap.size w w := Below.refl _ _
  have HB := Lib.hid hb0
  clear hb0
  have Ht := Lib.hid h
  clear h
  go_enter Try.func13, Try.ntmps13
  go_upto_region 1 with fail
  have hx := Blk.new w 36 #[.int .i64 1, .int .u8 9, .string s]
  have ht := Blk.alloc Ht.out (.cells #[.int .i64 1, .int .u8 9, .string s] 36)
  clear Ht
  have hB := HB.out.alloc HB.out.size (.cells #[.int .i64 1, .int .u8 9, .string s] 36)
  clear HB
  obtain ⟨gx, hge⟩ : ∃ g, g = w.heap.size := ⟨_, rfl⟩
  rw [← hge] at hx ⊢
  clear hge
  generalize w.alloc _ = w1 at *
  have Ht := Lib.hid ht
  clear ht
  have Hx := Lib.hid hx
  clear hx
  have HB := Lib.hid hB
  clear hB
  have x0 := Hx.out.cell 0
  have x1 := Hx.out.cell 1
  have x2 := Hx.out.cell 2
  simp at x0 x1 x2
  go_wp2_with fail
  refine (Hm.out _ Ht.out).mono ?_
  rintro r w2 ⟨rfl, hb2⟩
  have ht := Ht.out.below hb2 Ht.out.lt
  clear Ht
  have Ht := Lib.hid ht
  clear ht
  have hx := Hx.out.below hb2 Hx.out.lt
  clear Hx
  have Hx := Lib.hid hx
  clear hx
  have hB := HB.out.trans (hb2.mono HB.out.size)
  clear HB
  have HB := Lib.hid hB
  clear hB
  clear hb2 x0 x1 x2
  have x0 := Hx.out.cell 0
  have x1 := Hx.out.cell 1
  have x2 := Hx.out.cell 2
  simp at x0 x1 x2
  go_wp2
  go_ret
  exact ⟨rfl, Ht.out, only_of_below HB.out _⟩

theorem rdo_ok_9_1 (w : World) (b : Nat) (t : Tr) (s : ByteArray) (h : RfAt w b t) (hz : Szd t) (hs : s.size ≤ 4194304) (hs1 : s.toList = []) (hs2 : s.toList.isEmpty = true) (hr : ruleM 9 1 t s = some (eff 1 9 s t)) :
    Calls Try.prog 13 #[.pointer (some ⟨b, 0, none⟩), .agg #[.int .i64 1, .int .u8 9, .string s]] w (RPost w b 0 (eff 1 9 s t)) := by
  have hm := fun W (h : RfAt W b t) => mayat9_1 W b t s h hz hs
  rw [show (ruleM 9 1 t s).isSome = true by rw [hr]; rfl] at hm
  have Hm := Lib.hid hm
  clear hm
  have hb0 : Below w.heap.size w w := Below.refl _ _
  have HB := Lib.hid hb0
  clear hb0
  have Ht := Lib.hid h
  clear h
  go_enter Try.func13, Try.ntmps13
  go_upto_region 1 with fail
  have hx := Blk.new w 36 #[.int .i64 1, .int .u8 9, .string s]
  have ht := Blk.alloc Ht.out (.cells #[.int .i64 1, .int .u8 9, .string s] 36)
  clear Ht
  have hB := HB.out.alloc HB.out.size (.cells #[.int .i64 1, .int .u8 9, .string s] 36)
  clear HB
  obtain ⟨gx, hge⟩ : ∃ g, g = w.heap.size := ⟨_, rfl⟩
  rw [← hge] at hx ⊢
  clear hge
  generalize w.alloc _ = w1 at *
  have Ht := Lib.hid ht
  clear ht
  have Hx := Lib.hid hx
  clear hx
  have HB := Lib.hid hB
  clear hB
  have x0 := Hx.out.cell 0
  have x1 := Hx.out.cell 1
  have x2 := Hx.out.cell 2
  simp at x0 x1 x2
  go_wp2_with fail
  refine (Hm.out _ Ht.out).mono ?_
  rintro r w2 ⟨rfl, hb2⟩
  have ht := Ht.out.below hb2 Ht.out.lt
  clear Ht
  have Ht := Lib.hid ht
  clear ht
  have hx := Hx.out.below hb2 Hx.out.lt
  clear Hx
  have Hx := Lib.hid hx
  clear hx
  have hB := HB.out.trans (hb2.mono HB.out.size)
  clear HB
  have HB := Lib.hid hB
  clear hB
  clear hb2 x0 x1 x2
  have x0 := Hx.out.cell 0
  have x1 := Hx.out.cell 1
  have x2 := Hx.out.cell 2
  simp at x0 x1 x2
  go_wp2
  go_quiet (fail)
  have ht := Blk.drewN Ht.out nq
  have hx := Blk.drewN Hx.out nq
  have hB := below_drewN HB.out nq
  clear Ht Hx HB x0 x1 x2
  generalize w2.drewN nq = W at *
  have Ht := Lib.hid ht
  have Hx := Lib.hid hx
  have HB := Lib.hid hB
  clear ht hx hB
  have x0 := Hx.out.cell 0
  have x1 := Hx.out.cell 1
  have x2 := Hx.out.cell 2
  simp at x0 x1 x2
  have f12 := Blk.frozen Ht.out 12
  have c12 := Ht.out.cell 12
  simp at c12
  go_wp2
  go_ret
  exact ⟨rfl, (by have := Blk.set_ Ht.out 12 (.bool true); simpa [eff, gA, cA, Tr.put, Tr.own] using this), only_set (only_of_below HB.out _) 12 _⟩

end Go.Proofs.Ytcdbbdjabccjdaa
