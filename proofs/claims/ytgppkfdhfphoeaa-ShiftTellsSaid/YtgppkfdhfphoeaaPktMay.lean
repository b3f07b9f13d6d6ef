/- Layer 8 (pkt), and the document's: which segments may be; where they end. -/
import Derived.Test.YtgppkfdhfphoeaaOptMay
import Derived.Laws.BitsAllLaws
import Derived.Laws.BitsLemmas
set_option linter.unusedVariables false
set_option linter.unusedSimpArgs false
namespace Go.Proofs.Ytgppkfdhfphoeaa
open Go.RowKit Go.BigFrame

/-- how many bits a number below 8 has -/
def ones3 (k : Nat) : Nat := k % 2 + k / 2 % 2 + k / 4 % 2
set_option maxRecDepth 100000 in
theorem ones_k0 (w : World) : Calls Try.prog 21 #[.int .u8 0] w fun e w' => e = .returned (.int .i64 0) ∧ w = w' := by
  go_enter Try.func21, Try.ntmps21
  go_wp2
  go_ret
  exact ⟨by kernel_rfl, rfl⟩
set_option maxRecDepth 100000 in
theorem ones_k1 (w : World) : Calls Try.prog 21 #[.int .u8 1] w fun e w' => e = .returned (.int .i64 1) ∧ w = w' := by
  go_enter Try.func21, Try.ntmps21
  go_wp2
  go_ret
  exact ⟨by kernel_rfl, rfl⟩
set_option maxRecDepth 100000 in
theorem ones_k2 (w : World) : Calls Try.prog 21 #[.int .u8 2] w fun e w' => e = .returned (.int .i64 1) ∧ w = w' := by
  go_enter Try.func21, Try.ntmps21
  go_wp2
  go_ret
  exact ⟨by kernel_rfl, rfl⟩
set_option maxRecDepth 100000 in
theorem ones_k3 (w : World) : Calls Try.prog 21 #[.int .u8 3] w fun e w' => e = .returned (.int .i64 2) ∧ w = w' := by
  go_enter Try.func21, Try.ntmps21
  go_wp2
  go_ret
  exact ⟨by kernel_rfl, rfl⟩
set_option maxRecDepth 100000 in
theorem ones_k4 (w : World) : Calls Try.prog 21 #[.int .u8 4] w fun e w' => e = .returned (.int .i64 1) ∧ w = w' := by
  go_enter Try.func21, Try.ntmps21
  go_wp2
  go_ret
  exact ⟨by kernel_rfl, rfl⟩
set_option maxRecDepth 100000 in
theorem ones_k5 (w : World) : Calls Try.prog 21 #[.int .u8 5] w fun e w' => e = .returned (.int .i64 2) ∧ w = w' := by
  go_enter Try.func21, Try.ntmps21
  go_wp2
  go_ret
  exact ⟨by kernel_rfl, rfl⟩
set_option maxRecDepth 100000 in
theorem ones_k6 (w : World) : Calls Try.prog 21 #[.int .u8 6] w fun e w' => e = .returned (.int .i64 2) ∧ w = w' := by
  go_enter Try.func21, Try.ntmps21
  go_wp2
  go_ret
  exact ⟨by kernel_rfl, rfl⟩
set_option maxRecDepth 100000 in
theorem ones_k7 (w : World) : Calls Try.prog 21 #[.int .u8 7] w fun e w' => e = .returned (.int .i64 3) ∧ w = w' := by
  go_enter Try.func21, Try.ntmps21
  go_wp2
  go_ret
  exact ⟨by kernel_rfl, rfl⟩
theorem ones_any (k : Nat) (hk : k < 8) (w : World) : Calls Try.prog 21 #[.int .u8 (k : Int)] w fun e w' => e = .returned (.int .i64 (ones3 k : Int)) ∧ w = w' := by
  match k, hk with
  | 0, _ => exact ones_k0 w
  | 1, _ => exact ones_k1 w
  | 2, _ => exact ones_k2 w
  | 3, _ => exact ones_k3 w
  | 4, _ => exact ones_k4 w
  | 5, _ => exact ones_k5 w
  | 6, _ => exact ones_k6 w
  | 7, _ => exact ones_k7 w
def flagsB (f : Nat) : Bool := decide (f < 32) && decide (ones3 (f % 8) ≤ 1)
theorem and224 : ∀ f, f < 256 → (f &&& 224 = 0 ↔ f < 32) := by decide +kernel
theorem andNot31 (f : Nat) (hf : f < 256) : ∃ a : Int, bits .andNot .u8 (f : Int) 31 = a ∧ (a = 0 ↔ f < 32) := by
  refine ⟨_, u8_andNot_nat f 31 hf (by decide), ?_⟩
  show ((f &&& 224 : Nat) : Int) = 0 ↔ _
  rw [← and224 f hf]
  exact ⟨fun h => Int.ofNat_eq_zero.1 h, fun h => by rw [h]; rfl⟩
theorem ones3_le (k : Nat) : ones3 k ≤ 3 := by unfold ones3; omega
set_option maxHeartbeats 1000000 in
theorem flags_any (f : Nat) (hf : f < 256) (w : World) : Calls Try.prog 28 #[.int .u8 (f : Int)] w fun e w' => e = .returned (.bool (flagsB f)) ∧ w = w' := by
  obtain ⟨a, h1, h2⟩ := andNot31 f hf
  have h7 : bits .and .u8 (f : Int) 7 = ((f % 8 : Nat) : Int) := by
    have := u8_and_nat f 7 hf (by decide)
    rw [Nat.and_two_pow_sub_one_eq_mod f 3] at this
    exact this
  have ho := ones_any (f % 8) (Nat.mod_lt _ (by decide)) w
  obtain ⟨k, hk⟩ : ∃ k : Int, k = ((f % 8 : Nat) : Int) := ⟨_, rfl⟩
  obtain ⟨q, hq⟩ : ∃ q, q = ones3 (f % 8) := ⟨_, rfl⟩
  have hfb : flagsB f = (decide (f < 32) && decide ((q : Int) ≤ 1)) := by
    unfold flagsB
    rw [← hq]
    congr 1
    apply decide_eq_decide.2
    omega
  rw [hfb]
  rw [← hk] at h7 ho
  rw [← hq] at ho
  have Ho := Lib.hid ho
  by_cases h : f < 32
  · have h3 : a = 0 := h2.2 h
    subst h3
    have hd : decide (f < 32) = true := by simpa using h
    rw [hd]
    generalize (f : Int) = F at *
    clear h2 ho hk hq hfb hd h
    go_enter Try.func28, Try.ntmps28
    go_wp2_with fail
    (with_reducible refine (Ho.out).mono ?_)
    rintro e w' ⟨rfl, rfl⟩
    go_wp2
    go_ret
    exact ⟨ret_bool (by simp), rfl⟩
  · have h3 : a ≠ 0 := fun e => h (h2.1 e)
    have h4 : (a == 0) = false := by simpa using h3
    have hd : decide (f < 32) = false := by simpa using h
    rw [hd]
    generalize (f : Int) = F at *
    clear h2 ho hk hq hfb hd h h3
    go_enter Try.func28, Try.ntmps28
    go_wp2
    go_ret
    exact ⟨ret_bool (by simp), rfl⟩
def bitI (b : Bool) : Int := if b then 1 else 0
set_option maxHeartbeats 1000000 in
theorem rflags_any (f : Nat) (hf : f < 256) (w : World) : Calls Try.prog 30 #[.int .u8 (f : Int)] w fun e w' => e = .returned (.bool (flagsB f)) ∧ Below w.heap.size w w' := by
  obtain ⟨b0, hb0⟩ : ∃ b0, b0 = (bits .and .u8 (f : Int) 1 != 0) := ⟨_, rfl⟩
  obtain ⟨b1, hb1⟩ : ∃ b1, b1 = (bits .and .u8 (f : Int) 2 != 0) := ⟨_, rfl⟩
  obtain ⟨b2, hb2⟩ : ∃ b2, b2 = (bits .and .u8 (f : Int) 4 != 0) := ⟨_, rfl⟩
  have hsum : ∀ f, f < 256 → (if f &&& 1 = 0 then 0 else 1) + (if f &&& 2 = 0 then 0 else 1) + (if f &&& 4 = 0 then 0 else 1) = ones3 (f % 8) := by decide +kernel
  have key : ∀ (c : Nat) (hc : c < 256), bitI (bits .and .u8 (f : Int) (c : Int) != 0) = ((if f &&& c = 0 then 0 else 1 : Nat) : Int) := by
    intro c hc
    rw [u8_and_nat f c hf hc]
    unfold bitI
    by_cases h : f &&& c = 0
    · rw [h]; rfl
    · rw [if_neg h, if_pos (by simpa using h)]; rfl
  have hs : bitI b0 + bitI b1 + bitI b2 = (ones3 (f % 8) : Int) := by
    rw [hb0, hb1, hb2, ← hsum f hf]
    rw [show (1 : Int) = ((1 : Nat) : Int) from rfl, show (2 : Int) = ((2 : Nat) : Int) from rfl, show (4 : Int) = ((4 : Nat) : Int) from rfl, key 1 (by decide), key 2 (by decide), key 4 (by decide)]
    omega
  obtain ⟨s1, hs1⟩ : ∃ s1, s1 = bitI b0 := ⟨_, rfl⟩
  obtain ⟨s2, hs2⟩ : ∃ s2, s2 = s1 + bitI b1 := ⟨_, rfl⟩
  obtain ⟨s3, hs3⟩ : ∃ s3, s3 = s2 + bitI b2 := ⟨_, rfl⟩
  have bb : ∀ b, 0 ≤ bitI b ∧ bitI b ≤ 1 := by intro b; cases b <;> simp [bitI]
  have j0 := bb b0
  have j1 := bb b1
  have j2 := bb b2
  have k1 : 0 ≤ s1 := by omega
  have k2 : s1 ≤ 1 := by omega
  have k3 : 0 ≤ s2 := by omega
  have k4 : s2 ≤ 2 := by omega
  have k5 : 0 ≤ s3 := by omega
  have k6 : s3 ≤ 3 := by omega
  have hfb : flagsB f = (decide ((f : Int) < 32) && decide (s3 ≤ 1)) := by
    unfold flagsB
    have e : s3 = (ones3 (f % 8) : Int) := by rw [← hs]; omega
    rw [e]
    congr 1
    · apply decide_eq_decide.2; omega
    · apply decide_eq_decide.2; omega
  rw [hfb]
  have h1 := hb0.symm
  have h2 := hb1.symm
  have h3 := hb2.symm
  have f1 : (f : Int) ≤ 255 := by omega
  have f2 : (0 : Int) ≤ (f : Int) := by omega
  generalize (f : Int) = F at *
  have H1 := Lib.hid hs1
  have H2 := Lib.hid hs2
  have H3 := Lib.hid hs3
  clear hsum key hs bb j0 j1 j2 hfb hs1 hs2 hs3 hb0 hb1 hb2 hf
  have hk := Blk.new w 5 #[.int .u8 1, .int .u8 2, .int .u8 4]
  have hb : Below w.heap.size w (w.alloc (.cells #[.int .u8 1, .int .u8 2, .int .u8 4] 5)) := (Below.refl _ _).alloc (Nat.le_refl _) _
  have HB := Lib.hid hb
  have HK := Lib.hid hk
  clear hb hk
  go_enter Try.func30, Try.ntmps30
  go_upto_region 3 with fail
  have hk := HK.out
  generalize hW : w.alloc _ = W1 at *
  obtain ⟨g, hg⟩ : ∃ g, g = w.heap.size := ⟨_, rfl⟩
  have hgl : g < W1.heap.size := by rw [hg]; exact hk.lt
  rw [← hg] at hk ⊢
  have c0 := hk.cell 0
  have c1 := hk.cell 1
  have c2 := hk.cell 2
  simp at c0 c1 c2
  clear hW hg hk HK
  go_wp2
  go_loop [3, 5] (fun n i => (i = .int .i64 0 ∧ n = .int .i64 0) ∨ (i = .int .i64 1 ∧ n = .int .i64 s1) ∨ (i = .int .i64 2 ∧ n = .int .i64 s2) ∨ (i = .int .i64 3 ∧ n = .int .i64 s3)) (fun _ i => 3 - (intOf i).toNat)
  case atStart => exact .inl ⟨rfl, rfl⟩
  case round =>
    rcases hrel with ⟨rfl, rfl⟩ | ⟨rfl, rfl⟩ | ⟨rfl, rfl⟩ | ⟨rfl, rfl⟩
    · cases b0 with
      | true =>
        go_wp2
        go_round
        case rel => exact (.inr (.inl ⟨rfl, by rw [H1.out]; simp [bitI]⟩))
        case measure => simp [intOf]
      | false =>
        go_wp2
        go_round
        case rel => exact (.inr (.inl ⟨rfl, by rw [H1.out]; simp [bitI]⟩))
        case measure => simp [intOf]
    · cases b1 with
      | true =>
        go_wp2
        go_round
        case rel => exact (.inr (.inr (.inl ⟨rfl, by rw [H2.out]; simp [bitI]⟩)))
        case measure => simp [intOf]
      | false =>
        go_wp2
        go_round
        case rel => exact (.inr (.inr (.inl ⟨rfl, by rw [H2.out]; simp [bitI]⟩)))
        case measure => simp [intOf]
    · cases b2 with
      | true =>
        go_wp2
        go_round
        case rel => exact (.inr (.inr (.inr ⟨rfl, by rw [H3.out]; simp [bitI]⟩)))
        case measure => simp [intOf]
      | false =>
        go_wp2
        go_round
        case rel => exact (.inr (.inr (.inr ⟨rfl, by rw [H3.out]; simp [bitI]⟩)))
        case measure => simp [intOf]
    · by_cases h : F < 32
      · go_wp2
        go_ret
        exact ⟨ret_bool (by simp [h]), HB.out⟩
      · have H32 := Lib.hid h
        go_wp2
        go_ret
        exact ⟨ret_bool (by simp; have := H32.out; omega), HB.out⟩
/-- a segment's cells: its options by themselves -/
def segO (s0 s1 s2 s3 s4 s5 : Int) (f : Nat) (s7 : Int) (o : Op) (A : Option Addr) (c : Nat) (d : ByteArray) : Array Value :=
  #[.int .u32 s0, .int .u16 s1, .int .u32 s2, .int .u16 s3, .int .u32 s4, .int .u32 s5, .int .u8 (f : Int), .int .u16 s7, .int .u16 (o.mss : Int), .int .i64 o.scale, .bool o.sack, .slice A o.bl.length c, .bool o.time, .int .u32 (o.val : Int), .int .u32 (o.echo : Int), .string d]
def pmayB (f : Nat) (o : Op) (d : ByteArray) : Bool := flagsB f && mayB o && decide (d.size ≤ 1460)
set_option maxRecDepth 100000 in
set_option maxHeartbeats 4000000 in
theorem pmay_any (w : World) (s0 s1 s2 s3 s4 s5 : Int) (f : Nat) (s7 : Int) (o : Op) (A : Option Addr) (c : Nat) (d : ByteArray) (ho : o.wf) (hr : BlR w A o.bl) (hn : o.bl.length ≤ 1000) (hf : f < 256) (hd : d.size ≤ maxLen) :
    Calls Try.prog 20 #[.agg (segO s0 s1 s2 s3 s4 s5 f s7 o A c d)] w fun e w' => e = .returned (.bool (pmayB f o d)) ∧ Below w.heap.size w w' := by
  obtain ⟨fb, hfb⟩ : ∃ fb, fb = flagsB f := ⟨_, rfl⟩
  obtain ⟨mb, hmb⟩ : ∃ mb, mb = mayB o := ⟨_, rfl⟩
  have hp : pmayB f o d = (fb && mb && decide ((d.size : Int) ≤ 1460)) := by
    unfold pmayB
    rw [← hfb, ← hmb]
    congr 1
    apply decide_eq_decide.2
    omega
  rw [hp]
  have hfl := fun W => flags_any f hf W
  have hmy := fun W (h : BlR W A o.bl) => may_any W o A c ho h hn
  unfold optC at hmy
  unfold segO
  rw [← hfb] at hfl
  rw [← hmb] at hmy
  have hb0 : Below w.heap.size w (w.alloc (.cells (segO s0 s1 s2 s3 s4 s5 f s7 o A c d) 39)) := (Below.refl _ _).alloc (Nat.le_refl _) _
  have hS0 : Blk (w.alloc (.cells (segO s0 s1 s2 s3 s4 s5 f s7 o A c d) 39)) w.heap.size 39 (segO s0 s1 s2 s3 s4 s5 f s7 o A c d) := Blk.new _ _ _
  have hR0 := hr.below hb0
  unfold segO at hb0 hS0 hR0
  have hz : (d.size : Int) ≤ 9223372036854775807 := by unfold maxLen at hd; omega
  clear hp hfb hmb hr hd
  generalize o.bl.length = n at *
  generalize (o.mss : Int) = m at *
  generalize (o.val : Int) = vl at *
  generalize (o.echo : Int) = ec at *
  generalize o.scale = sc at *
  generalize o.sack = sk at *
  generalize o.time = tm at *
  generalize (f : Int) = F at *
  have Hfl := Lib.hid hfl
  have Hmy := Lib.hid hmy
  clear hfl hmy ho hn hf
  go_enter Try.func20, Try.ntmps20
  go_upto_region 1 with fail
  obtain ⟨g, hg⟩ : ∃ g, g = w.heap.size := ⟨_, rfl⟩
  generalize hW1 : w.alloc _ = W1 at *
  rw [← hg] at hS0 ⊢
  clear hg hW1
  have HB := Lib.hid hb0
  have HR := Lib.hid hR0
  have c6 := hS0.cell 6
  have c8 := hS0.cell 8
  have c9 := hS0.cell 9
  have c10 := hS0.cell 10
  have c11 := hS0.cell 11
  have c12 := hS0.cell 12
  have c13 := hS0.cell 13
  have c14 := hS0.cell 14
  have c15 := hS0.cell 15
  simp at c6 c8 c9 c10 c11 c12 c13 c14 c15
  have HS := Lib.hid hS0
  clear hb0 hR0 hS0
  go_wp2_with fail
  (with_reducible refine (Hfl.out _).mono ?_)
  rintro e w' ⟨rfl, rfl⟩
  cases fb with
  | false =>
    go_wp2
    go_ret
    exact ⟨ret_bool (by simp), HB.out⟩
  | true =>
    go_wp2_with fail
    with_reducible refine (Hmy.out _ HR.out).mono ?_
    rintro e w9 ⟨rfl, hb9⟩
    have hF := HB.out.trans (hb9.mono HB.out.size)
    have d15 := (HS.out.below hb9 HS.out.lt).cell 15
    simp at d15
    have HF := Lib.hid hF
    clear hF hb9 c6 c8 c9 c10 c11 c12 c13 c14 c15
    cases mb with
    | false =>
      go_wp2
      go_ret
      exact ⟨ret_bool (by simp), HF.out⟩
    | true =>
      go_wp2
      go_ret
      exact ⟨ret_bool (by simp), HF.out⟩
set_option maxRecDepth 100000 in
set_option maxHeartbeats 4000000 in
theorem rpmay_any (w : World) (s0 s1 s2 s3 s4 s5 : Int) (f : Nat) (s7 : Int) (o : Op) (A : Option Addr) (c : Nat) (d : ByteArray) (ho : o.wf) (hr : BlR w A o.bl) (hn : o.bl.length ≤ 1000) (hf : f < 256) (hd : d.size ≤ maxLen) :
    Calls Try.prog 23 #[.agg (segO s0 s1 s2 s3 s4 s5 f s7 o A c d)] w fun e w' => e = .returned (.bool (pmayB f o d)) ∧ Below w.heap.size w w' := by
  obtain ⟨fb, hfb⟩ : ∃ fb, fb = flagsB f := ⟨_, rfl⟩
  obtain ⟨mb, hmb⟩ : ∃ mb, mb = mayB o := ⟨_, rfl⟩
  have hp : pmayB f o d = (fb && mb && decide ((d.size : Int) ≤ 1460)) := by
    unfold pmayB
    rw [← hfb, ← hmb]
    congr 1
    apply decide_eq_decide.2
    omega
  rw [hp]
  have hfl := fun W => rflags_any f hf W
  have hmy := fun W (h : BlR W A o.bl) => rmay_any W o A c ho h hn
  unfold optC at hmy
  unfold segO
  rw [← hfb] at hfl
  rw [← hmb] at hmy
  have hb0 : Below w.heap.size w (w.alloc (.cells (segO s0 s1 s2 s3 s4 s5 f s7 o A c d) 39)) := (Below.refl _ _).alloc (Nat.le_refl _) _
  have hS0 : Blk (w.alloc (.cells (segO s0 s1 s2 s3 s4 s5 f s7 o A c d) 39)) w.heap.size 39 (segO s0 s1 s2 s3 s4 s5 f s7 o A c d) := Blk.new _ _ _
  have hR0 := hr.below hb0
  unfold segO at hb0 hS0 hR0
  have hz : (d.size : Int) ≤ 9223372036854775807 := by unfold maxLen at hd; omega
  clear hp hfb hmb hr hd
  generalize o.bl.length = n at *
  generalize (o.mss : Int) = m at *
  generalize (o.val : Int) = vl at *
  generalize (o.echo : Int) = ec at *
  generalize o.scale = sc at *
  generalize o.sack = sk at *
  generalize o.time = tm at *
  generalize (f : Int) = F at *
  have Hfl := Lib.hid hfl
  have Hmy := Lib.hid hmy
  clear hfl hmy ho hn hf
  go_enter Try.func23, Try.ntmps23
  go_upto_region 1 with fail
  obtain ⟨g, hg⟩ : ∃ g, g = w.heap.size := ⟨_, rfl⟩
  generalize hW1 : w.alloc _ = W1 at *
  rw [← hg] at hS0 ⊢
  clear hg hW1
  have HB := Lib.hid hb0
  have HR := Lib.hid hR0
  have c6 := hS0.cell 6
  have c8 := hS0.cell 8
  have c9 := hS0.cell 9
  have c10 := hS0.cell 10
  have c11 := hS0.cell 11
  have c12 := hS0.cell 12
  have c13 := hS0.cell 13
  have c14 := hS0.cell 14
  have c15 := hS0.cell 15
  simp at c6 c8 c9 c10 c11 c12 c13 c14 c15
  have HS := Lib.hid hS0
  clear hb0 hR0 hS0
  go_wp2_with fail
  with_reducible refine (Hfl.out _).mono ?_
  rintro e w8 ⟨rfl, hb8⟩
  have hB8 := HB.out.trans (hb8.mono HB.out.size)
  have hS8 := HS.out.below hb8 HS.out.lt
  have hR8 := HR.out.below hb8
  clear c6 c8 c9 c10 c11 c12 c13 c14 c15 HB HS HR hb8
  have HB := Lib.hid hB8
  have HS := Lib.hid hS8
  have HR := Lib.hid hR8
  have c8 := hS8.cell 8
  have c9 := hS8.cell 9
  have c10 := hS8.cell 10
  have c11 := hS8.cell 11
  have c12 := hS8.cell 12
  have c13 := hS8.cell 13
  have c14 := hS8.cell 14
  have c15 := hS8.cell 15
  simp at c8 c9 c10 c11 c12 c13 c14 c15
  clear hB8 hS8 hR8
  cases fb with
  | false =>
    go_wp2
    go_ret
    exact ⟨ret_bool (by simp), HB.out⟩
  | true =>
    go_wp2_with fail
    with_reducible refine (Hmy.out _ HR.out).mono ?_
    rintro e w9 ⟨rfl, hb9⟩
    have hF := HB.out.trans (hb9.mono HB.out.size)
    have d15 := (HS.out.below hb9 HS.out.lt).cell 15
    simp at d15
    have HF := Lib.hid hF
    clear hF hb9 c8 c9 c10 c11 c12 c13 c14 c15
    cases mb with
    | false =>
      go_wp2
      go_ret
      exact ⟨ret_bool (by simp), HF.out⟩
    | true =>
      go_wp2
      go_ret
      exact ⟨ret_bool (by simp), HF.out⟩
end Go.Proofs.Ytgppkfdhfphoeaa
