/- Contracts of layer 6 (tcp), first part: numbers as bytes, the highest first; bytes as numbers. -/
import Derived.Test.YtpmcdpbolcmhgaaSumLit
import Derived.Test.YtpmcdpbolcmhgaaBytes
import Derived.Test.YtpmcdpbolcmhgaaClass
import Derived.Laws.BitsAllLaws
import Derived.Laws.MakeOwn
import Derived.Laws.OwnMore
import Derived.Deep.RegionHeld3
set_option linter.unusedVariables false
set_option linter.unusedSimpArgs false
namespace Go.Proofs.Ytpmcdpbolcmhgaa
open Go.RowKit

/-- a number's bytes -/
def be2 (x : Nat) : List UInt8 := [UInt8.ofNat (x / 256), UInt8.ofNat x]
def be4 (x : Nat) : List UInt8 := [UInt8.ofNat (x / 16777216), UInt8.ofNat (x / 65536), UInt8.ofNat (x / 256), UInt8.ofNat x]
/-- the number that bytes are -/
def numL (l : List UInt8) : Nat := l.foldl (fun x c => (x * 256 + c.toNat) % 4294967296) 0
theorem numL_snoc (l : List UInt8) (c : UInt8) : numL (l ++ [c]) = (numL l * 256 + c.toNat) % 4294967296 := by simp [numL, List.foldl_append]
theorem numL_lt (l : List UInt8) : numL l < 4294967296 := by
  rcases List.eq_nil_or_concat l with rfl | ⟨l, c, rfl⟩
  · decide
  · rw [List.concat_eq_append, numL_snoc]; exact Nat.mod_lt _ (by decide)
theorem u8b (x : Nat) : (((UInt8.ofNat x).toNat : Nat) : Int) = (x : Int) % 256 := by
  rw [UInt8.toNat_ofNat']
  omega
theorem byte_of {x : Int} {n : Nat} (h : x = (n : Int) % 256) : Value.int .u8 x = Value.int .u8 (((UInt8.ofNat n).toNat : Nat) : Int) := by rw [h, u8b]

def u8v (b : UInt8) : Value := .int .u8 (b.toNat : Int)
set_option maxHeartbeats 2000000 in
theorem high16 (x : Nat) (w : World) (hx : x < 65536) :
    Calls Try.prog 25 #[.int .u16 (x : Int), .int .i64 2] w fun e w' => e = .returned (.string ⟨(be2 x).toArray⟩) ∧ Below w.heap.size w w' := by
  have hmk : ∀ W : World, (Instr.makeSlice 38 (.int .i64 2) (.int .i64 2)).run Try.prog W = .ok (.slice (some ⟨W.heap.size, 0, none⟩) 2 2) (W.alloc (.cells #[.int .u8 0, .int .u8 0] 5)) := fun _ => by kernel_rfl
  go_enter Try.func25, Try.ntmps25
  go_wp2
  clear hmk
  have h0 := Blk.new w 5 #[.int .u8 0, .int .u8 0]
  have hb0 : Below w.heap.size w (w.alloc (.cells #[.int .u8 0, .int .u8 0] 5)) := (Below.refl _ _).alloc (Nat.le_refl _) _
  obtain ⟨g, hg⟩ : ∃ g, g = w.heap.size := ⟨_, rfl⟩
  rw [← hg] at h0 ⊢
  have hgl : w.heap.size ≤ g := by omega
  clear hg
  go_loopw [11] (fun i wr => Below w.heap.size w wr ∧ ((i = .int .i64 0 ∧ Blk wr g 5 #[.int .u8 0, .int .u8 0]) ∨ (i = .int .i64 1 ∧ Blk wr g 5 #[.int .u8 0, u8v (UInt8.ofNat x)]) ∨ (i = .int .i64 2 ∧ Blk wr g 5 #[u8v (UInt8.ofNat (x / 256)), u8v (UInt8.ofNat x)]))) (fun i _ => 2 - (intOf i).toNat)
  case atStart => exact ⟨hb0, .inl ⟨rfl, h0⟩⟩
  case round =>
    obtain ⟨hb, hrel⟩ := hrel
    clear h0 hb0
    rcases hrel with ⟨rfl, h⟩ | ⟨rfl, h⟩ | ⟨rfl, h⟩
    · have f1 := h.frozen 1
      have c1 := h.cell 1 ; simp at c1
      go_wp2
      go_roundw
      case rel => exact ⟨hb.setCell (by simp; omega) _, .inr (.inl ⟨rfl, by have := h.set_ 1 (u8v (UInt8.ofNat x)); simpa [u8v, u8b] using this⟩)⟩
      case measure => simp [intOf]
    · have f1 := h.frozen 0
      have c0 := h.cell 0 ; simp at c0
      go_wp2
      go_roundw
      case rel => exact ⟨hb.setCell (by simp; omega) _, .inr (.inr (⟨rfl, by
        have := h.set_ 0 (u8v (UInt8.ofNat (x / 256)))
        have ht : (x : Int) / 256 % 256 = (x : Int) / 256 := by omega
        simpa [u8v, u8b, ht] using this⟩))⟩
      case measure => simp [intOf]
    · have hbk := run_bytes_back wr ⟨g, 0, none⟩ 2 2 (be2 x) rfl (by
        intro j hj
        rw [add_plain, Nat.zero_add, h.cell j]
        match j, hj with
        | 0, _ => rfl
        | 1, _ => rfl)
      clear h
      go_wp2
      go_ret
      exact ⟨rfl, hb⟩
set_option maxHeartbeats 2000000 in
theorem high32 (x : Nat) (w : World) (hx : x < 4294967296) :
    Calls Try.prog 26 #[.int .u32 (x : Int), .int .i64 4] w fun e w' => e = .returned (.string ⟨(be4 x).toArray⟩) ∧ Below w.heap.size w w' := by
  have hmk : ∀ W : World, (Instr.makeSlice 38 (.int .i64 4) (.int .i64 4)).run Try.prog W = .ok (.slice (some ⟨W.heap.size, 0, none⟩) 4 4) (W.alloc (.cells #[.int .u8 0, .int .u8 0, .int .u8 0, .int .u8 0] 5)) := fun _ => by kernel_rfl
  go_enter Try.func26, Try.ntmps26
  go_wp2
  clear hmk
  have h0 := Blk.new w 5 #[.int .u8 0, .int .u8 0, .int .u8 0, .int .u8 0]
  have hb0 : Below w.heap.size w (w.alloc (.cells #[.int .u8 0, .int .u8 0, .int .u8 0, .int .u8 0] 5)) := (Below.refl _ _).alloc (Nat.le_refl _) _
  obtain ⟨g, hg⟩ : ∃ g, g = w.heap.size := ⟨_, rfl⟩
  rw [← hg] at h0 ⊢
  have hgl : w.heap.size ≤ g := by omega
  clear hg
  go_loopw [11] (fun i wr => Below w.heap.size w wr ∧ ((i = .int .i64 0 ∧ Blk wr g 5 #[.int .u8 0, .int .u8 0, .int .u8 0, .int .u8 0]) ∨ (i = .int .i64 1 ∧ Blk wr g 5 #[.int .u8 0, .int .u8 0, .int .u8 0, u8v (UInt8.ofNat x)]) ∨ (i = .int .i64 2 ∧ Blk wr g 5 #[.int .u8 0, .int .u8 0, u8v (UInt8.ofNat (x / 256)), u8v (UInt8.ofNat x)]) ∨ (i = .int .i64 3 ∧ Blk wr g 5 #[.int .u8 0, u8v (UInt8.ofNat (x / 65536)), u8v (UInt8.ofNat (x / 256)), u8v (UInt8.ofNat x)]) ∨ (i = .int .i64 4 ∧ Blk wr g 5 #[u8v (UInt8.ofNat (x / 16777216)), u8v (UInt8.ofNat (x / 65536)), u8v (UInt8.ofNat (x / 256)), u8v (UInt8.ofNat x)]))) (fun i _ => 4 - (intOf i).toNat)
  case atStart => exact ⟨hb0, .inl ⟨rfl, h0⟩⟩
  case round =>
    obtain ⟨hb, hrel⟩ := hrel
    clear h0 hb0
    rcases hrel with ⟨rfl, h⟩ | ⟨rfl, h⟩ | ⟨rfl, h⟩ | ⟨rfl, h⟩ | ⟨rfl, h⟩
    · have f1 := h.frozen 3
      have c3 := h.cell 3 ; simp at c3
      go_wp2
      go_roundw
      case rel => exact ⟨hb.setCell (by simp; omega) _, .inr (.inl ⟨rfl, by have := h.set_ 3 (u8v (UInt8.ofNat x)); simpa [u8v, u8b] using this⟩)⟩
      case measure => simp [intOf]
    · have f1 := h.frozen 2
      have c2 := h.cell 2 ; simp at c2
      go_wp2
      go_roundw
      case rel => exact ⟨hb.setCell (by simp; omega) _, .inr (.inr (.inl ⟨rfl, by have := h.set_ 2 (u8v (UInt8.ofNat (x / 256))); simpa [u8v, u8b] using this⟩))⟩
      case measure => simp [intOf]
    · have f1 := h.frozen 1
      have c1 := h.cell 1 ; simp at c1
      go_wp2
      go_roundw
      case rel => exact ⟨hb.setCell (by simp; omega) _, .inr (.inr (.inr (.inl ⟨rfl, by have := h.set_ 1 (u8v (UInt8.ofNat (x / 65536))); simpa [u8v, u8b] using this⟩)))⟩
      case measure => simp [intOf]
    · have f1 := h.frozen 0
      have c0 := h.cell 0 ; simp at c0
      go_wp2
      go_roundw
      case rel => exact ⟨hb.setCell (by simp; omega) _, .inr (.inr (.inr (.inr (⟨rfl, by
        have := h.set_ 0 (u8v (UInt8.ofNat (x / 16777216)))
        have ht : (x : Int) / 16777216 % 256 = (x : Int) / 16777216 := by omega
        simpa [u8v, u8b, ht] using this⟩))))⟩
      case measure => simp [intOf]
    · have hbk := run_bytes_back wr ⟨g, 0, none⟩ 4 4 (be4 x) rfl (by
        intro j hj
        rw [add_plain, Nat.zero_add, h.cell j]
        match j, hj with
        | 0, _ => rfl
        | 1, _ => rfl
        | 2, _ => rfl
        | 3, _ => rfl)
      clear h
      go_wp2
      go_ret
      exact ⟨rfl, hb⟩

theorem u32_or_add (a b : Nat) (ha : a < 4294967296) (hb : b < 256) (h : a % 256 = 0) : bits .or .u32 (a : Int) (b : Int) = ((a + b : Nat) : Int) := by
  rw [u32_or_nat a b ha (by omega), nat_join 8 a b h hb]
theorem numL_step (l : List UInt8) (c : UInt8) : bits .or .u32 ((numL l * 256 % 4294967296 : Nat) : Int) ((c.toNat : Nat) : Int) = ((numL (l ++ [c]) : Nat) : Int) := by
  have hc := c.toNat_lt
  rw [u32_or_add _ _ (Nat.mod_lt _ (by decide)) (by omega) (by omega), numL_snoc]
  congr 1
  omega
theorem take_snoc' (s : ByteArray) (k : Nat) (h : k < s.size) : s.data.toList.take (k + 1) = s.data.toList.take k ++ [s[k]] := by
  rw [List.take_succ_eq_append_getElem (by simpa using h)]; rfl

set_option maxHeartbeats 2000000 in
theorem number_any (s : ByteArray) (w : World) (hs : s.size ≤ maxLen) :
    Calls Try.prog 33 #[.string s] w fun e w' => e = .returned (.int .u32 ((numL s.data.toList : Nat) : Int)) ∧ Below w.heap.size w w' := by
  obtain ⟨W1, cap, hrun, hB, hsz, hcell, _⟩ := run_bytes_new w s
  unfold maxLen at hs
  go_enter Try.func33, Try.ntmps33
  go_wp2
  clear hrun
  have HC := Lib.hid hcell
  clear hcell hsz
  go_loop [2, 8] (fun x i => ∃ k : Nat, k ≤ s.size ∧ i = .int .i64 k ∧ x = .int .u32 ((numL (s.data.toList.take k) : Nat) : Int)) (fun _ i => s.size - (intOf i).toNat)
  case atStart => exact ⟨0, Nat.zero_le _, rfl, rfl⟩
  case round =>
    obtain ⟨k, hk, rfl, rfl⟩ := hrel
    by_cases hlt : k < s.size
    · have c1 := HC.out k hlt
      have hn := numL_lt (s.data.toList.take k)
      have hst := numL_step (s.data.toList.take k) s[k]
      rw [← take_snoc' s k hlt] at hst
      generalize numL (s.data.toList.take k) = n at *
      obtain ⟨n2, hn2⟩ : ∃ n2, n2 = numL (s.data.toList.take (k + 1)) := ⟨_, rfl⟩
      rw [← hn2] at hst
      have HN2 := Lib.hid hn2
      clear hn2
      have hc := (s[k]).toNat_lt
      generalize (s[k]).toNat = c at *
      have hm : ((n * 256 % 4294967296 : Nat) : Int) = (n : Int) * 256 % 4294967296 := by omega
      rw [hm] at hst
      have hw : IntKind.u32.wrap ((n : Int) * 256) = (n : Int) * 256 % 4294967296 := by rw [IntKind.wrap_u32']
      clear hm
      go_wp2
      go_round
      case rel => exact ⟨k + 1, by omega, by go_num, by rw [← HN2.out]⟩
      case measure => simp [intOf]; omega
    · go_wp2
      go_ret
      exact ⟨ret_int (by rw [List.take_of_length_le (by show s.size ≤ k; omega)]), hB⟩
theorem u16_or_add (a b : Nat) (ha : a < 65536) (hb : b < 256) (h : a % 256 = 0) : bits .or .u16 (a : Int) (b : Int) = ((a + b : Nat) : Int) := by
  rw [u16_or_nat a b ha (by omega), nat_join 8 a b h hb]
theorem numL16_step (l : List UInt8) (c : UInt8) : bits .or .u16 ((numL l % 65536 * 256 % 65536 : Nat) : Int) ((c.toNat : Nat) : Int) = ((numL (l ++ [c]) % 65536 : Nat) : Int) := by
  have hc := c.toNat_lt
  rw [u16_or_add _ _ (Nat.mod_lt _ (by decide)) (by omega) (by omega), numL_snoc]
  congr 1
  omega
set_option maxHeartbeats 2000000 in
theorem number16 (s : ByteArray) (w : World) (hs : s.size ≤ maxLen) :
    Calls Try.prog 32 #[.string s] w fun e w' => e = .returned (.int .u16 ((numL s.data.toList % 65536 : Nat) : Int)) ∧ Below w.heap.size w w' := by
  obtain ⟨W1, cap, hrun, hB, hsz, hcell, _⟩ := run_bytes_new w s
  unfold maxLen at hs
  go_enter Try.func32, Try.ntmps32
  go_wp2
  clear hrun
  have HC := Lib.hid hcell
  clear hcell hsz
  go_loop [2, 8] (fun x i => ∃ k : Nat, k ≤ s.size ∧ i = .int .i64 k ∧ x = .int .u16 ((numL (s.data.toList.take k) % 65536 : Nat) : Int)) (fun _ i => s.size - (intOf i).toNat)
  case atStart => exact ⟨0, Nat.zero_le _, rfl, rfl⟩
  case round =>
    obtain ⟨k, hk, rfl, rfl⟩ := hrel
    by_cases hlt : k < s.size
    · have c1 := HC.out k hlt
      have hst := numL16_step (s.data.toList.take k) s[k]
      rw [← take_snoc' s k hlt] at hst
      obtain ⟨n, hn⟩ : ∃ n, n = numL (s.data.toList.take k) % 65536 := ⟨_, rfl⟩
      obtain ⟨n2, hn2⟩ : ∃ n2, n2 = numL (s.data.toList.take (k + 1)) % 65536 := ⟨_, rfl⟩
      rw [← hn, ← hn2] at hst
      rw [← hn]
      have hnl : n < 65536 := by omega
      have HN2 := Lib.hid hn2
      clear hn2 hn
      have hc := (s[k]).toNat_lt
      generalize (s[k]).toNat = c at *
      have hm : ((n * 256 % 65536 : Nat) : Int) = (n : Int) * 256 % 65536 := by omega
      rw [hm] at hst
      have hw : IntKind.u16.wrap ((n : Int) * 256) = (n : Int) * 256 % 65536 := by rw [IntKind.wrap_u16]
      clear hm
      go_wp2
      go_round
      case rel => exact ⟨k + 1, by omega, by go_num, by rw [← HN2.out]⟩
      case measure => simp [intOf]; omega
    · go_wp2
      go_ret
      exact ⟨ret_int (by rw [List.take_of_length_le (by show s.size ≤ k; omega)]), hB⟩
set_option maxHeartbeats 2000000 in
theorem ref_num (s : ByteArray) (w : World) (hs : s.size ≤ maxLen) :
    Calls Try.prog 34 #[.string s] w fun e w' => e = .returned (.int .u32 ((numL s.data.toList : Nat) : Int)) ∧ w = w' := by
  unfold maxLen at hs
  go_enter Try.func34, Try.ntmps34
  go_wp2
  go_loop [3, 4] (fun x i => ∃ k : Nat, k ≤ s.size ∧ i = .int .i64 k ∧ x = .int .u32 ((numL (s.data.toList.take k) : Nat) : Int)) (fun _ i => s.size - (intOf i).toNat)
  case atStart => exact ⟨0, Nat.zero_le _, rfl, rfl⟩
  case round =>
    obtain ⟨k, hk, rfl, rfl⟩ := hrel
    by_cases hlt : k < s.size
    · have hn := numL_lt (s.data.toList.take k)
      have hst := numL_snoc (s.data.toList.take k) s[k]
      rw [← take_snoc' s k hlt] at hst
      have hc := (s[k]).toNat_lt
      have HST := Lib.hid hst
      clear hst
      go_wp2
      go_round
      case rel => exact ⟨k + 1, by omega, by go_num, by rw [HST.out]; congr 1; omega⟩
      case measure => simp [intOf]; omega
    · go_wp2
      go_ret
      exact ⟨ret_int (by rw [List.take_of_length_le (by show s.size ≤ k; omega)]), rfl⟩

theorem str_two (a b : UInt8) (W : World) (g c : Nat) (h : Blk W g 5 #[u8v a, u8v b]) : (convert 38 9 (.slice (some ⟨g, 0, none⟩) 2 c)).run Try.prog W = .ok (.string ⟨#[a, b]⟩) W :=
  run_bytes_back W ⟨g, 0, none⟩ 2 c [a, b] rfl (by
    intro j hj
    rw [add_plain, Nat.zero_add, h.cell j]
    match j, hj with
    | 0, _ => rfl
    | 1, _ => rfl)
set_option maxHeartbeats 1000000 in
theorem ref_bytes (x : Nat) (w : World) (hx : x < 65536) :
    Calls Try.prog 47 #[.int .u16 (x : Int)] w fun e w' => e = .returned (.string ⟨(be2 x).toArray⟩) ∧ Below w.heap.size w w' := by
  have h0 := Blk.new w 5 #[u8v (UInt8.ofNat (x / 256)), u8v (UInt8.ofNat x)]
  have hk := str_two _ _ _ _ 2 h0
  have ht : (x : Int) / 256 % 256 = (x : Int) / 256 := by omega
  simp [u8v, u8b, ht] at hk
  clear h0 ht
  go_enter Try.func47, Try.ntmps47
  go_wp2
  go_ret
  exact ⟨rfl, (Below.refl _ _).alloc (Nat.le_refl _) _⟩
set_option maxHeartbeats 1000000 in
theorem ref_four (x : Nat) (w : World) (hx : x < 4294967296) :
    Calls Try.prog 48 #[.int .u32 (x : Int)] w fun e w' => e = .returned (.string ⟨(be4 x).toArray⟩) ∧ Below w.heap.size w w' := by
  have b1 := fun W => ref_bytes (x / 65536) W (by omega)
  have b2 := fun W => ref_bytes (x % 65536) W (by omega)
  have e1 : ((x / 65536 : Nat) : Int) = (x : Int) / 65536 := by omega
  have e2 : ((x % 65536 : Nat) : Int) = (x : Int) % 65536 := by omega
  rw [e1] at b1
  rw [e2] at b2
  have e3 : (⟨(be2 (x / 65536)).toArray⟩ : ByteArray) ++ ⟨(be2 (x % 65536)).toArray⟩ = ⟨(be4 x).toArray⟩ := by
    apply ByteArray.ext
    rw [ByteArray.data_append]
    have h1 : UInt8.ofNat (x % 65536 / 256) = UInt8.ofNat (x / 256) := by
      apply UInt8.toNat_inj.1; rw [UInt8.toNat_ofNat', UInt8.toNat_ofNat']; omega
    have h2 : UInt8.ofNat (x % 65536) = UInt8.ofNat x := by
      apply UInt8.toNat_inj.1; rw [UInt8.toNat_ofNat', UInt8.toNat_ofNat']; omega
    have h3 : UInt8.ofNat (x / 65536 / 256) = UInt8.ofNat (x / 16777216) := by
      rw [Nat.div_div_eq_div_mul]
    simp [be2, be4, h1, h2, h3]
  have ht : (x : Int) / 65536 % 65536 = (x : Int) / 65536 := by omega
  have hw2 : IntKind.u16.wrap (x : Int) = (x : Int) % 65536 := IntKind.wrap_u16 _
  have B1 := Lib.hid b1
  clear b1
  have B2 := Lib.hid b2
  clear b2
  have E3 := Lib.hid e3
  clear e3
  clear e1 e2
  go_enter Try.func48, Try.ntmps48
  go_wp2_with fail
  (with_reducible refine (B1.out _).mono ?_)
  rintro e w1 ⟨rfl, hb1⟩
  go_wp2_with fail
  (with_reducible refine (B2.out _).mono ?_)
  rintro e w2 ⟨rfl, hb2⟩
  go_wp2
  go_ret
  exact ⟨by rw [← E3.out]; rfl, hb1.trans (hb2.mono hb1.size)⟩
end Go.Proofs.Ytpmcdpbolcmhgaa
