/- Numbers as bytes, the highest first; bytes as numbers. -/
import Derived.Test.YtimepplfaaddeaaBytes
import Derived.Test.YtimepplfaaddeaaClass
import Derived.Laws.BitsAllLaws
import Derived.Laws.MakeOwn
import Derived.Laws.OwnMore
import Derived.Deep.RegionHeld3
set_option linter.unusedVariables false
set_option linter.unusedSimpArgs false
namespace Go.Proofs.Ytimepplfaaddeaa
open Go.RowKit

/-- a number's bytes -/
def be2 (x : Nat) : List UInt8 := [UInt8.ofNat (x / 256), UInt8.ofNat x]
def be4 (x : Nat) : List UInt8 := [UInt8.ofNat (x / 16777216), UInt8.ofNat (x / 65536), UInt8.ofNat (x / 256), UInt8.ofNat x]
/-- the number that bytes are -/
def numL (l : List UInt8) : Nat := l.foldl (fun x c => (x * 256 + c.toNat) % 4294967296) 0
theorem numL_snoc (l : List UInt8) (c : UInt8) : numL (l ++ [c]) = (numL l * 256 + c.toNat) % 4294967296 := by simp [numL, List.foldl_append]
theorem numL_lt (l : List UInt8) : numL l < 4294967296 := by
  rcases List.eq_nil_or_concat l with rfl | ⟨l, c, rfl⟩
  · decide
  · rw [List.concat_eq_append, numL_snoc]; exact Nat.mod_lt _ (by decide)
theorem u8b (x : Nat) : (((UInt8.ofNat x).toNat : Nat) : Int) = (x : Int) % 256 := by
  rw [UInt8.toNat_ofNat']
  omega
theorem byte_of {x : Int} {n : Nat} (h : x = (n : Int) % 256) : Value.int .u8 x = Value.int .u8 (((UInt8.ofNat n).toNat : Nat) : Int) := by rw [h, u8b]

def u8v (b : UInt8) : Value := .int .u8 (b.toNat : Int)
theorem u32_or_add (a b : Nat) (ha : a < 4294967296) (hb : b < 256) (h : a % 256 = 0) : bits .or .u32 (a : Int) (b : Int) = ((a + b : Nat) : Int) := by
  rw [u32_or_nat a b ha (by omega), nat_join 8 a b h hb]
theorem numL_step (l : List UInt8) (c : UInt8) : bits .or .u32 ((numL l * 256 % 4294967296 : Nat) : Int) ((c.toNat : Nat) : Int) = ((numL (l ++ [c]) : Nat) : Int) := by
  have hc := c.toNat_lt
  rw [u32_or_add _ _ (Nat.mod_lt _ (by decide)) (by omega) (by omega), numL_snoc]
  congr 1
  omega
theorem take_snoc' (s : ByteArray) (k : Nat) (h : k < s.size) : s.data.toList.take (k + 1) = s.data.toList.take k ++ [s[k]] := by
  rw [List.take_succ_eq_append_getElem (by simpa using h)]; rfl

set_option maxHeartbeats 2000000 in
theorem number_any (s : ByteArray) (w : World) (hs : s.size ≤ maxLen) :
    Calls Try.prog 26 #[.string s] w fun e w' => e = .returned (.int .u32 ((numL s.data.toList : Nat) : Int)) ∧ Below w.heap.size w w' := by
  obtain ⟨W1, cap, hrun, hB, hsz, hcell, _⟩ := run_bytes_new w s
  unfold maxLen at hs
  go_enter Try.func26, Try.ntmps26
  go_wp2
  clear hrun
  have HC := Lib.hid hcell
  clear hcell hsz
  go_loop [2, 8] (fun x i => ∃ k : Nat, k ≤ s.size ∧ i = .int .i64 k ∧ x = .int .u32 ((numL (s.data.toList.take k) : Nat) : Int)) (fun _ i => s.size - (intOf i).toNat)
  case atStart => exact ⟨0, Nat.zero_le _, rfl, rfl⟩
  case round =>
    obtain ⟨k, hk, rfl, rfl⟩ := hrel
    by_cases hlt : k < s.size
    · have c1 := HC.out k hlt
      have hn := numL_lt (s.data.toList.take k)
      have hst := numL_step (s.data.toList.take k) s[k]
      rw [← take_snoc' s k hlt] at hst
      generalize numL (s.data.toList.take k) = n at *
      obtain ⟨n2, hn2⟩ : ∃ n2, n2 = numL (s.data.toList.take (k + 1)) := ⟨_, rfl⟩
      rw [← hn2] at hst
      have HN2 := Lib.hid hn2
      clear hn2
      have hc := (s[k]).toNat_lt
      generalize (s[k]).toNat = c at *
      have hm : ((n * 256 % 4294967296 : Nat) : Int) = (n : Int) * 256 % 4294967296 := by omega
      rw [hm] at hst
      have hw : IntKind.u32.wrap ((n : Int) * 256) = (n : Int) * 256 % 4294967296 := by rw [IntKind.wrap_u32']
      clear hm
      go_wp2
      go_round
      case rel => exact ⟨k + 1, by omega, by go_num, by rw [← HN2.out]⟩
      case measure => simp [intOf]; omega
    · go_wp2
      go_ret
      exact ⟨ret_int (by rw [List.take_of_length_le (by show s.size ≤ k; omega)]), hB⟩
theorem u16_or_add (a b : Nat) (ha : a < 65536) (hb : b < 256) (h : a % 256 = 0) : bits .or .u16 (a : Int) (b : Int) = ((a + b : Nat) : Int) := by
  rw [u16_or_nat a b ha (by omega), nat_join 8 a b h hb]
theorem numL16_step (l : List UInt8) (c : UInt8) : bits .or .u16 ((numL l % 65536 * 256 % 65536 : Nat) : Int) ((c.toNat : Nat) : Int) = ((numL (l ++ [c]) % 65536 : Nat) : Int) := by
  have hc := c.toNat_lt
  rw [u16_or_add _ _ (Nat.mod_lt _ (by decide)) (by omega) (by omega), numL_snoc]
  congr 1
  omega
set_option maxHeartbeats 2000000 in
theorem number16 (s : ByteArray) (w : World) (hs : s.size ≤ maxLen) :
    Calls Try.prog 25 #[.string s] w fun e w' => e = .returned (.int .u16 ((numL s.data.toList % 65536 : Nat) : Int)) ∧ Below w.heap.size w w' := by
  obtain ⟨W1, cap, hrun, hB, hsz, hcell, _⟩ := run_bytes_new w s
  unfold maxLen at hs
  go_enter Try.func25, Try.ntmps25
  go_wp2
  clear hrun
  have HC := Lib.hid hcell
  clear hcell hsz
  go_loop [2, 8] (fun x i => ∃ k : Nat, k ≤ s.size ∧ i = .int .i64 k ∧ x = .int .u16 ((numL (s.data.toList.take k) % 65536 : Nat) : Int)) (fun _ i => s.size - (intOf i).toNat)
  case atStart => exact ⟨0, Nat.zero_le _, rfl, rfl⟩
  case round =>
    obtain ⟨k, hk, rfl, rfl⟩ := hrel
    by_cases hlt : k < s.size
    · have c1 := HC.out k hlt
      have hst := numL16_step (s.data.toList.take k) s[k]
      rw [← take_snoc' s k hlt] at hst
      obtain ⟨n, hn⟩ : ∃ n, n = numL (s.data.toList.take k) % 65536 := ⟨_, rfl⟩
      obtain ⟨n2, hn2⟩ : ∃ n2, n2 = numL (s.data.toList.take (k + 1)) % 65536 := ⟨_, rfl⟩
      rw [← hn, ← hn2] at hst
      rw [← hn]
      have hnl : n < 65536 := by omega
      have HN2 := Lib.hid hn2
      clear hn2 hn
      have hc := (s[k]).toNat_lt
      generalize (s[k]).toNat = c at *
      have hm : ((n * 256 % 65536 : Nat) : Int) = (n : Int) * 256 % 65536 := by omega
      rw [hm] at hst
      have hw : IntKind.u16.wrap ((n : Int) * 256) = (n : Int) * 256 % 65536 := by rw [IntKind.wrap_u16]
      clear hm
      go_wp2
      go_round
      case rel => exact ⟨k + 1, by omega, by go_num, by rw [← HN2.out]⟩
      case measure => simp [intOf]; omega
    · go_wp2
      go_ret
      exact ⟨ret_int (by rw [List.take_of_length_le (by show s.size ≤ k; omega)]), hB⟩
set_option maxHeartbeats 2000000 in
theorem ref_num (s : ByteArray) (w : World) (hs : s.size ≤ maxLen) :
    Calls Try.prog 40 #[.string s] w fun e w' => e = .returned (.int .u32 ((numL s.data.toList : Nat) : Int)) ∧ w = w' := by
  unfold maxLen at hs
  go_enter Try.func40, Try.ntmps40
  go_wp2
  go_loop [3, 4] (fun x i => ∃ k : Nat, k ≤ s.size ∧ i = .int .i64 k ∧ x = .int .u32 ((numL (s.data.toList.take k) : Nat) : Int)) (fun _ i => s.size - (intOf i).toNat)
  case atStart => exact ⟨0, Nat.zero_le _, rfl, rfl⟩
  case round =>
    obtain ⟨k, hk, rfl, rfl⟩ := hrel
    by_cases hlt : k < s.size
    · have hn := numL_lt (s.data.toList.take k)
      have hst := numL_snoc (s.data.toList.take k) s[k]
      rw [← take_snoc' s k hlt] at hst
      have hc := (s[k]).toNat_lt
      have HST := Lib.hid hst
      clear hst
      go_wp2
      go_round
      case rel => exact ⟨k + 1, by omega, by go_num, by rw [HST.out]; congr 1; omega⟩
      case measure => simp [intOf]; omega
    · go_wp2
      go_ret
      exact ⟨ret_int (by rw [List.take_of_length_le (by show s.size ≤ k; omega)]), rfl⟩

theorem str_two (a b : UInt8) (W : World) (g c : Nat) (h : Blk W g 5 #[u8v a, u8v b]) : (convert 46 9 (.slice (some ⟨g, 0, none⟩) 2 c)).run Try.prog W = .ok (.string ⟨#[a, b]⟩) W :=
  run_bytes_back W ⟨g, 0, none⟩ 2 c [a, b] rfl (by
    intro j hj
    rw [add_plain, Nat.zero_add, h.cell j]
    match j, hj with
    | 0, _ => rfl
    | 1, _ => rfl)
set_option maxHeartbeats 1000000 in
theorem ref_bytes (x : Nat) (w : World) (hx : x < 65536) :
    Calls Try.prog 34 #[.int .u16 (x : Int)] w fun e w' => e = .returned (.string ⟨(be2 x).toArray⟩) ∧ Below w.heap.size w w' := by
  have h0 := Blk.new w 5 #[u8v (UInt8.ofNat (x / 256)), u8v (UInt8.ofNat x)]
  have hk := str_two _ _ _ _ 2 h0
  have ht : (x : Int) / 256 % 256 = (x : Int) / 256 := by omega
  simp [u8v, u8b, ht] at hk
  clear h0 ht
  go_enter Try.func34, Try.ntmps34
  go_wp2
  go_ret
  exact ⟨rfl, (Below.refl _ _).alloc (Nat.le_refl _) _⟩
set_option maxHeartbeats 1000000 in
theorem ref_four (x : Nat) (w : World) (hx : x < 4294967296) :
    Calls Try.prog 35 #[.int .u32 (x : Int)] w fun e w' => e = .returned (.string ⟨(be4 x).toArray⟩) ∧ Below w.heap.size w w' := by
  have b1 := fun W => ref_bytes (x / 65536) W (by omega)
  have b2 := fun W => ref_bytes (x % 65536) W (by omega)
  have e1 : ((x / 65536 : Nat) : Int) = (x : Int) / 65536 := by omega
  have e2 : ((x % 65536 : Nat) : Int) = (x : Int) % 65536 := by omega
  rw [e1] at b1
  rw [e2] at b2
  have e3 : (⟨(be2 (x / 65536)).toArray⟩ : ByteArray) ++ ⟨(be2 (x % 65536)).toArray⟩ = ⟨(be4 x).toArray⟩ := by
    apply ByteArray.ext
    rw [ByteArray.data_append]
    have h1 : UInt8.ofNat (x % 65536 / 256) = UInt8.ofNat (x / 256) := by
      apply UInt8.toNat_inj.1; rw [UInt8.toNat_ofNat', UInt8.toNat_ofNat']; omega
    have h2 : UInt8.ofNat (x % 65536) = UInt8.ofNat x := by
      apply UInt8.toNat_inj.1; rw [UInt8.toNat_ofNat', UInt8.toNat_ofNat']; omega
    have h3 : UInt8.ofNat (x / 65536 / 256) = UInt8.ofNat (x / 16777216) := by
      rw [Nat.div_div_eq_div_mul]
    simp [be2, be4, h1, h2, h3]
  have ht : (x : Int) / 65536 % 65536 = (x : Int) / 65536 := by omega
  have hw2 : IntKind.u16.wrap (x : Int) = (x : Int) % 65536 := IntKind.wrap_u16 _
  have B1 := Lib.hid b1
  clear b1
  have B2 := Lib.hid b2
  clear b2
  have E3 := Lib.hid e3
  clear e3
  clear e1 e2
  go_enter Try.func35, Try.ntmps35
  go_wp2_with fail
  (with_reducible refine (B1.out _).mono ?_)
  rintro e w1 ⟨rfl, hb1⟩
  go_wp2_with fail
  (with_reducible refine (B2.out _).mono ?_)
  rintro e w2 ⟨rfl, hb2⟩
  go_wp2
  go_ret
  exact ⟨by rw [← E3.out]; rfl, hb1.trans (hb2.mono hb1.size)⟩
end Go.Proofs.Ytimepplfaaddeaa
