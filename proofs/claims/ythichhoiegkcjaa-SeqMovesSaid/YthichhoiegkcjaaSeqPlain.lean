/- PLAIN: numbers that go around at 2 to the power of 32 (layer 1): what the package seq and the document's answer compute; no program in sight. -/
import Derived.IntWalk
set_option linter.unusedVariables false
set_option linter.unusedSimpArgs false
set_option linter.unusedSectionVars false
namespace Go.Proofs.Ythichhoiegkcjaa
open Go.RowKit (wrap32 wrap64)

def sLess (a b : Int) : Bool := a != b && decide ((b - a) % 4294967296 < 2147483648)
def sSub (a b : Int) : Int := if (a - b) % 4294967296 < 2147483648 then (a - b) % 4294967296 else (a - b) % 4294967296 - 4294967296
def sIn (x f n : Int) : Bool := decide ((x - f) % 4294967296 < n)
def sMax (a b : Int) : Int := bif sLess a b then b else a
def sWay (a b : Int) : Int := (b - a + 4294967296) % 4294967296
def sBase (near s : Int) : Int := near / 4294967296 * 4294967296 + s
/-- the place next to 'near' whose 32 bits are s; of two that are as near, the greater one -/
def sLift (near s : Int) : Int :=
  if near < sBase near s ∧ 4294967296 ≤ sBase near s ∧ 4294967296 < 2 * (sBase near s - near) then sBase near s - 4294967296
  else if sBase near s < near ∧ sBase near s + 4294967296 < 18446744073709551616 ∧ 4294967296 ≤ 2 * (near - sBase near s) then sBase near s + 4294967296
  else sBase near s

theorem sLess_true {a b : Int} : sLess a b = true ↔ a ≠ b ∧ (b - a) % 4294967296 < 2147483648 := by simp [sLess]
theorem sLess_false {a b : Int} : sLess a b = false ↔ a = b ∨ 2147483648 ≤ (b - a) % 4294967296 := by
  cases h : sLess a b
  · simp only [true_iff]
    have : ¬ sLess a b = true := by simp [h]
    rw [sLess_true] at this
    omega
  · simp only [Bool.true_eq_false, false_iff]
    rw [sLess_true] at h
    omega
theorem sLess_ext {a b c d : Int} (h : (a ≠ b ∧ (b - a) % 4294967296 < 2147483648) ↔ (c ≠ d ∧ (d - c) % 4294967296 < 2147483648)) : sLess a b = sLess c d := by
  rw [Bool.eq_iff_iff, sLess_true, sLess_true]; exact h

section
variable {a b by_ n : Int} (ha : 0 ≤ a) (ha' : a < 4294967296) (hb : 0 ≤ b) (hb' : b < 4294967296)
include ha ha' hb hb'

theorem sLess_way : sLess a b = (decide (0 < sWay a b) && decide (sWay a b < 2147483648)) := by
  rw [Bool.eq_iff_iff, sLess_true, Bool.and_eq_true, decide_eq_true_iff, decide_eq_true_iff]
  unfold sWay
  omega
theorem sSub_way : sSub a b = if sWay b a < 2147483648 then sWay b a else sWay b a - 4294967296 := by
  unfold sSub sWay
  have : (a - b + 4294967296) % 4294967296 = (a - b) % 4294967296 := by omega
  rw [this]
theorem sIn_way : sIn a b n = decide (sWay b a < n) := by
  unfold sIn sWay
  have : (a - b + 4294967296) % 4294967296 = (a - b) % 4294967296 := by omega
  rw [this]
theorem sLess_moves (hy : 0 ≤ by_) (hy' : by_ < 4294967296) : sLess ((a + by_) % 4294967296) ((b + by_) % 4294967296) = sLess a b := by
  apply sLess_ext
  omega
theorem sSub_moves (hy : 0 ≤ by_) (hy' : by_ < 4294967296) : sSub ((a + by_) % 4294967296) ((b + by_) % 4294967296) = sSub a b := by
  unfold sSub
  have : ((a + by_) % 4294967296 - (b + by_) % 4294967296) % 4294967296 = (a - b) % 4294967296 := by omega
  rw [this]
theorem sIn_moves (hy : 0 ≤ by_) (hy' : by_ < 4294967296) : sIn ((a + by_) % 4294967296) ((b + by_) % 4294967296) n = sIn a b n := by
  unfold sIn
  have : ((a + by_) % 4294967296 - (b + by_) % 4294967296) % 4294967296 = (a - b) % 4294967296 := by omega
  rw [this]
theorem sMax_moves (hy : 0 ≤ by_) (hy' : by_ < 4294967296) : sMax ((a + by_) % 4294967296) ((b + by_) % 4294967296) = (sMax a b + by_) % 4294967296 := by
  unfold sMax
  rw [sLess_moves ha ha' hb hb' hy hy']
  cases sLess a b <;> rfl
theorem sSub_bounds : -2147483648 ≤ sSub a b ∧ sSub a b < 2147483648 := by
  unfold sSub; split <;> omega
theorem sSub_back : (b + sSub a b % 4294967296) % 4294967296 = a := by
  unfold sSub; split <;> omega
theorem sMax_bounds : 0 ≤ sMax a b ∧ sMax a b < 4294967296 := by
  unfold sMax; cases sLess a b <;> simp <;> omega
end

section
variable {near s : Int} (hn : 0 ≤ near) (hn' : near < 18446744073709551616) (hs : 0 ≤ s) (hs' : s < 4294967296)
include hn hn' hs hs'
theorem sLift_bounds : 0 ≤ sLift near s ∧ sLift near s < 18446744073709551616 := by
  unfold sLift sBase
  split
  · omega
  · split <;> omega
theorem sLift_mod : sLift near s % 4294967296 = s := by
  unfold sLift sBase
  split
  · omega
  · split <;> omega
end
/-- a place is found again from its 32 bits, as long as one knows it but for less than 2^31 -/
theorem sLift_finds {near place : Int} (hn : 0 ≤ near) (hn' : near < 18446744073709551616) (hp : 0 ≤ place) (hp' : place < 18446744073709551616)
    (h : -2147483648 < near - place) (h' : near - place < 2147483648) : sLift near (place % 4294967296) = place := by
  unfold sLift sBase
  split
  · omega
  · split <;> omega
end Go.Proofs.Ythichhoiegkcjaa
