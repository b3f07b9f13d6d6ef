/- Contracts of layer 15 (buf): the guard of scripts. -/
import Derived.Test.YtbfmgdcnpefciaaStructs
import Derived.LoopTactic
set_option linter.unusedVariables false
set_option linter.unusedSimpArgs false
namespace Go.Proofs.Ytbfmgdcnpefciaa
open Go.RowKit

/-- the guard answers something; where it lets a script through, that has at most 300 steps -/
def HeavyAns (len : Nat) (w : World) (e : Ending) (w' : World) : Prop := ∃ b : Bool, (b = false → len ≤ 300) ∧ e = .returned (.bool b) ∧ w = w'

set_option maxRecDepth 100000 in
set_option maxHeartbeats 1000000 in
theorem heavy_buf (a : Option Addr) (len cap : Nat) (w : World) (h : StrRows w [.inl .i64, .inr false, .inl .u64, .inl .i64] a len) :
    Calls Try.prog 11 #[.slice a len cap] w (HeavyAns len w) := by
  have hlm := h.1
  unfold maxLen at hlm
  have H := Lib.hid h
  clear h
  go_enter Try.func11, Try.ntmps11
  go_wp2
  go_loop [3, 4] (fun n i => ∃ (k : Nat) (t : Int), k ≤ len ∧ i = .int .i64 k ∧ n = .int .i64 t) (fun _ i => len - (intOf i).toNat)
  case atStart => exact ⟨0, 0, Nat.zero_le _, rfl, rfl⟩
  case round =>
    obtain ⟨k, t, hk, rfl, rfl⟩ := hrel
    by_cases hlt : k < len
    · by_cases h5 : k < 500
      · obtain ⟨xb, xo, rfl, hxl, hcell⟩ := H.out.2 k hlt
        obtain ⟨v1, q1, s, rfl, hs⟩ := hcell 1 _ rfl
        clear hcell hxl
        unfold maxLen at hs
        simp only [List.length_cons, List.length_nil, Nat.zero_add, Nat.reduceAdd] at q1
        have e1 : decide (k < len) = true := decide_eq_true hlt
        have e2 : decide ((k : Int) < 500) = true := decide_eq_true (by omega)
        go_wp2
        go_round
        case rel => exact ⟨k + 1, _, by omega, by go_num, rfl⟩
        case measure => simp [intOf]; omega
      · have e1 : decide (k < len) = true := decide_eq_true hlt
        have e2 : decide ((k : Int) < 500) = false := decide_eq_false (by omega)
        go_wp2
        all_goals go_ret
        all_goals exact ⟨_, fun hb => by first | omega | (simp at hb; done) | (simp at hb; omega), rfl, rfl⟩
    · have e1 : decide (k < len) = false := decide_eq_false hlt
      go_wp2
      all_goals go_ret
      all_goals exact ⟨_, fun hb => by first | omega | (simp at hb; done) | (simp at hb; omega), rfl, rfl⟩
end Go.Proofs.Ytbfmgdcnpefciaa
