/- slices.Sort at uint64: it sorts. -/
import Derived.Test.YtlikngepcbmhdaaSqPdq
import Derived.Sort.AssemblyPlain
set_option linter.unusedVariables false
set_option linter.unusedSimpArgs false
namespace Go.Proofs.Ytlikngepcbmhdaa.S64
open Go.RowKit Go.BigFrame Go.Sort

/-- the numbers of a list, in order -/
def ordered (zs : List Int) : List Int := zs.mergeSort (fun x y => decide (x ≤ y))
theorem ordered_perm (zs : List Int) : (ordered zs).Perm zs := List.mergeSort_perm _ _
theorem ordered_len (zs : List Int) : (ordered zs).length = zs.length := (ordered_perm zs).length_eq
theorem ordered_sorted (zs : List Int) : (ordered zs).Pairwise (· ≤ ·) := by
  have h := List.pairwise_mergeSort (le := fun x y : Int => decide (x ≤ y)) (fun a b c h1 h2 => by simp only [decide_eq_true_eq] at *; omega) (fun a b => by simp only [Bool.or_eq_true, decide_eq_true_eq]; omega) zs
  exact h.imp fun h => by simpa using h
set_option maxHeartbeats 4000000 in
theorem sort_any (g off cap : Nat) (zs : List Int) (w : World) (hr : RowK w g off zs.toArray) (hsz : zs.length ≤ 1000000) :
    Calls Try.prog 36 #[.slice (some ⟨g, off, none⟩) zs.length cap] w fun e w' => e = .returned (.tuple #[]) ∧ RowK w' g off (ordered zs).toArray ∧ w.grownBy w' (some g) := by
  have hs : (ordered zs).toArray = sort ltInt zs.toArray := by
    apply Array.ext'
    exact (sortInt zs).symm
  rw [hs]
  obtain ⟨d, hd⟩ : ∃ d, d = zs.toArray := ⟨_, rfl⟩
  have hn : d.size = zs.length := by rw [hd]; simp
  rw [← hd] at hr ⊢
  generalize zs.length = n at *
  clear hd hs
  have hLen : ∀ w, Calls Try.prog 40 #[.int .u64 (n : Int)] w fun e w' => e = .returned (.int .i64 (bitsLen n : Nat)) ∧ w' = w := fun w => by
    have h := len_any (n : Int) w (by omega) (by omega)
    rwa [Int.toNat_natCast, bitLen_eq _ (by omega)] at h
  have hk : bitsLen n ≤ 62 := (bitsLen_le_iff n 62).2 (by omega)
  have hc := pdq_any (n + 1) g off n cap 0 n (bitsLen n) d w (by omega) hr hn (Nat.zero_le _) (Nat.le_refl _) hsz (by omega) (Or.inl rfl)
  have e : sort ltInt d = pdq ltInt d 0 n (bitsLen n) true true := by unfold sort; rw [hn]
  rw [e]
  clear e hr
  have Hn := Lib.hid hn
  clear hn
  go_enter Try.func36, Try.ntmps36
  go_wp2_with (first
    | (go_at_call 40; refine (hLen _).mono ?_; rintro e w' ⟨rfl, rfl⟩)
    | (go_at_call 39; refine hc.mono ?_; rintro e w' ⟨rfl, h1⟩))
  go_end0
  exact ⟨rfl, h1.2⟩
set_option maxHeartbeats 4000000 in
theorem sort_nil (p : Option Addr) (cap : Nat) (w : World) :
    Calls Try.prog 36 #[.slice p 0 cap] w fun e w' => e = .returned (.tuple #[]) ∧ w' = w := by
  have hLen : ∀ w, Calls Try.prog 40 #[.int .u64 0] w fun e w' => e = .returned (.int .i64 0) ∧ w' = w := fun w => by
    have h := len_any 0 w (by omega) (by omega)
    exact h
  have hp : Calls Try.prog 39 #[.slice p 0 cap, .int .i64 0, .int .i64 0, .int .i64 0] w fun e w' => e = .returned (.tuple #[]) ∧ w' = w := by
    have hi : Calls Try.prog 41 #[.slice p 0 cap, .int .i64 0, .int .i64 0] w fun e w' => e = .returned (.tuple #[]) ∧ w' = w := by
      go_enter Try.func41, Try.ntmps41
      go_wp2
      go_loopw [6] (fun v wr => v = .int .i64 1 ∧ wr = w) (fun _ _ => 0)
      case atStart => exact ⟨rfl, rfl⟩
      case round =>
        obtain ⟨rfl, rfl⟩ := hrel
        go_wp2
        go_end0
        exact ⟨rfl, rfl⟩
    go_enter Try.func39, Try.ntmps39
    go_wp2
    go_loopw [1, 2, 3, 8, 9] (fun a b c d e wr => a = .int .i64 0 ∧ b = .int .i64 0 ∧ c = .int .i64 0 ∧ d = .bool true ∧ e = .bool true ∧ wr = w) (fun _ _ _ _ _ _ => 0)
    case atStart => exact ⟨rfl, rfl, rfl, rfl, rfl, rfl⟩
    case round =>
      obtain ⟨rfl, rfl, rfl, rfl, rfl, rfl⟩ := hrel
      go_wp2_with (go_at_call 41; refine hi.mono ?_; rintro e w' ⟨rfl, rfl⟩)
      (try simp only [Exit.inBlock, Exit.then]); refine bodyPost_ret (results_none rfl _ _ _) rfl ?_
      exact ⟨rfl, rfl⟩
  go_enter Try.func36, Try.ntmps36
  go_wp2_with (first
    | (go_at_call 40; refine (hLen _).mono ?_; rintro e w' ⟨rfl, rfl⟩)
    | (go_at_call 39; refine hp.mono ?_; rintro e w' ⟨rfl, rfl⟩))
  go_end0
  exact ⟨rfl, rfl⟩
end Go.Proofs.Ytlikngepcbmhdaa.S64
