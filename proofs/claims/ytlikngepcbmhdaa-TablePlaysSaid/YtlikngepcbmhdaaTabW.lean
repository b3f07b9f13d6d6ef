/- Layer 12 (table): pairs, and the document's example. -/
import Derived.Test.YtlikngepcbmhdaaTabH
import Derived.Test.YtlikngepcbmhdaaTabHs
set_option linter.unusedVariables false
set_option linter.unusedSimpArgs false
namespace Go.Proofs.Ytlikngepcbmhdaa
open Go.ChangeShapes Go.WideShapes Go.ChangeAt Go.RowKit Go.Maps

theorem pair_any (a b : Int) (w : World) : Calls Try.prog 9 #[.int .u16 a, .int .u16 b] w fun e w' => e = .returned (.agg #[.int .u32 1, .int .u16 a, .int .u32 2, .int .u16 b]) ∧ Below w.heap.size w w' := by
  go_enter Try.func9, Try.ntmps9
  go_wp2
  exact bodyPost_ret (v := .agg #[.int .u32 1, .int .u16 a, .int .u32 2, .int .u16 b]) (by simp [results, Try.results9, go_sem]) rfl ⟨rfl, (Below.refl _ _).alloc (Nat.le_refl _) _⟩
theorem hpair {T : TT} {w0 W : World} {t : Nat} {s : Tab} (a b : Int) (h : Has T w0 W t s) : Calls Try.prog 9 #[.int .u16 a, .int .u16 b] W fun e W' => e = .returned (.agg #[.int .u32 1, .int .u16 a, .int .u32 2, .int .u16 b]) ∧ Has T w0 W' t s :=
  (pair_any a b W).mono fun _ _ ⟨he, hb⟩ => ⟨he, h.step hb⟩
def p11 : Pr := ⟨1, 1, 2, 1⟩
def p22 : Pr := ⟨1, 2, 2, 2⟩
theorem p11_wf : p11.wf := ⟨by decide, by decide, by decide, by decide⟩
theorem p22_wf : p22.wf := ⟨by decide, by decide, by decide, by decide⟩
set_option maxRecDepth 100000 in
set_option maxHeartbeats 4000000 in
theorem works12 (w : World) : Calls Try.prog 12 #[] w fun e w' => e = .returned (.bool true) ∧ Below w.heap.size w w' := by
  go_enter Try.func12, Try.ntmps12
  go_wp2_with fail
  with_reducible refine (hnew_s w 2 2 rfl (by omega)).mono ?_
  rintro e w1 ⟨t, ba, bb, rfl, h1⟩
  have H := Lib.hid h1
  clear h1
  go_wp2_with fail
  with_reducible refine (hpair 1 1 H.out).mono ?_
  rintro e w' ⟨rfl, h'⟩
  have H := Lib.hid h'
  clear h'
  go_wp2_with fail
  have c1 : Calls Try.prog 27 #[.pointer (some ⟨t, 0, none⟩), .agg #[.int .u32 1, .int .u16 1, .int .u32 2, .int .u16 1], .string ⟨#[120]⟩] _ _ := hput_s p11 ⟨#[120]⟩ 1 H.out p11_wf rfl (by simp [newT]) (by simp [newT]) rfl
  with_reducible refine c1.mono ?_
  clear c1
  rintro e w' ⟨g1, rfl, h'⟩
  have H := Lib.hid h'
  clear h'
  go_wp2_with fail
  with_reducible refine (hpair 2 2 H.out).mono ?_
  rintro e w' ⟨rfl, h'⟩
  have H := Lib.hid h'
  clear h'
  go_wp2_with fail
  have c1 : Calls Try.prog 28 #[.pointer (some ⟨t, 0, none⟩), .int .u64 1, .agg #[.int .u32 1, .int .u16 2, .int .u32 2, .int .u16 2]] _ _ := hbind_s 1 1 p22 ⟨g1, .string ⟨#[120]⟩, p11, pr0, false⟩ ⟨#[120]⟩ H.out p22_wf rfl rfl rfl rfl rfl (by simp [newT, putT])
  with_reducible refine c1.mono ?_
  clear c1
  rintro e w' ⟨rfl, h'⟩
  have H := Lib.hid h'
  clear h'
  go_wp2_with fail
  with_reducible refine (hpair 2 2 H.out).mono ?_
  rintro e w' ⟨rfl, h'⟩
  have H := Lib.hid h'
  clear h'
  go_wp2_with fail
  have c1 : Calls Try.prog 29 #[.pointer (some ⟨t, 0, none⟩), .agg #[.int .u32 1, .int .u16 2, .int .u32 2, .int .u16 2]] _ _ := hfind_s p22 (bEnt ⟨g1, .string ⟨#[120]⟩, p11, pr0, false⟩ p22) 1 1 2 H.out p22_wf rfl rfl (by decide) rfl rfl
  with_reducible refine c1.mono ?_
  clear c1
  rintro e w' ⟨rfl, h'⟩
  have H := Lib.hid h'
  clear h'
  go_wp2_with fail
  with_reducible refine (hpair 2 2 H.out).mono ?_
  rintro e w' ⟨rfl, h'⟩
  have H := Lib.hid h'
  clear h'
  go_wp2_with fail
  have c1 : Calls Try.prog 27 #[.pointer (some ⟨t, 0, none⟩), .agg #[.int .u32 1, .int .u16 2, .int .u32 2, .int .u16 2], .string ⟨#[121]⟩] _ _ := hthere_s p22 ⟨#[121]⟩ H.out p22_wf (by intro e; cases e)
  with_reducible refine c1.mono ?_
  clear c1
  rintro e w' ⟨rfl, h'⟩
  have H := Lib.hid h'
  clear h'
  go_wp2_with fail
  have c1 : Calls Try.prog 30 #[.pointer (some ⟨t, 0, none⟩), .slice (some ⟨w'.heap.size, 0, none⟩) 1 1] (w'.alloc (.cells #[.int .u64 1] 26)) _ := hdrop_s w'.heap.size [1] 1 1 #[.int .u64 1] (H.out.alloc _) (by simp) rfl (Blk.new _ _ _) (by simp) 1 rfl rfl
  with_reducible refine c1.mono ?_
  clear c1
  rintro e w' ⟨rfl, h'⟩
  have H := Lib.hid h'
  clear h'
  go_wp2_with fail
  with_reducible refine (hpair 1 1 H.out).mono ?_
  rintro e w' ⟨rfl, h'⟩
  have H := Lib.hid h'
  clear h'
  go_wp2_with fail
  have c1 : Calls Try.prog 29 #[.pointer (some ⟨t, 0, none⟩), .agg #[.int .u32 1, .int .u16 1, .int .u32 2, .int .u16 1]] _ _ := hfind_no_s p11 H.out p11_wf rfl
  with_reducible refine c1.mono ?_
  clear c1
  rintro e w' ⟨rfl, h'⟩
  have H := Lib.hid h'
  clear h'
  go_wp2_with fail
  with_reducible refine (hpair 1 1 H.out).mono ?_
  rintro e w' ⟨rfl, h'⟩
  have H := Lib.hid h'
  clear h'
  go_wp2_with fail
  have c1 : Calls Try.prog 27 #[.pointer (some ⟨t, 0, none⟩), .agg #[.int .u32 1, .int .u16 1, .int .u32 2, .int .u16 1], .string ⟨#[122]⟩] _ _ := hput_s p11 ⟨#[122]⟩ 2 H.out p11_wf rfl (by show (0 : Nat) < 2; omega) (by show (1 : Nat) < 1000000; omega) rfl
  with_reducible refine c1.mono ?_
  clear c1
  rintro e w' ⟨g2, rfl, h'⟩
  have H := Lib.hid h'
  clear h'
  go_wp2_with fail
  have c1 : Calls Try.prog 31 #[.pointer (some ⟨t, 0, none⟩), .int .u64 2] _ _ := hget_s 2 2 ⟨g2, .string ⟨#[122]⟩, p11, pr0, false⟩ ⟨#[122]⟩ H.out rfl rfl rfl
  with_reducible refine c1.mono ?_
  clear c1
  rintro e w' ⟨rfl, rfl⟩
  have hb := H.out.below
  have HB := Lib.hid hb
  clear hb
  go_wp2
  go_ret
  exact ⟨rfl, HB.out⟩
end Go.Proofs.Ytlikngepcbmhdaa
