/- The statement OptTurns: what bytes become in which options are turned is what the document's answer says, for any bytes and any three numbers; and a known run goes as it must. -/
import Derived.Test.YtimepplfaaddeaaOptAlive
import Derived.Test.YtimepplfaaddeaaOptOpen
set_option linter.unusedVariables false
set_option linter.unusedSimpArgs false
namespace Go.Proofs.Ytimepplfaaddeaa.optTurns
open Go.ChangeShapes Go.WideShapes Go.ChangeAt Go.RowKit Go.BigFrame
open Go.ChangeMaps (open_string shut_string)

set_option maxHeartbeats 4000000 in
theorem walk (x : ByteArray) (a1 a2 a3 : Int) (w : World) (w0 : x.size ≤ maxLen) (w1 : (Lit.int .u32 a1).wf = true) (w2 : (Lit.int .u32 a2).wf = true) (w3 : (Lit.int .u32 a3).wf = true) :
    Calls Try.prog 4 #[.string x, .int .u32 a1, .int .u32 a2, .int .u32 a3] w fun e w' => e = .returned (.bool true) ∧ Below w.heap.size w w' := by
  obtain ⟨bl, rfl, hbl⟩ := wf_u32 w1
  obtain ⟨va, rfl, hva⟩ := wf_u32 w2
  obtain ⟨ec, rfl, hec⟩ := wf_u32 w3
  clear w1 w2 w3
  have hal := alive07
  have hb0 : Below w.heap.size w w := Below.refl _ _
  have HB := Lib.hid hb0
  clear hb0
  by_cases hx : 1024 < x.size
  · have j1 : (1024 : Int) < (x.size : Int) := by omega
    have Hal := Lib.hid hal
    clear hal
    clear hbl hva hec
    go_enter Try.func4, Try.ntmps4
    go_wp2_with fail
    (with_reducible refine (Hal.out _).mono ?_)
    rintro e w2 ⟨rfl, hbq⟩
    have hB := HB.out.trans (hbq.mono HB.out.size)
    clear HB
    have HB := Lib.hid hB
    clear hB
    clear hbq
    go_wp2
    go_ret
    exact ⟨rfl, HB.out⟩
  · have j1 : ¬ (1024 : Int) < (x.size : Int) := by omega
    have hl : x.data.toList.length ≤ 1024 := by simp; omega
    obtain ⟨T, hT⟩ : ∃ T : ByteArray, T = ⟨(turnR bl va ec x.data.toList).1.toArray⟩ := ⟨_, rfl⟩
    obtain ⟨cd, hcd⟩ : ∃ cd, cd = (turnR bl va ec x.data.toList).2 := ⟨_, rfl⟩
    have h1 : ∀ W, Calls Try.prog 19 #[.string x, .int .u32 (bl : Int), .int .u32 (va : Int), .int .u32 (ec : Int)] W fun e w' => e = .returned (.tuple #[.string T, .int .i64 cd]) ∧ Below W.heap.size W w' := fun W => by
      have := turn_any x _ rfl bl va ec hbl hva hec W
      unfold TurnPost at this
      rw [← hT, ← hcd] at this
      exact this
    have h2 : ∀ W, Calls Try.prog 20 #[.string x, .int .u32 (bl : Int), .int .u32 (va : Int), .int .u32 (ec : Int)] W fun e w' => e = .returned (.tuple #[.string T, .int .i64 cd]) ∧ Below W.heap.size W w' := fun W => by
      have := rturn_any x _ rfl hl bl va ec hbl hva hec W
      unfold TurnPost at this
      rw [← hT, ← hcd] at this
      exact this
    clear hT hcd hl
    have Hal := Lib.hid hal
    clear hal
    have H1 := Lib.hid h1
    clear h1
    have H2 := Lib.hid h2
    clear h2
    have Hbl := Lib.hid hbl
    clear hbl
    have Hva := Lib.hid hva
    clear hva
    have Hec := Lib.hid hec
    clear hec
    go_enter Try.func4, Try.ntmps4
    go_wp2_with fail
    (with_reducible refine (H1.out _).mono ?_)
    rintro e w2 ⟨rfl, hbq⟩
    have hB := HB.out.trans (hbq.mono HB.out.size)
    clear HB
    have HB := Lib.hid hB
    clear hB
    clear hbq
    go_wp2_with fail
    (with_reducible refine (H2.out _).mono ?_)
    rintro e w3 ⟨rfl, hbq⟩
    have hB := HB.out.trans (hbq.mono HB.out.size)
    clear HB
    have HB := Lib.hid hB
    clear hB
    clear hbq
    go_wp2_with fail
    (with_reducible refine (Hal.out _).mono ?_)
    rintro e w4 ⟨rfl, hbq⟩
    have hB := HB.out.trans (hbq.mono HB.out.size)
    clear HB
    have HB := Lib.hid hB
    clear hB
    clear hbq
    go_wp2
    go_ret
    exact ⟨rfl, HB.out⟩
theorem own : ownKnob Try.prog.godebug = none := by kernel_rfl
theorem laidOut : laidOutB Try.prog = true := by kernel_rfl
set_option maxRecDepth 100000 in
theorem lifted (os : Os) (started : os.Started) (H : Type) (enc : TypeId × Value → H) :
    ReturnsInHanded {} Try.checked os 4 .any (Rows.optTurnsSpec.pre6 enc Try.prog Try.f4 Rows.optTurnsRow.domain false) (Rows.optTurnsSpec.post enc Try.prog Try.f4 false true false false) := by
  refine returnsInHanded_of_change (C := Try.checked) own started (by kernel_rfl) Try.func4
    (ChangeSpec.witness6 (enc := enc) (C := Try.checked) false ⟨#[], #[.string ByteArray.empty, .int .u32 0, .int .u32 0, .int .u32 0], []⟩ 8 (by kernel_rfl) (by kernel_rfl) (by kernel_rfl) (by kernel_rfl)) ?_
  intro W base args ds gs before hval0 hW hcnd _
  have hval : ∀ (j : Nat) t v, Try.f4.params[j]? = some t → args[j]? = some v → Value.okWide Try.prog W .any base t v := hval0
  have hW' := hW
  obtain ⟨p, q, hA0, hV, rfl, hfz, hnd⟩ := hW
  have hA : DataW.TrodAll enc Try.prog W 0 (fun _ => true) true Try.f4.params.toList args.toList ds p := hA0
  rw [Try.params4] at hA hval
  obtain ⟨v0, vs0, d0, ds0, p0, q0, hargs, rfl, rfl, h0, r0⟩ := trodAll_cons hA
  obtain ⟨v1, vs1, d1, ds1, p1, q1, rfl, rfl, rfl, h1, r1⟩ := trodAll_cons r0
  obtain ⟨v2, vs2, d2, ds2, p2, q2, rfl, rfl, rfl, h2, r2⟩ := trodAll_cons r1
  obtain ⟨v3, vs3, d3, ds3, p3, q3, rfl, rfl, rfl, h3, r3⟩ := trodAll_cons r2
  obtain ⟨rfl, rfl, rfl⟩ := trodAll_nil r3
  obtain rfl : args = #[v0, v1, v2, v3] := by cases args; simp_all
  obtain ⟨rfl, rfl⟩ := trodVars_none hV
  obtain ⟨a0, rfl, rfl, rfl, w0⟩ := open_string Try.underlying9 (hval 0 9 v0 rfl rfl) h0
  obtain ⟨a1, rfl, rfl, rfl, w1⟩ := open_int Try.underlying24 (hval 1 24 v1 rfl rfl) h1
  obtain ⟨a2, rfl, rfl, rfl, w2⟩ := open_int Try.underlying24 (hval 2 24 v2 rfl rfl) h2
  obtain ⟨a3, rfl, rfl, rfl, w3⟩ := open_int Try.underlying24 (hval 3 24 v3 rfl rfl) h3
  clear hA0 hval0
  refine (walk a0 a1 a2 a3 W w0 w1 w2 w3).mono fun e W' ⟨he, bel⟩ => ?_
  subst he
  exact ⟨_, rfl, _, _, _, [], _, [], hW', trodAll_mk1 (shut_bool Try.underlying4 _), (trodAll_cons_mk (shut_string Try.underlying9 w0) (trodAll_cons_mk (shut_int Try.underlying24 w1) (trodAll_cons_mk (shut_int Try.underlying24 w2) (trodAll_cons_mk (shut_int Try.underlying24 w3) trodAll_mk0)))), rfl, bel.frame _, fun h => by cases h⟩

theorem over : Rows.optTurnsRow.holds Try.pinned (OpenSpec.ofChange Rows.optTurnsSpec) :=
  OpenClaim.holds_of_wide 4 Try.f4 rfl rfl rfl rfl rfl rfl rfl ⟨rfl, rfl, rfl, rfl, rfl⟩ rfl rfl rfl rfl rfl (by kernel_rfl) Try.func4 (by kernel_rfl)
    (of_decide_eq_true (by kernel_rfl)) (by unfold Func.isWrapper; first | (rw [if_pos (by decide +kernel)]; kernel_rfl) | (rw [if_neg (by decide +kernel)]; exact ⟨rfl, rfl⟩))
    (fun os started H enc _ => lifted os started H enc)

/-- THE STATEMENT -/
theorem proved : Rows.OptTurnsSaid := over
#print axioms proved
end Go.Proofs.Ytimepplfaaddeaa.optTurns
