/- The statement PortsRound: ports are taken one behind the other, and anew from the first one; what none answer; for any first one, however many. -/
import Derived.Test.YtjeckahbkepnpaaPortsF
set_option linter.unusedVariables false
set_option linter.unusedSimpArgs false
namespace Go.Proofs.Ytjeckahbkepnpaa.portsRound
open Go.ChangeShapes Go.WideShapes Go.ChangeAt Go.RowKit
open Go.ChangeMaps (open_string shut_string)

/-- none is lent; the next one is the i-th -/
def Rd (s : Po) (F n i : Nat) : Prop := s.low = F ∧ s.high + 1 = F + n ∧ (∀ p, s.L p = false) ∧ (∀ p, s.U p ≤ 7) ∧ s.cur = if i = n then F else F + i
def In (w wr : World) (b m1 m2 F n i k : Nat) : Prop := ∃ s k', PoAt wr b m1 m2 s k' ∧ Rd s F n i ∧ k' ≤ k ∧ Below w.heap.size w wr
theorem In.next {w wr : World} {b m1 m2 F n i k : Nat} (h : In w wr b m1 m2 F n i k) (hi : i < n) (hk : k ≤ 100000) (hb : w.heap.size ≤ b ∧ w.heap.size ≤ m1 ∧ w.heap.size ≤ m2) (q : Int) (hq : (F : Int) + (i : Int) = q) :
    Calls Try.prog 8 #[.pointer (some ⟨b, 0, none⟩), .int .i64 7] wr fun e w1 => e = .returned (.tuple #[.int .u16 q, .int .i64 0]) ∧
      Hid (Calls Try.prog 9 #[.pointer (some ⟨b, 0, none⟩), .int .u16 q, .int .i64 7] w1 fun e w2 => e = .returned (.int .i64 0) ∧ Hid (In w w2 b m1 m2 F n (i + 1) (k + 2))) := by
  subst hq
  obtain ⟨s, k', h1, ⟨r1, r2, r3, r4, r5⟩, h2, h3⟩ := h
  have m7 : may 7 := ⟨by decide, by decide⟩
  rw [if_neg (by omega)] at r5
  have hlo := h1.lo
  have hok : s.ok 7 (F + i) = true := by
    unfold Po.ok
    rw [r3]; simp [r4 (F + i)]
  have hse : s.seek 7 (s.high + 1 - s.low) s.cur = some (F + i) := by
    rw [show s.high + 1 - s.low = (n - 1) + 1 by omega, seek_step, r5, if_pos hok]
  refine (takeC h1 7 m7 (F + i) (by omega) hse ((F : Int) + (i : Int)) (by push_cast; rfl)).mono ?_
  rintro e w1 ⟨rfl, g1, o1⟩
  refine ⟨rfl, Lib.hid ?_⟩
  have g2 := give_ok g1 (by omega) (F + i) (by omega) 7 m7 (by rw [took_L, if_pos rfl])
  rw [show ((F + i : Nat) : Int) = (F : Int) + (i : Int) by push_cast; rfl] at g2
  refine g2.mono ?_
  rintro e w2 ⟨rfl, g3, o2⟩
  refine ⟨rfl, Lib.hid ⟨_, _, g3, ⟨r1, r2, fun p => ?_, fun p => ?_, ?_⟩, by omega, ?_⟩⟩
  · rw [gave_L]
    split
    · rfl
    · rename_i hne
      rw [took_L, if_neg hne]; exact r3 p
  · rw [gave_U]
    split
    · omega
    · exact r4 p
  · show s.nxt (F + i) = _
    unfold Po.nxt
    by_cases e : i + 1 = n
    · rw [if_pos (by omega), if_pos e, r1]
    · rw [if_neg (by omega), if_neg e]; omega
  · have hs := h3.size
    exact h3.trans ((Out.trans o1 o2 (fun _ _ e => e)).below hs (by rintro j hj (rfl | rfl | rfl) <;> omega))
theorem In.again {w wr : World} {b m1 m2 F n k : Nat} (h : In w wr b m1 m2 F n n k) (hn : 0 < n) : In w wr b m1 m2 F n 0 k := by
  obtain ⟨s, k', h1, ⟨r1, r2, r3, r4, r5⟩, h2⟩ := h
  refine ⟨s, k', h1, ⟨r1, r2, r3, r4, ?_⟩, h2⟩
  rw [if_pos rfl] at r5
  rw [if_neg (by omega)]; exact r5
set_option maxRecDepth 100000 in
set_option maxHeartbeats 2000000 in
theorem walk (a0 a1 : Int) (w : World) (w0 : (Lit.int .u16 a0).wf = true) (w1 : (Lit.int .u8 a1).wf = true) :
    Calls Try.prog 4 #[.int .u16 a0, .int .u8 a1] w fun e w' => e = .returned (.bool true) ∧ Below w.heap.size w w' := by
  obtain ⟨l0, g0⟩ := bounds_u16 w0
  obtain ⟨l1, g1⟩ := bounds_u8 w1
  clear w0 w1
  obtain ⟨F, eF⟩ : ∃ F : Nat, a0 % 60000 + 1 = (F : Int) := ⟨(a0 % 60000 + 1).toNat, by omega⟩
  obtain ⟨n, eN⟩ : ∃ n : Nat, a1 % 100 + 1 = (n : Int) := ⟨(a1 % 100 + 1).toNat, by omega⟩
  obtain ⟨hi, eH⟩ : ∃ hi : Nat, (F : Int) + (n : Int) - 1 = (hi : Int) := ⟨F + n - 1, by omega⟩
  have f1 : 1 ≤ F := by omega
  have f2 : F ≤ 60000 := by omega
  have n1 : 1 ≤ n := by omega
  have n2 : n ≤ 100 := by omega
  have c0 := new_any F hi f1 (by omega) (by omega) w
  go_enter Try.func4, Try.ntmps4
  go_wp2_with (go_at_call 6; with_reducible refine c0.mono ?_; rintro e v0 ⟨b, m1, m2, rfl, h0, q1, q2, q3, hb0⟩)
  have h00 : In w v0 b m1 m2 F n 0 0 := ⟨_, _, h0, ⟨rfl, by simp only [po0]; omega, fun _ => rfl, fun _ => by simp only [po0]; omega, by rw [if_neg (by omega)]; rfl⟩, Nat.le_refl _, hb0⟩
  have HB := Lib.hid (And.intro q1 (And.intro q2 q3))
  have H00 := Lib.hid h00
  clear c0 h0 h00 q1 q2 q3 hb0
  go_loopw [9] (fun v9 wr => ∃ r : Nat, v9 = .int .i64 r ∧ r ≤ 2 ∧ Hid (In w wr b m1 m2 F n 0 (r * 1000))) (fun v9 _ => 2 - (intOf v9).toNat)
  case atStart => exact ⟨0, rfl, by omega, by simpa using H00⟩
  case round =>
    clear H00
    obtain ⟨r, rfl, hr, HI⟩ := hrel
    by_cases hr2 : r < 2
    · have hr2z : (r : Int) < 2 := by omega
      go_wp2
      go_loopw [10] (fun v10 w2 => ∃ i : Nat, v10 = .int .u16 i ∧ i ≤ n ∧ Hid (In w w2 b m1 m2 F n i (r * 1000 + 2 * i))) (fun v10 _ => n - (intOf v10).toNat)
      case atStart => exact ⟨0, rfl, by omega, HI⟩
      case round =>
        clear HI
        obtain ⟨i, rfl, hi', HI⟩ := hrel
        by_cases hin : i < n
        · have hinz : (i : Int) < (n : Int) := by omega
          obtain ⟨q, hq⟩ : ∃ q : Int, (F : Int) + (i : Int) = q := ⟨_, rfl⟩
          have q0 : 0 ≤ q := by omega
          have q9 : q < 65536 := by omega
          have ct := HI.out.next hin (by omega) HB.out q hq
          go_wp2_with (first
            | (go_at_call 8; with_reducible refine ct.mono ?_; rintro e w3 ⟨rfl, cg⟩)
            | (go_at_call 9; with_reducible refine cg.out.mono ?_; rintro e w4 ⟨rfl, hI2⟩))
          go_roundw
          case rel => exact ⟨i + 1, by go_num, by omega, hI2⟩
          case measure => simp [intOf]; omega
        · have hinz : ¬ (i : Int) < (n : Int) := by omega
          obtain rfl : i = n := by omega
          go_wp2
          go_roundw
          case rel => exact ⟨r + 1, by go_num, by omega, Lib.hid (by
            obtain ⟨s, k', g1, g2, g3, g4⟩ := HI.out.again (by omega)
            exact ⟨s, k', g1, g2, by omega, g4⟩)⟩
          case measure => simp [intOf]; omega
    · have hr2z : ¬ (r : Int) < 2 := by omega
      have hbw : Below w.heap.size w wr := by obtain ⟨s, k', g1, g2, g3, g4⟩ := HI.out; exact g4
      have ca := alive11 wr
      have cT : Calls Try.prog 8 #[.pointer none, .int .i64 1] wr _ := take_nil 1 wr
      have cG : Calls Try.prog 9 #[.pointer none, .int .u16 1, .int .i64 1] wr _ := give_nil 1 1 wr
      have cL := lent_nil wr
      have cF : Calls Try.prog 7 #[.pointer none, .int .i64 1] wr _ := free_nil 1 wr
      have Hbw := Lib.hid hbw
      clear hbw
      clear HI
      go_wp2_with (first
        | (go_at_call 8; with_reducible refine cT.mono ?_; rintro e w3 ⟨rfl, hw⟩; rw [hw]; clear hw)
        | (go_at_call 9; with_reducible refine cG.mono ?_; rintro e w3 ⟨rfl, hw⟩; rw [hw]; clear hw)
        | (go_at_call 10; with_reducible refine cL.mono ?_; rintro e w3 ⟨rfl, hw⟩; rw [hw]; clear hw)
        | (go_at_call 7; with_reducible refine cF.mono ?_; rintro e w3 ⟨rfl, hw⟩; rw [hw]; clear hw)
        | (go_at_call 5; with_reducible refine ca.mono ?_; rintro e w3 ⟨rfl, hb⟩))
      go_ret
      exact ⟨rfl, Hbw.out.trans (hb.mono Hbw.out.size)⟩
theorem own : ownKnob Try.prog.godebug = none := by kernel_rfl
theorem laidOut : laidOutB Try.prog = true := by kernel_rfl
set_option maxRecDepth 100000 in
theorem lifted (os : Os) (started : os.Started) (H : Type) (enc : TypeId × Value → H) :
    ReturnsInHanded {} Try.checked os 4 .any (Rows.portsRoundSpec.pre6 enc Try.prog Try.f4 Rows.portsRoundRow.domain false) (Rows.portsRoundSpec.post enc Try.prog Try.f4 false true false false) := by
  refine returnsInHanded_of_change (C := Try.checked) own started (by kernel_rfl) Try.func4
    (ChangeSpec.witness6 (enc := enc) (C := Try.checked) false ⟨#[], #[.int .u16 0, .int .u8 0], []⟩ 8 (by kernel_rfl) (by kernel_rfl) (by kernel_rfl) (by kernel_rfl)) ?_
  intro W base args ds gs before hval0 hW hcnd _
  have hval : ∀ (j : Nat) t v, Try.f4.params[j]? = some t → args[j]? = some v → Value.okWide Try.prog W .any base t v := hval0
  have hW' := hW
  obtain ⟨p, q, hA0, hV, rfl, hfz, hnd⟩ := hW
  have hA : DataW.TrodAll enc Try.prog W 0 (fun _ => true) true Try.f4.params.toList args.toList ds p := hA0
  rw [Try.params4] at hA hval
  obtain ⟨v0, vs0, d0, ds0, p0, q0, hargs, rfl, rfl, h0, r0⟩ := trodAll_cons hA
  obtain ⟨v1, vs1, d1, ds1, p1, q1, rfl, rfl, rfl, h1, r1⟩ := trodAll_cons r0
  obtain ⟨rfl, rfl, rfl⟩ := trodAll_nil r1
  obtain rfl : args = #[v0, v1] := by cases args; simp_all
  obtain ⟨rfl, rfl⟩ := trodVars_none hV
  obtain ⟨a0, rfl, rfl, rfl, w0⟩ := open_int Try.underlying22 (hval 0 22 v0 rfl rfl) h0
  obtain ⟨a1, rfl, rfl, rfl, w1⟩ := open_int Try.underlying5 (hval 1 5 v1 rfl rfl) h1
  clear hA0 hval0
  refine (walk a0 a1 W w0 w1).mono fun e W' ⟨he, bel⟩ => ?_
  subst he
  exact ⟨_, rfl, _, _, _, [], _, [], hW', trodAll_mk1 (shut_bool Try.underlying4 _), (trodAll_cons_mk (shut_int Try.underlying22 w0) (trodAll_cons_mk (shut_int Try.underlying5 w1) trodAll_mk0)), rfl, bel.frame _, fun h => by cases h⟩

theorem over : Rows.portsRoundRow.holds Try.pinned (OpenSpec.ofChange Rows.portsRoundSpec) :=
  OpenClaim.holds_of_wide 4 Try.f4 rfl rfl rfl rfl rfl rfl rfl ⟨rfl, rfl, rfl, rfl, rfl⟩ rfl rfl rfl rfl rfl (by kernel_rfl) Try.func4 (by kernel_rfl)
    (of_decide_eq_true (by kernel_rfl)) (by unfold Func.isWrapper; first | (rw [if_pos (by decide +kernel)]; kernel_rfl) | (rw [if_neg (by decide +kernel)]; exact ⟨rfl, rfl⟩))
    (fun os started H enc _ => lifted os started H enc)

/-- THE STATEMENT -/
theorem proved : Rows.PortsRoundSaid := over
#print axioms proved
end Go.Proofs.Ytjeckahbkepnpaa.portsRound
