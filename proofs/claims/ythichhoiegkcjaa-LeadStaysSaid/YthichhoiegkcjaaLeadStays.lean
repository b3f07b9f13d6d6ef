/- The statement LeadStays: what is known of whether a stream begins with a text stays, whatever comes behind; and it is known just when no more bytes would make it another answer; for any three strings. -/
import Derived.Test.YthichhoiegkcjaaLead
import Derived.Test.YthichhoiegkcjaaBytes
set_option linter.unusedVariables false
set_option linter.unusedSimpArgs false
namespace Go.Proofs.Ythichhoiegkcjaa.leadStays
open Go.ChangeShapes Go.WideShapes Go.ChangeAt Go.RowKit
open Go.ChangeMaps (open_string shut_string)

set_option maxHeartbeats 400000 in
theorem walk (a0 : ByteArray) (a1 : ByteArray) (a2 : ByteArray) (w : World) (w0 : a0.size ≤ maxLen) (w1 : a1.size ≤ maxLen) (w2 : a2.size ≤ maxLen) :
    Calls Try.prog 4 #[.string a0, .string a1, .string a2] w fun e w' => e = .returned (.bool true) ∧ Below w.heap.size w w' := by
  unfold maxLen at w0 w1 w2
  by_cases h : 2048 < a0.size ∨ 2048 < a1.size ∨ 2048 < a2.size
  · by_cases h0 : 2048 < a0.size
    · go_enter Try.func4, Try.ntmps4
      go_wp2_with fail
      refine (alive_lead _).mono ?_
      rintro e w' ⟨rfl, n, rfl⟩
      go_wp2
      go_ret
      exact ⟨rfl, below_n _ _⟩
    · by_cases h1 : 2048 < a1.size
      · go_enter Try.func4, Try.ntmps4
        go_wp2_with fail
        refine (alive_lead _).mono ?_
        rintro e w' ⟨rfl, n, rfl⟩
        go_wp2
        go_ret
        exact ⟨rfl, below_n _ _⟩
      · have h2 : 2048 < a2.size := by omega
        go_enter Try.func4, Try.ntmps4
        go_wp2_with fail
        refine (alive_lead _).mono ?_
        rintro e w' ⟨rfl, n, rfl⟩
        go_wp2
        go_ret
        exact ⟨rfl, below_n _ _⟩
  · have h0 : a0.size ≤ 2048 := by omega
    have h1 : a1.size ≤ 2048 := by omega
    have h2 : a2.size ≤ 2048 := by omega
    clear h
    by_cases hz : leadOf a0.data.toList a1.data.toList false = 0
    · obtain ⟨hl, r, hr, ht, hd⟩ := leadOf_zero hz
      have hlen : a0.data.toList.length = a0.size := rfl
      have hlen1 : a1.data.toList.length = a1.size := rfl
      rw [hlen, hlen1] at hl
      rw [hlen] at hd
      have hover := leadOf_over hz
      have H1 := Lib.hid (fun w => of_any a0 a1 false w (by unfold maxLen; omega) (by unfold maxLen; omega) 0 hz)
      obtain ⟨v2, hv2⟩ : ∃ v, leadOf (a0 ++ a2).data.toList a1.data.toList false = v := ⟨_, rfl⟩
      have H2 := Lib.hid (fun w => of_any (a0 ++ a2) a1 false w (by unfold maxLen; simp; omega) (by unfold maxLen; omega) v2 hv2)
      have H3 := Lib.hid (fun w => of_any a0 a1 true w (by unfold maxLen; omega) (by unfold maxLen; omega) 1 hover)
      obtain ⟨c, r, rfl⟩ : ∃ c r', r = c :: r' := by
        cases r with
        | nil => exact absurd rfl hr
        | cons c r' => exact ⟨c, r', rfl⟩
      have hR : (a1.extract a0.size a1.size).data.toList = c :: r := by
        rw [Lib.extract_data, hd, List.take_of_length_le]
        rw [← hd, List.length_drop, hlen1]
        exact Nat.le_refl _
      have hrl : r.length + 1 = a1.size - a0.size := by
        have := congrArg List.length hd
        rw [List.length_drop, hlen1] at this
        simpa using this.symm
      have H4 := Lib.hid (fun w => of_any (a0 ++ a1.extract a0.size a1.size) a1 false w (by unfold maxLen; simp; omega) (by unfold maxLen; omega) 2 (by
        rw [ByteArray.data_append, Array.toList_append, hR, ← ht]
        exact leadOf_refl _ _))
      have hX : (a0 ++ ⟨((c ^^^ 1) :: (r ++ [120])).toArray⟩ : ByteArray).data.toList = a0.data.toList ++ (c ^^^ 1) :: (r ++ [120]) := by
        rw [ByteArray.data_append, Array.toList_append]
      have hXs : (a0 ++ ⟨((c ^^^ 1) :: (r ++ [120])).toArray⟩ : ByteArray).size ≤ 5000 := by
        have := congrArg List.length hX
        rw [List.length_append] at this
        simp only [List.length_cons, List.length_append, List.length_nil] at this
        rw [Lib.size_eq, this]
        omega
      have H5 := Lib.hid (fun w => of_any (a0 ++ ⟨((c ^^^ 1) :: (r ++ [120])).toArray⟩) a1 false w (by unfold maxLen; omega) (by unfold maxLen; omega) 1 (by
        rw [hX, ht]
        exact leadOf_other _ _ _ _ _ (u8_xor_ne c)))
      have hS : (a1.extract a0.size a1.size ++ ⟨#[120]⟩ : ByteArray).data.toList = c :: (r ++ [120]) := by
        rw [ByteArray.data_append, Array.toList_append, hR]; rfl
      have HS := Lib.hid hS
      have hrl' : r.length + 1 ≤ a1.size - a0.size ∧ a1.size - a0.size ≤ r.length + 1 := by omega
      have hxor := u8_xor_one c
      clear hv2 hover hR hrl hd ht hr hlen hlen1 hz hX hXs hS
      go_enter Try.func4, Try.ntmps4
      go_wp2_with fail
      refine (H1.out _).mono ?_
      rintro e w' ⟨rfl, n1, rfl⟩
      go_wp2_with fail
      refine (H2.out _).mono ?_
      rintro e w' ⟨rfl, n2, rfl⟩
      go_wp2_with fail
      obtain ⟨W1, cap, hr, hB, hsz, hc, hf⟩ := run_bytes_list (w.drewN (n1 + n2)) (a1.extract a0.size a1.size ++ ⟨#[120]⟩) _ HS.out
      rw [hr]
      clear hr
      have hc0 : W1.cell? ⟨w.heap.size, 0, none⟩ = some (.int .u8 (c.toNat : Int)) := hc 0 (by simp)
      have hf0 : W1.frozen? ⟨w.heap.size, 0, none⟩ = false := hf 0 (by simp)
      have HC := Lib.hid hc
      have HB : Below w.heap.size w W1 := ⟨hB.os, hB.tape, hB.output, hB.size, hB.block⟩
      have HB' := Lib.hid HB
      clear hc hf HB hB hsz
      go_wp2_with fail
      refine (H4.out _).mono ?_
      rintro e w' ⟨rfl, n3, rfl⟩
      go_wp2_with fail
      rw [run_bytes_back _ _ _ _ ((c ^^^ 1) :: (r ++ [120])) (by simp) (by
        intro j hj
        rw [add_plain, Nat.zero_add, World.cell?_drewN]
        cases j with
        | zero => rw [World.cell?_setCell_same _ _ _ hc0]; rfl
        | succ j =>
          rw [World.cell?_setCell_other _ _ _ _ (by simp)]
          exact HC.out (j + 1) hj)]
      go_wp2_with fail
      refine (H5.out _).mono ?_
      rintro e w' ⟨rfl, n1, rfl⟩
      go_wp2_with fail
      refine (H3.out _).mono ?_
      rintro e w' ⟨rfl, n2, rfl⟩
      go_wp2_with fail
      refine (alive_lead _).mono ?_
      rintro e w' ⟨rfl, n6, rfl⟩
      go_wp2
      go_ret
      exact ⟨rfl, (HB'.out.setCell (Nat.le_refl _) _).trans ⟨rfl, rfl, rfl, Nat.le_refl _, fun _ _ => rfl⟩⟩
    · obtain ⟨hs1, hs2⟩ := leadOf_stays a0.data.toList a1.data.toList a2.data.toList hz
      have hb := leadOf_bounds a0.data.toList a1.data.toList false
      generalize hv : leadOf a0.data.toList a1.data.toList false = v at *
      have H1 := Lib.hid (fun w => of_any a0 a1 false w (by unfold maxLen; omega) (by unfold maxLen; omega) v hv)
      have H2 := Lib.hid (fun w => of_any (a0 ++ a2) a1 false w (by unfold maxLen; simp; omega) (by unfold maxLen; omega) v (by simpa using hs1))
      have H3 := Lib.hid (fun w => of_any a0 a1 true w (by unfold maxLen; omega) (by unfold maxLen; omega) v hs2)
      clear hv hs1 hs2
      have hz' : (v != 0) = true := by simpa using hz
      clear hz hb
      go_enter Try.func4, Try.ntmps4
      go_wp2_with fail
      refine (H1.out _).mono ?_
      rintro e w' ⟨rfl, n1, rfl⟩
      go_wp2_with fail
      refine (H2.out _).mono ?_
      rintro e w' ⟨rfl, n2, rfl⟩
      go_wp2_with fail
      refine (H3.out _).mono ?_
      rintro e w' ⟨rfl, n3, rfl⟩
      go_wp2_with fail
      refine (alive_lead _).mono ?_
      rintro e w' ⟨rfl, n, rfl⟩
      go_wp2
      go_ret
      exact ⟨rfl, below_n _ _⟩
theorem own : ownKnob Try.prog.godebug = none := by kernel_rfl
theorem laidOut : laidOutB Try.prog = true := by kernel_rfl
set_option maxRecDepth 100000 in
theorem lifted (os : Os) (started : os.Started) (H : Type) (enc : TypeId × Value → H) :
    ReturnsInHanded {} Try.checked os 4 .any (Rows.leadStaysSpec.pre6 enc Try.prog Try.f4 Rows.leadStaysRow.domain false) (Rows.leadStaysSpec.post enc Try.prog Try.f4 false true false false) := by
  refine returnsInHanded_of_change (C := Try.checked) own started (by kernel_rfl) Try.func4
    (ChangeSpec.witness6 (enc := enc) (C := Try.checked) false ⟨#[], #[.string ByteArray.empty, .string ByteArray.empty, .string ByteArray.empty], []⟩ 8 (by kernel_rfl) (by kernel_rfl) (by kernel_rfl) (by kernel_rfl)) ?_
  intro W base args ds gs before hval0 hW hcnd _
  have hval : ∀ (j : Nat) t v, Try.f4.params[j]? = some t → args[j]? = some v → Value.okWide Try.prog W .any base t v := hval0
  have hW' := hW
  obtain ⟨p, q, hA0, hV, rfl, hfz, hnd⟩ := hW
  have hA : DataW.TrodAll enc Try.prog W 0 (fun _ => true) true Try.f4.params.toList args.toList ds p := hA0
  rw [Try.params4] at hA hval
  obtain ⟨v0, vs0, d0, ds0, p0, q0, hargs, rfl, rfl, h0, r0⟩ := trodAll_cons hA
  obtain ⟨v1, vs1, d1, ds1, p1, q1, rfl, rfl, rfl, h1, r1⟩ := trodAll_cons r0
  obtain ⟨v2, vs2, d2, ds2, p2, q2, rfl, rfl, rfl, h2, r2⟩ := trodAll_cons r1
  obtain ⟨rfl, rfl, rfl⟩ := trodAll_nil r2
  obtain rfl : args = #[v0, v1, v2] := by cases args; simp_all
  obtain ⟨rfl, rfl⟩ := trodVars_none hV
  obtain ⟨a0, rfl, rfl, rfl, w0⟩ := open_string Try.underlying9 (hval 0 9 v0 rfl rfl) h0
  obtain ⟨a1, rfl, rfl, rfl, w1⟩ := open_string Try.underlying9 (hval 1 9 v1 rfl rfl) h1
  obtain ⟨a2, rfl, rfl, rfl, w2⟩ := open_string Try.underlying9 (hval 2 9 v2 rfl rfl) h2
  clear hA0 hval0
  refine (walk a0 a1 a2 W w0 w1 w2).mono fun e W' ⟨he, bel⟩ => ?_
  subst he
  exact ⟨_, rfl, _, _, _, [], _, [], hW', trodAll_mk1 (shut_bool Try.underlying4 _), (trodAll_cons_mk (shut_string Try.underlying9 w0) (trodAll_cons_mk (shut_string Try.underlying9 w1) (trodAll_cons_mk (shut_string Try.underlying9 w2) trodAll_mk0))), rfl, bel.frame _, fun h => by cases h⟩

theorem over : Rows.leadStaysRow.holds Try.pinned (OpenSpec.ofChange Rows.leadStaysSpec) :=
  OpenClaim.holds_of_wide 4 Try.f4 rfl rfl rfl rfl rfl rfl rfl ⟨rfl, rfl, rfl, rfl, rfl⟩ rfl rfl rfl rfl rfl (by kernel_rfl) Try.func4 (by kernel_rfl)
    (of_decide_eq_true (by kernel_rfl)) (by unfold Func.isWrapper; first | (rw [if_pos (by decide +kernel)]; kernel_rfl) | (rw [if_neg (by decide +kernel)]; exact ⟨rfl, rfl⟩))
    (fun os started H enc _ => lifted os started H enc)

/-- THE STATEMENT -/
theorem proved : Rows.LeadStaysSaid := over
#print axioms proved
end Go.Proofs.Ythichhoiegkcjaa.leadStays
