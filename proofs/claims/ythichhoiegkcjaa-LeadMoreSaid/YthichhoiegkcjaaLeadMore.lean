/- The statement LeadMore: a stream that begins with a text begins with each beginning of it; of two texts of which neither begins the other one a stream begins with one at most; for any strings, any place. -/
import Derived.Test.YthichhoiegkcjaaLead
set_option linter.unusedVariables false
set_option linter.unusedSimpArgs false
namespace Go.Proofs.Ythichhoiegkcjaa.leadMore
open Go.ChangeShapes Go.WideShapes Go.ChangeAt Go.RowKit
open Go.ChangeMaps (open_string shut_string)

set_option maxHeartbeats 4000000 in
theorem walk (a0 : ByteArray) (a1 : ByteArray) (a2 : ByteArray) (a3 : Int) (a4 : Bool) (w : World) (w0 : a0.size ≤ maxLen) (w1 : a1.size ≤ maxLen) (w2 : a2.size ≤ maxLen) (w3 : (Lit.int .u16 a3).wf = true) :
    Calls Try.prog 5 #[.string a0, .string a1, .string a2, .int .u16 a3, .bool a4] w fun e w' => e = .returned (.bool true) ∧ Below w.heap.size w w' := by
  obtain ⟨l3, g3⟩ := bounds_u16 w3
  clear w3
  unfold maxLen at w0 w1 w2
  by_cases h0 : 2048 < a0.size
  · go_enter Try.func5, Try.ntmps5
    go_wp2_with fail
    (with_reducible refine (alive_lead _).mono ?_)
    rintro e w' ⟨rfl, n1, rfl⟩
    go_wp2
    go_ret
    exact ⟨rfl, below_n _ _⟩
  by_cases h1 : 2048 < a1.size
  · go_enter Try.func5, Try.ntmps5
    go_wp2_with fail
    (with_reducible refine (alive_lead _).mono ?_)
    rintro e w' ⟨rfl, n2, rfl⟩
    go_wp2
    go_ret
    exact ⟨rfl, below_n _ _⟩
  by_cases h2 : 2048 < a2.size
  · go_enter Try.func5, Try.ntmps5
    go_wp2_with fail
    (with_reducible refine (alive_lead _).mono ?_)
    rintro e w' ⟨rfl, n3, rfl⟩
    go_wp2
    go_ret
    exact ⟨rfl, below_n _ _⟩
  have hk : (a1.extract 0 (a3 % (↑a1.size + 1)).toNat).data.toList = a1.data.toList.take (a3 % (↑a1.size + 1)).toNat := by
    rw [Lib.extract_data]; simp
  have hks : (a1.extract 0 (a3 % (↑a1.size + 1)).toNat).size ≤ 9223372036854775807 := by
    rw [Lib.size_eq, hk]
    have : a1.data.toList.length = a1.size := rfl
    rw [List.length_take]
    omega
  have hK1 : 0 ≤ a3 % (↑a1.size + 1) := Int.emod_nonneg _ (by omega)
  have hK2 : a3 % (↑a1.size + 1) ≤ ↑a1.size := by have := Int.emod_lt_of_pos a3 (show (0 : Int) < ↑a1.size + 1 by omega); omega
  have m0 : a0.size ≤ maxLen := by unfold maxLen; omega
  have m1 : a1.size ≤ maxLen := by unfold maxLen; omega
  have m2 : a2.size ≤ maxLen := by unfold maxLen; omega
  have mk : (a1.extract 0 (a3 % (↑a1.size + 1)).toNat).size ≤ maxLen := by unfold maxLen; omega
  obtain ⟨x, hx⟩ : ∃ v, leadOf a0.data.toList a1.data.toList a4 = v := ⟨_, rfl⟩
  obtain ⟨y, hy⟩ : ∃ v, leadOf a0.data.toList (a1.extract 0 (a3 % (↑a1.size + 1)).toNat).data.toList a4 = v := ⟨_, rfl⟩
  obtain ⟨z, hz⟩ : ∃ v, leadOf a0.data.toList a2.data.toList a4 = v := ⟨_, rfl⟩
  obtain ⟨p, hp⟩ : ∃ v, leadOf a1.data.toList a2.data.toList true = v := ⟨_, rfl⟩
  obtain ⟨q, hq⟩ : ∃ v, leadOf a2.data.toList a1.data.toList true = v := ⟨_, rfl⟩
  have H1 := Lib.hid (fun (w : World) => of_any a0 a1 a4 w m0 m1 x hx)
  have H2 := Lib.hid (fun (w : World) => of_any a0 _ a4 w m0 mk y hy)
  have H3 := Lib.hid (fun (w : World) => of_any a0 a2 a4 w m0 m2 z hz)
  have H4 := Lib.hid (fun (w : World) => of_any a1 a2 true w m1 m2 p hp)
  have H5 := Lib.hid (fun (w : World) => of_any a2 a1 true w m2 m1 q hq)
  have H6 := Lib.hid (fun (w : World) => of_any a1 _ true w m1 mk 2 (by rw [hk]; exact leadOf_head _ _))
  have bx := leadOf_bounds a0.data.toList a1.data.toList a4
  have bY := leadOf_bounds a0.data.toList (a1.extract 0 (a3 % (↑a1.size + 1)).toNat).data.toList a4
  have hb := leadOf_both a0.data.toList a1.data.toList a2.data.toList a4
  obtain ⟨t1, t2, t3⟩ := leadOf_take a0.data.toList a1.data.toList (a3 % (↑a1.size + 1)).toNat a4
  rw [← hk, hy, hx] at t1 t2 t3
  rw [hx] at bx
  rw [hx, hz, hp, hq] at hb
  rw [hy] at bY
  clear hx hy hz hp hq hk hks m0 m1 m2 mk
  have hc : (x = 2 ∧ y = 2) ∨ (x = 1 ∧ y = 2) ∨ (x = 1 ∧ y = 1) ∨ (x = 0 ∧ y = 2) ∨ (x = 0 ∧ y = 0) := by
    clear hb
    omega
  clear t1 t2 t3 bx bY
  rcases hc with ⟨rfl, rfl⟩ | ⟨rfl, rfl⟩ | ⟨rfl, rfl⟩ | ⟨rfl, rfl⟩ | ⟨rfl, rfl⟩
  · by_cases hz : z = 2
    · subst hz
      have hb' := hb rfl rfl
      clear hb
      by_cases hp : p = 2
      · subst hp
        clear hb'
        go_enter Try.func5, Try.ntmps5
        go_wp2_with fail
        (with_reducible refine (H1.out _).mono ?_)
        rintro e w' ⟨rfl, n4, rfl⟩
        go_wp2_with fail
        (with_reducible refine (H2.out _).mono ?_)
        rintro e w' ⟨rfl, n5, rfl⟩
        go_wp2_with fail
        (with_reducible refine (H3.out _).mono ?_)
        rintro e w' ⟨rfl, n6, rfl⟩
        go_wp2_with fail
        (with_reducible refine (H4.out _).mono ?_)
        rintro e w' ⟨rfl, n7, rfl⟩
        go_wp2_with fail
        (with_reducible refine (H6.out _).mono ?_)
        rintro e w' ⟨rfl, n8, rfl⟩
        go_wp2_with fail
        (with_reducible refine (alive_lead _).mono ?_)
        rintro e w' ⟨rfl, n9, rfl⟩
        go_wp2
        go_ret
        exact ⟨rfl, below_n _ _⟩
      · obtain rfl : q = 2 := by omega
        have hp' : (p != 2) = true := by rw [bne_iff_ne]; exact hp
        clear hb' hp
        go_enter Try.func5, Try.ntmps5
        go_wp2_with fail
        (with_reducible refine (H1.out _).mono ?_)
        rintro e w' ⟨rfl, n10, rfl⟩
        go_wp2_with fail
        (with_reducible refine (H2.out _).mono ?_)
        rintro e w' ⟨rfl, n11, rfl⟩
        go_wp2_with fail
        (with_reducible refine (H3.out _).mono ?_)
        rintro e w' ⟨rfl, n12, rfl⟩
        go_wp2_with fail
        (with_reducible refine (H4.out _).mono ?_)
        rintro e w' ⟨rfl, n13, rfl⟩
        go_wp2_with fail
        (with_reducible refine (H5.out _).mono ?_)
        rintro e w' ⟨rfl, n14, rfl⟩
        go_wp2_with fail
        (with_reducible refine (H6.out _).mono ?_)
        rintro e w' ⟨rfl, n15, rfl⟩
        go_wp2_with fail
        (with_reducible refine (alive_lead _).mono ?_)
        rintro e w' ⟨rfl, n16, rfl⟩
        go_wp2
        go_ret
        exact ⟨rfl, below_n _ _⟩
    · have hz' : (z == 2) = false := by rw [beq_eq_false_iff_ne]; exact hz
      clear hb hz
      go_enter Try.func5, Try.ntmps5
      go_wp2_with fail
      (with_reducible refine (H1.out _).mono ?_)
      rintro e w' ⟨rfl, n17, rfl⟩
      go_wp2_with fail
      (with_reducible refine (H2.out _).mono ?_)
      rintro e w' ⟨rfl, n18, rfl⟩
      go_wp2_with fail
      (with_reducible refine (H3.out _).mono ?_)
      rintro e w' ⟨rfl, n19, rfl⟩
      go_wp2_with fail
      (with_reducible refine (H6.out _).mono ?_)
      rintro e w' ⟨rfl, n20, rfl⟩
      go_wp2_with fail
      (with_reducible refine (alive_lead _).mono ?_)
      rintro e w' ⟨rfl, n21, rfl⟩
      go_wp2
      go_ret
      exact ⟨rfl, below_n _ _⟩
  all_goals
    clear hb
    go_enter Try.func5, Try.ntmps5
    go_wp2_with fail
    (with_reducible refine (H1.out _).mono ?_)
    rintro e w' ⟨rfl, n22, rfl⟩
    go_wp2_with fail
    (with_reducible refine (H2.out _).mono ?_)
    rintro e w' ⟨rfl, n23, rfl⟩
    go_wp2_with fail
    (with_reducible refine (H3.out _).mono ?_)
    rintro e w' ⟨rfl, n24, rfl⟩
    go_wp2_with fail
    (with_reducible refine (H6.out _).mono ?_)
    rintro e w' ⟨rfl, n25, rfl⟩
    go_wp2_with fail
    (with_reducible refine (alive_lead _).mono ?_)
    rintro e w' ⟨rfl, n26, rfl⟩
    go_wp2
    go_ret
    exact ⟨rfl, below_n _ _⟩

theorem own : ownKnob Try.prog.godebug = none := by kernel_rfl
theorem laidOut : laidOutB Try.prog = true := by kernel_rfl
set_option maxRecDepth 100000 in
theorem lifted (os : Os) (started : os.Started) (H : Type) (enc : TypeId × Value → H) :
    ReturnsInHanded {} Try.checked os 5 .any (Rows.leadMoreSpec.pre6 enc Try.prog Try.f5 Rows.leadMoreRow.domain false) (Rows.leadMoreSpec.post enc Try.prog Try.f5 false true false false) := by
  refine returnsInHanded_of_change (C := Try.checked) own started (by kernel_rfl) Try.func5
    (ChangeSpec.witness6 (enc := enc) (C := Try.checked) false ⟨#[], #[.string ByteArray.empty, .string ByteArray.empty, .string ByteArray.empty, .int .u16 0, .bool false], []⟩ 8 (by kernel_rfl) (by kernel_rfl) (by kernel_rfl) (by kernel_rfl)) ?_
  intro W base args ds gs before hval0 hW hcnd _
  have hval : ∀ (j : Nat) t v, Try.f5.params[j]? = some t → args[j]? = some v → Value.okWide Try.prog W .any base t v := hval0
  have hW' := hW
  obtain ⟨p, q, hA0, hV, rfl, hfz, hnd⟩ := hW
  have hA : DataW.TrodAll enc Try.prog W 0 (fun _ => true) true Try.f5.params.toList args.toList ds p := hA0
  rw [Try.params5] at hA hval
  obtain ⟨v0, vs0, d0, ds0, p0, q0, hargs, rfl, rfl, h0, r0⟩ := trodAll_cons hA
  obtain ⟨v1, vs1, d1, ds1, p1, q1, rfl, rfl, rfl, h1, r1⟩ := trodAll_cons r0
  obtain ⟨v2, vs2, d2, ds2, p2, q2, rfl, rfl, rfl, h2, r2⟩ := trodAll_cons r1
  obtain ⟨v3, vs3, d3, ds3, p3, q3, rfl, rfl, rfl, h3, r3⟩ := trodAll_cons r2
  obtain ⟨v4, vs4, d4, ds4, p4, q4, rfl, rfl, rfl, h4, r4⟩ := trodAll_cons r3
  obtain ⟨rfl, rfl, rfl⟩ := trodAll_nil r4
  obtain rfl : args = #[v0, v1, v2, v3, v4] := by cases args; simp_all
  obtain ⟨rfl, rfl⟩ := trodVars_none hV
  obtain ⟨a0, rfl, rfl, rfl, w0⟩ := open_string Try.underlying9 (hval 0 9 v0 rfl rfl) h0
  obtain ⟨a1, rfl, rfl, rfl, w1⟩ := open_string Try.underlying9 (hval 1 9 v1 rfl rfl) h1
  obtain ⟨a2, rfl, rfl, rfl, w2⟩ := open_string Try.underlying9 (hval 2 9 v2 rfl rfl) h2
  obtain ⟨a3, rfl, rfl, rfl, w3⟩ := open_int Try.underlying27 (hval 3 27 v3 rfl rfl) h3
  obtain ⟨a4, rfl, rfl, rfl⟩ := open_bool Try.underlying4 (hval 4 4 v4 rfl rfl) h4
  clear hA0 hval0
  refine (walk a0 a1 a2 a3 a4 W w0 w1 w2 w3).mono fun e W' ⟨he, bel⟩ => ?_
  subst he
  exact ⟨_, rfl, _, _, _, [], _, [], hW', trodAll_mk1 (shut_bool Try.underlying4 _), (trodAll_cons_mk (shut_string Try.underlying9 w0) (trodAll_cons_mk (shut_string Try.underlying9 w1) (trodAll_cons_mk (shut_string Try.underlying9 w2) (trodAll_cons_mk (shut_int Try.underlying27 w3) (trodAll_cons_mk (shut_bool Try.underlying4 _) trodAll_mk0))))), rfl, bel.frame _, fun h => by cases h⟩

theorem over : Rows.leadMoreRow.holds Try.pinned (OpenSpec.ofChange Rows.leadMoreSpec) :=
  OpenClaim.holds_of_wide 5 Try.f5 rfl rfl rfl rfl rfl rfl rfl ⟨rfl, rfl, rfl, rfl, rfl⟩ rfl rfl rfl rfl rfl (by kernel_rfl) Try.func5 (by kernel_rfl)
    (of_decide_eq_true (by kernel_rfl)) (by unfold Func.isWrapper; first | (rw [if_pos (by decide +kernel)]; kernel_rfl) | (rw [if_neg (by decide +kernel)]; exact ⟨rfl, rfl⟩))
    (fun os started H enc _ => lifted os started H enc)

/-- THE STATEMENT -/
theorem proved : Rows.LeadMoreSaid := over
#print axioms proved
end Go.Proofs.Ythichhoiegkcjaa.leadMore
