/- The statement ShiftTells: what shifts legs make, what becomes of a segment, and a window; any legs, any segment, any shift. -/
import Derived.Test.YtgppkfdhfphoeaaShiftTellsM
import Derived.Test.YtgppkfdhfphoeaaShiftRefS
import Derived.Test.YtgppkfdhfphoeaaPktSame
import Derived.Test.YtgppkfdhfphoeaaPktNext
import Derived.Test.YtgppkfdhfphoeaaLegOpen
import Derived.Test.YtgppkfdhfphoeaaSegOpen
set_option linter.unusedVariables false
set_option linter.unusedSimpArgs false
namespace Go.Proofs.Ytgppkfdhfphoeaa.shiftTells
open Go.ChangeShapes Go.WideShapes Go.ChangeAt Go.RowKit Go.BigFrame
open Go.ChangeMaps (open_string shut_string)

theorem psame_eq (w : World) (t0 t1 t2 t3 t4 t5 t6 t7 t8 t9 t13 t14 : Int) (b c : Bool) (A B : Option Addr) (k e : Nat) (L : List (Int × Int)) (d : ByteArray) (h1 : BlR w A L) (h2 : BlR w B L) (hn : L.length ≤ maxLen) :
    Calls Try.prog 14 #[.agg #[.int .u32 t0, .int .u16 t1, .int .u32 t2, .int .u16 t3, .int .u32 t4, .int .u32 t5, .int .u8 t6, .int .u16 t7, .int .u16 t8, .int .i64 t9, .bool b, .slice A L.length k, .bool c, .int .u32 t13, .int .u32 t14, .string d], .agg #[.int .u32 t0, .int .u16 t1, .int .u32 t2, .int .u16 t3, .int .u32 t4, .int .u32 t5, .int .u8 t6, .int .u16 t7, .int .u16 t8, .int .i64 t9, .bool b, .slice B L.length e, .bool c, .int .u32 t13, .int .u32 t14, .string d]] w fun en w' => en = .returned (.bool true) ∧ Below w.heap.size w w' := by
  refine (psame_raw w t0 t0 t1 t1 t2 t2 t3 t3 t4 t4 t5 t5 t6 t6 t7 t7 t8 t8 t9 t9 t13 t13 t14 t14 b c b c A B k e L L d d h1 h2 hn hn).mono ?_
  rintro en w' ⟨rfl, hb⟩
  exact ⟨ret_bool (by simp), hb⟩
theorem of_shape (a0 a1 a2 a3 a4 a5 a6 a7 a8 a9 b0 b1 b2 b3 b4 b5 b6 b7 b8 b9 : Int) : ∃ X0 X1 X2 X3 X4 X5 X6 X7 X8 X9 E : Int, ofV a0 a1 a2 a3 a4 a5 a6 a7 a8 a9 b0 b1 b2 b3 b4 b5 b6 b7 b8 b9 = .tuple #[.agg #[.int .u32 X0, .int .u16 X1, .int .u32 X2, .int .u16 X3, .int .u32 X4, .int .u32 X5, .int .u32 X6, .int .u32 X7, .int .i64 X8, .int .i64 X9], .int .i64 E] := by
  unfold ofV
  split
  · exact ⟨_, _, _, _, _, _, _, _, _, _, _, rfl⟩
  · exact ⟨_, _, _, _, _, _, _, _, _, _, _, rfl⟩
theorem walk (a0 a1 a2 a3 a4 a5 a6 a7 a8 a9 b0 b1 b2 b3 b4 b5 b6 b7 b8 b9 s0 s1 s2 s3 s4 s5 : Int) (f : Nat) (s7 : Int) (o : Op) (A : Option Addr) (c : Nat) (d : ByteArray) (x0 x1 x2 x3 x4 x5 x6 x7 x8 x9 : Int) (w : World) (wa : ShiftF a0 a1 a2 a3 a4 a5 a6 a7 a8 a9) (wb : ShiftF b0 b1 b2 b3 b4 b5 b6 b7 b8 b9) (ws : SegF w s0 s1 s2 s3 s4 s5 f s7 o A c d) (wx : ShiftF x0 x1 x2 x3 x4 x5 x6 x7 x8 x9) :
    Calls Try.prog 5 #[.agg #[.int .u32 a0, .int .u16 a1, .int .u32 a2, .int .u16 a3, .int .u32 a4, .int .u32 a5, .int .u32 a6, .int .u32 a7, .int .i64 a8, .int .i64 a9], .agg #[.int .u32 b0, .int .u16 b1, .int .u32 b2, .int .u16 b3, .int .u32 b4, .int .u32 b5, .int .u32 b6, .int .u32 b7, .int .i64 b8, .int .i64 b9], .agg (segO s0 s1 s2 s3 s4 s5 f s7 o A c d), .agg #[.int .u32 x0, .int .u16 x1, .int .u32 x2, .int .u16 x3, .int .u32 x4, .int .u32 x5, .int .u32 x6, .int .u32 x7, .int .i64 x8, .int .i64 x9]] w fun e w' => e = .returned (.bool true) ∧ Below w.heap.size w w' := by
  have hhv := fun W => heavy_any W s0 s1 s2 s3 s4 s5 (f : Int) s7 (o.mss : Int) o.scale o.sack o.time A o.bl.length c (o.val : Int) (o.echo : Int) d (Nat.le_trans ws.o.2.2.1 ws.o.2.2.2) ws.d
  cases hv : (decide ((d.size : Int) > 4096) || decide ((o.bl.length : Int) > 100)) with
  | true =>
    rw [hv] at hhv
    exact tells_heavy w _ _ _ _ _ _ _ _ _ _ _ _ _ _ _ _ _ _ _ _ _ _ _ _ _ _ _ _ _ _ _ _ _ _ _ _ _ _ _ _ _ _ _ _ _ _ _ _ hhv
  | false =>
    rw [hv] at hhv
    rw [Bool.or_eq_false_iff, decide_eq_false_iff_not, decide_eq_false_iff_not] at hv
    have hn : o.bl.length ≤ 1000 := by omega
    have hx := fun W => of_any a0 a1 a2 a3 a4 a5 a6 a7 a8 a9 b0 b1 b2 b3 b4 b5 b6 b7 b8 b9 W
    have hy := fun W => rof_any a0 a1 a2 a3 a4 a5 a6 a7 a8 a9 b0 b1 b2 b3 b4 b5 b6 b7 b8 b9 W
    obtain ⟨X0, X1, X2, X3, X4, X5, X6, X7, X8, X9, E, hE⟩ := of_shape a0 a1 a2 a3 a4 a5 a6 a7 a8 a9 b0 b1 b2 b3 b4 b5 b6 b7 b8 b9
    rw [hE] at hx hy
    have hwi := fun W => window_any x0 x1 x2 x3 x4 x5 x6 x7 x8 x9 s7 W ws.b7.1 ws.b7.2
    have hrw := fun W => rwin_any s7 x8 x9 W ws.b7.1 ws.b7.2
    cases hp : pmayB f o d with
    | true =>
      have hsy := fun W (hB : Below w.heap.size w W) => seg_yes W s0 s1 s2 s3 s4 s5 f s7 o A c d x0 x1 x2 x3 x4 x5 x6 x7 x8 x9 ws.o.1 (ws.o.2.1.below hB) hn ws.f ws.d hp ws.b7.1 ws.b7.2
      have hry := fun W (hB : Below w.heap.size w W) => rseg_yes W s0 s1 s2 s3 s4 s5 f s7 o A c d x0 x1 x2 x3 x4 x5 x6 x7 x8 x9 ws.o.1 (ws.o.2.1.below hB) hn ws.f ws.d hp ws.b7.1 ws.b7.2
      unfold SegPost turnedC at hsy hry
      have hle : (o.bl.map (turnB x5)).length ≤ maxLen := by rw [List.length_map]; simp only [maxLen]; omega
      exact tells_main (hh := hhv) (hof := hx) (hro := hy) (hsg := hsy) (hrs := hry) (hsm := fun W A2 A3 cq cr h1 h2 => psame_eq W _ _ _ _ _ _ _ _ _ _ _ _ _ _ A2 A3 cq cr _ d h1 h2 hle) (hwi := hwi) (hrw := hrw)
    | false =>
      have hsn := fun W (hB : Below w.heap.size w W) => seg_no W s0 s1 s2 s3 s4 s5 f s7 o A c d x0 x1 x2 x3 x4 x5 x6 x7 x8 x9 ws.o.1 (ws.o.2.1.below hB) hn ws.f ws.d hp
      have hrn := fun W (hB : Below w.heap.size w W) => rseg_no W s0 s1 s2 s3 s4 s5 f s7 o A c d x0 x1 x2 x3 x4 x5 x6 x7 x8 x9 ws.o.1 (ws.o.2.1.below hB) hn ws.f ws.d hp
      refine tells_main (hh := hhv) (hof := hx) (hro := hy) (T0 := 0) (T1 := 0) (T2 := 0) (T3 := 0) (T4 := 0) (T5 := 0) (TF := 0) (T7 := 0) (T8 := 0) (T9 := 0) (T13 := 0) (T14 := 0) (G := 2) (Tb := false) (Tc := false) (td := ⟨#[]⟩) (L := []) (hsg := fun W hB => (hsn W hB).mono ?_) (hrs := fun W hB => (hrn W hB).mono ?_) (hsm := fun W A2 A3 cq cr h1 h2 => psame_eq W _ _ _ _ _ _ _ _ _ _ _ _ _ _ A2 A3 cq cr [] ⟨#[]⟩ h1 h2 (Nat.zero_le _)) (hwi := hwi) (hrw := hrw)
      · rintro e w' ⟨rfl, hb⟩
        exact ⟨none, 0, rfl, .inl rfl, hb⟩
      · rintro e w' ⟨rfl, hb⟩
        exact ⟨none, 0, rfl, .inl rfl, hb⟩
theorem own : ownKnob Try.prog.godebug = none := by kernel_rfl
theorem laidOut : laidOutB Try.prog = true := by kernel_rfl
set_option maxRecDepth 100000 in
theorem lifted (os : Os) (started : os.Started) (H : Type) (enc : TypeId × Value → H) :
    ReturnsInHanded {} Try.checked os 5 .any (Rows.shiftTellsSpec.pre6 enc Try.prog Try.f5 Rows.shiftTellsRow.domain false) (Rows.shiftTellsSpec.post enc Try.prog Try.f5 false true false false) := by
  refine returnsInHanded_of_change (C := Try.checked) own started (by kernel_rfl) Try.func5
    (ChangeSpec.witness6 (enc := enc) (C := Try.checked) false ⟨#[], #[.agg #[.int .u32 0, .int .u16 0, .int .u32 0, .int .u16 0, .int .u32 0, .int .u32 0, .int .u32 0, .int .u32 0, .int .i64 0, .int .i64 0], .agg #[.int .u32 0, .int .u16 0, .int .u32 0, .int .u16 0, .int .u32 0, .int .u32 0, .int .u32 0, .int .u32 0, .int .i64 0, .int .i64 0], .agg #[.int .u32 0, .int .u16 0, .int .u32 0, .int .u16 0, .int .u32 0, .int .u32 0, .int .u8 0, .int .u16 0, .int .u16 0, .int .i64 0, .bool false, .slice none 0 0, .bool false, .int .u32 0, .int .u32 0, .string ByteArray.empty], .agg #[.int .u32 0, .int .u16 0, .int .u32 0, .int .u16 0, .int .u32 0, .int .u32 0, .int .u32 0, .int .u32 0, .int .i64 0, .int .i64 0]], []⟩ 8 (by kernel_rfl) (by kernel_rfl) (by kernel_rfl) (by kernel_rfl)) ?_
  intro W base args ds gs before hval0 hW hcnd _
  have hval : ∀ (j : Nat) t v, Try.f5.params[j]? = some t → args[j]? = some v → Value.okWide Try.prog W .any base t v := hval0
  have hW' := hW
  obtain ⟨p, q, hA0, hV, rfl, hfz, hnd⟩ := hW
  have hA : DataW.TrodAll enc Try.prog W 0 (fun _ => true) true Try.f5.params.toList args.toList ds p := hA0
  rw [Try.params5] at hA hval
  obtain ⟨v0, vs0, d0, ds0, p0, q0, hargs, rfl, rfl, h0, r0⟩ := trodAll_cons hA
  obtain ⟨v1, vs1, d1, ds1, p1, q1, rfl, rfl, rfl, h1, r1⟩ := trodAll_cons r0
  obtain ⟨v2, vs2, d2, ds2, p2, q2, rfl, rfl, rfl, h2, r2⟩ := trodAll_cons r1
  obtain ⟨v3, vs3, d3, ds3, p3, q3, rfl, rfl, rfl, h3, r3⟩ := trodAll_cons r2
  obtain ⟨rfl, rfl, rfl⟩ := trodAll_nil r3
  obtain rfl : args = #[v0, v1, v2, v3] := by cases args; simp_all
  obtain ⟨rfl, rfl⟩ := trodVars_none hV
  have k0 := h0
  have lt0 : ∀ x ∈ p0, x.block < W.heap.size := by obtain ⟨m, hm⟩ := k0; exact DataW.trod_lt m _ _ _ hm
  obtain ⟨a0_0, a0_1, a0_2, a0_3, a0_4, a0_5, a0_6, a0_7, a0_8, a0_9, rfl, w0⟩ := open_leg (hval 0 34 v0 rfl rfl) h0
  have k1 := h1
  have lt1 : ∀ x ∈ p1, x.block < W.heap.size := by obtain ⟨m, hm⟩ := k1; exact DataW.trod_lt m _ _ _ hm
  obtain ⟨a1_0, a1_1, a1_2, a1_3, a1_4, a1_5, a1_6, a1_7, a1_8, a1_9, rfl, w1⟩ := open_leg (hval 1 34 v1 rfl rfl) h1
  have k2 := h2
  have lt2 : ∀ x ∈ p2, x.block < W.heap.size := by obtain ⟨m, hm⟩ := k2; exact DataW.trod_lt m _ _ _ hm
  obtain ⟨a2_0, a2_1, a2_2, a2_3, a2_4, a2_5, a2_6, a2_7, a2_8, a2_9, a2_10, a2_11, rfl, w2⟩ := open_seg (hval 2 39 v2 rfl rfl) h2
  have k3 := h3
  have lt3 : ∀ x ∈ p3, x.block < W.heap.size := by obtain ⟨m, hm⟩ := k3; exact DataW.trod_lt m _ _ _ hm
  obtain ⟨a3_0, a3_1, a3_2, a3_3, a3_4, a3_5, a3_6, a3_7, a3_8, a3_9, rfl, w3⟩ := open_shift (hval 3 27 v3 rfl rfl) h3
  clear hA0 hval0
  refine (walk a0_0 a0_1 a0_2 a0_3 a0_4 a0_5 a0_6 a0_7 a0_8 a0_9 a1_0 a1_1 a1_2 a1_3 a1_4 a1_5 a1_6 a1_7 a1_8 a1_9 a2_0 a2_1 a2_2 a2_3 a2_4 a2_5 a2_6 a2_7 a2_8 a2_9 a2_10 a2_11 a3_0 a3_1 a3_2 a3_3 a3_4 a3_5 a3_6 a3_7 a3_8 a3_9 W w0 w1 w2 w3).mono fun e W' ⟨he, bel⟩ => ?_
  subst he
  exact ⟨_, rfl, _, _, _, [], _, [], hW', trodAll_mk1 (shut_bool Try.underlying4 _), (trodAll_cons_mk (Below.trod laidOut (by kernel_rfl) (of_decide_eq_true (by kernel_rfl)) k0 bel lt0) (trodAll_cons_mk (Below.trod laidOut (by kernel_rfl) (of_decide_eq_true (by kernel_rfl)) k1 bel lt1) (trodAll_cons_mk (Below.trod laidOut (by kernel_rfl) (of_decide_eq_true (by kernel_rfl)) k2 bel lt2) (trodAll_cons_mk (Below.trod laidOut (by kernel_rfl) (of_decide_eq_true (by kernel_rfl)) k3 bel lt3) trodAll_mk0)))), rfl, bel.frame _, fun h => by cases h⟩

theorem over : Rows.shiftTellsRow.holds Try.pinned (OpenSpec.ofChange Rows.shiftTellsSpec) :=
  OpenClaim.holds_of_wide 5 Try.f5 rfl rfl rfl rfl rfl rfl rfl ⟨rfl, rfl, rfl, rfl, rfl⟩ rfl rfl rfl rfl rfl (by kernel_rfl) Try.func5 (by kernel_rfl)
    (of_decide_eq_true (by kernel_rfl)) (by unfold Func.isWrapper; first | (rw [if_pos (by decide +kernel)]; kernel_rfl) | (rw [if_neg (by decide +kernel)]; exact ⟨rfl, rfl⟩))
    (fun os started H enc _ => lifted os started H enc)

/-- THE STATEMENT -/
theorem proved : Rows.ShiftTellsSaid := over
#print axioms proved
end Go.Proofs.Ytgppkfdhfphoeaa.shiftTells
