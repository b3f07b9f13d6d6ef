/- The statement ShiftBack: the shifts there and back go together. -/
import Derived.Test.YtgppkfdhfphoeaaShiftBackM
import Derived.Test.YtgppkfdhfphoeaaShiftBackE
import Derived.Test.YtgppkfdhfphoeaaLegOpen
set_option linter.unusedVariables false
set_option linter.unusedSimpArgs false
namespace Go.Proofs.Ytgppkfdhfphoeaa.shiftBack
open Go.ChangeShapes Go.WideShapes Go.ChangeAt Go.RowKit Go.BigFrame
open Go.ChangeMaps (open_string shut_string)

/-- the reply's options -/
def opR (t4 nt : Int) (t13 : Nat) : Op := ⟨0, -1, false, [(t4, nt)], true, 0, t13⟩
theorem opR_wf {t4 nt : Int} {t13 : Nat} (h1 : 0 ≤ t4 ∧ t4 ≤ 4294967295) (h2 : 0 ≤ nt ∧ nt ≤ 4294967295) (h3 : t13 < 4294967296) : (opR t4 nt t13).wf :=
  ⟨Nat.zero_lt_succ _, rfl, Nat.zero_lt_succ _, h3, fun p hp => by simp [opR] at hp; subst hp; exact ⟨h1, h2⟩⟩
theorem opR_may (t4 nt : Int) (t13 : Nat) : pmayB 16 (opR t4 nt t13) ⟨#[]⟩ = true := by
  have h1 : flagsB 16 = true := by decide
  have h2 : mayB (opR t4 nt t13) = true := by
    unfold mayB
    have : (rawL (opR t4 nt t13)).length = 24 := by simp [rawL, opR, mssL, scaleL, sackL, timeL, bheadL, blksL, be4]
    rw [this]
    simp [opR]
  unfold pmayB
  rw [h1, h2]
  decide
theorem nextV_b (s : Int) (f k : Nat) : 0 ≤ nextV s f k ∧ nextV s f k < 4294967296 := by unfold nextV; omega
theorem f3_of {l : List (Int × Int)} {X5 a4 b5 : Int} (hX : X5 = (b5 - a4) % 4294967296) : ∀ (j : Nat) (p q : Int × Int), l[j]? = some p → (l.map (turnB X5))[j]? = some q → (q.1 - b5) % 4294967296 = (p.1 - a4) % 4294967296 ∧ (q.2 - b5) % 4294967296 = (p.2 - a4) % 4294967296 := by
  intro j p q hp hq
  rw [List.getElem?_map, hp] at hq
  simp at hq
  subst hq
  unfold turnB
  simp only
  omega
theorem walk (a0 a1 a2 a3 a4 a5 a6 a7 a8 a9 b0 b1 b2 b3 b4 b5 b6 b7 b8 b9 s0 s1 s2 s3 s4 s5 : Int) (f : Nat) (s7 : Int) (o : Op) (A : Option Addr) (c : Nat) (d : ByteArray) (w : World) (wa : ShiftF a0 a1 a2 a3 a4 a5 a6 a7 a8 a9) (wb : ShiftF b0 b1 b2 b3 b4 b5 b6 b7 b8 b9) (ws : SegF w s0 s1 s2 s3 s4 s5 f s7 o A c d) :
    Calls Try.prog 4 #[.agg #[.int .u32 a0, .int .u16 a1, .int .u32 a2, .int .u16 a3, .int .u32 a4, .int .u32 a5, .int .u32 a6, .int .u32 a7, .int .i64 a8, .int .i64 a9], .agg #[.int .u32 b0, .int .u16 b1, .int .u32 b2, .int .u16 b3, .int .u32 b4, .int .u32 b5, .int .u32 b6, .int .u32 b7, .int .i64 b8, .int .i64 b9], .agg (segO s0 s1 s2 s3 s4 s5 f s7 o A c d)] w fun e w' => e = .returned (.bool true) ∧ Below w.heap.size w w' := by
  have hhv := fun W => heavy_any W s0 s1 s2 s3 s4 s5 (f : Int) s7 (o.mss : Int) o.scale o.sack o.time A o.bl.length c (o.val : Int) (o.echo : Int) d (Nat.le_trans ws.o.2.2.1 ws.o.2.2.2) ws.d
  cases hv : (decide ((d.size : Int) > 4096) || decide ((o.bl.length : Int) > 100)) with
  | true =>
    rw [hv] at hhv
    exact back_heavy w _ _ _ _ _ _ _ _ _ _ _ _ _ _ _ _ _ _ _ _ _ _ _ _ _ _ _ _ _ _ _ _ _ _ _ _ _ _ hhv
  | false =>
    rw [hv] at hhv
    rw [Bool.or_eq_false_iff, decide_eq_false_iff_not, decide_eq_false_iff_not] at hv
    have hn : o.bl.length ≤ 1000 := by omega
    have hx := fun W => of_any a0 a1 a2 a3 a4 a5 a6 a7 a8 a9 b0 b1 b2 b3 b4 b5 b6 b7 b8 b9 W
    have hy := fun W => of_any b0 b1 b2 b3 b4 b5 b6 b7 b8 b9 a0 a1 a2 a3 a4 a5 a6 a7 a8 a9 W
    have hsy := fun x0 x1 x2 x3 x4 x5 x6 x7 x8 x9 (hp : pmayB f o d = true) W (hB : BlR W A o.bl) => seg_yes W s0 s1 s2 s3 s4 s5 f s7 o A c d x0 x1 x2 x3 x4 x5 x6 x7 x8 x9 ws.o.1 hB hn ws.f ws.d hp ws.b7.1 ws.b7.2
    have hsn := fun x0 x1 x2 x3 x4 x5 x6 x7 x8 x9 (hp : pmayB f o d = false) W (hB : BlR W A o.bl) => seg_no W s0 s1 s2 s3 s4 s5 f s7 o A c d x0 x1 x2 x3 x4 x5 x6 x7 x8 x9 ws.o.1 hB hn ws.f ws.d hp
    by_cases hs : (scB a8 && scB a9) = true ∧ (scB b8 && scB b9) = true
    · unfold ofV at hx hy
      rw [if_pos hs] at hx
      rw [if_pos hs.symm] at hy
      cases hp : pmayB f o d with
      | false =>
        refine back_easy w _ _ _ _ _ _ _ _ _ _ _ _ _ _ _ _ _ _ _ _ _ _ _ _ _ _ _ _ _ _ _ _ _ _ _ _ _ _ _ _ _ _ _ _ _ _ _ _ _ _ _ _ 0 0 0 0 0 0 0 0 0 0 0 0 0 2 _ _ false false _ none _ _ 0 0 _ ⟨#[]⟩ hhv hx hy (fun W hB => ?_) (.inr (by decide))
        refine (hsn _ _ _ _ _ _ _ _ _ _ hp W (ws.o.2.1.below hB)).mono ?_
        rintro e w' ⟨rfl, hb⟩
        exact ⟨none, 0, 0, rfl, hb⟩
      | true =>
        obtain ⟨hn1, hn2⟩ := hv
        obtain ⟨X4, hX4⟩ : ∃ x, x = (b4 - a5) % 4294967296 := ⟨_, rfl⟩
        obtain ⟨X5, hX5⟩ : ∃ x, x = (b5 - a4) % 4294967296 := ⟨_, rfl⟩
        obtain ⟨X6, hX6⟩ : ∃ x, x = (b6 - a7) % 4294967296 := ⟨_, rfl⟩
        obtain ⟨X7, hX7⟩ : ∃ x, x = (b7 - a6) % 4294967296 := ⟨_, rfl⟩
        obtain ⟨Y4, hY4⟩ : ∃ x, x = (a4 - b5) % 4294967296 := ⟨_, rfl⟩
        obtain ⟨Y5, hY5⟩ : ∃ x, x = (a5 - b4) % 4294967296 := ⟨_, rfl⟩
        obtain ⟨Y6, hY6⟩ : ∃ x, x = (a6 - b7) % 4294967296 := ⟨_, rfl⟩
        obtain ⟨Y7, hY7⟩ : ∃ x, x = (a7 - b6) % 4294967296 := ⟨_, rfl⟩
        rw [← hX4, ← hX5, ← hX6, ← hX7] at hx
        rw [← hY4, ← hY5, ← hY6, ← hY7] at hy
        obtain ⟨t4, ht4⟩ : ∃ x, x = (s4 + X4) % 4294967296 := ⟨_, rfl⟩
        obtain ⟨t5, ht5⟩ : ∃ x, x = (if (bits .and .u8 (f : Int) 16 != 0) = true then (s5 + X5) % 4294967296 else s5) := ⟨_, rfl⟩
        obtain ⟨t13, ht13⟩ : ∃ x, x = (if o.time = true then ((o.val : Int) + X6) % 4294967296 else (o.val : Int)) := ⟨_, rfl⟩
        obtain ⟨t14, ht14⟩ : ∃ x, x = (if o.time = true then ((o.echo : Int) + X7) % 4294967296 else (o.echo : Int)) := ⟨_, rfl⟩
        obtain ⟨t7, ht7⟩ : ∃ x, x = winT s7 a9 b8 := ⟨_, rfl⟩
        have hov := ws.o.1.val
        have bt13 : 0 ≤ t13 ∧ t13 < 4294967296 := by rw [ht13]; split <;> omega
        obtain ⟨u13, hu13⟩ : ∃ n : Nat, t13 = (n : Int) := ⟨t13.toNat, by omega⟩
        have hsx := fun W (hB : BlR W A o.bl) => (hsy b2 b3 b0 b1 X4 X5 X6 X7 a9 b8 hp W hB)
        unfold SegPost turnedC at hsx
        rw [← ht4, ← ht5, ← ht13, ← ht14, ← ht7] at hsx
        obtain ⟨nt, hnt⟩ : ∃ x, x = nextV t4 f d.size := ⟨_, rfl⟩
        obtain ⟨ns, hns⟩ : ∃ x, x = nextV s4 f d.size := ⟨_, rfl⟩
        have bnt := nextV_b t4 f d.size
        rw [← hnt] at bnt
        have hw := opR_wf (t4 := t4) (nt := nt) (t13 := u13) (by omega) (by omega) (by omega)
        have hry := fun W gl (hB : Blk W gl 48 #[.int .u32 t4, .int .u32 nt]) => seg_yes W b0 b1 b2 b3 0 nt 16 0 (opR t4 nt u13) (some ⟨gl, 0, none⟩) 1 ⟨#[]⟩ a2 a3 a0 a1 Y4 Y5 Y6 Y7 b9 a8 hw (by
          refine .inr ⟨gl, 0, rfl, hB.lt, fun j p hj => ?_⟩
          cases j with
          | zero => simp [opR] at hj; subst hj; exact ⟨hB.cell 0, hB.cell 1⟩
          | succ j => simp [opR] at hj) (by simp [opR]) (by decide) (by decide) (opR_may t4 nt u13) (by decide) (by decide)
        have hak0 : (bits .and .u8 ((16 : Nat) : Int) 16 != 0) = true := by decide
        have ens : (nt + Y5) % 4294967296 = ns := by rw [hnt, hns, ht4, hX4, hY5]; unfold nextV; omega
        have es4 : (t4 + Y5) % 4294967296 = s4 := by have := ws.b4; rw [ht4, hX4, hY5]; omega
        unfold SegPost turnedC at hry
        rw [if_pos hak0, if_pos (show (opR t4 nt u13).time = true from rfl), if_pos (show (opR t4 nt u13).time = true from rfl), ens] at hry
        have hmap : (opR t4 nt u13).bl.map (turnB Y5) = [(s4, ns)] := by
          show [turnB Y5 (t4, nt)] = _
          unfold turnB
          simp only
          rw [es4, ens]
        rw [hmap] at hry
        obtain ⟨ak, hak⟩ : ∃ ak, (bits .and .u8 (f : Int) 16 != 0) = ak := ⟨_, rfl⟩
        subst hu13
        refine back_main w _ _ _ _ _ _ _ _ _ _ _ _ _ _ _ _ _ _ _ _ _ _ _ _ _ _ _ _ _ _ _ _ X4 X5 X6 X7 Y4 Y5 Y6 Y7 t4 t5 t7 (u13 : Int) t14 nt ns ((0 + Y4) % 4294967296) (winT 0 b9 a8) ((((0 : Nat) : Int) + Y6) % 4294967296) (((u13 : Int) + Y7) % 4294967296) _ _ ak _ _ _ _ o.bl (o.bl.map (turnB X5)) hhv hx hy ?_ ?_ ?_ ?_ ws.o.2.1 rfl (by simp) (by omega) hak ?_ ?_ (f3_of hX5) ?_ ?_
        · intro W hB
          refine (hsx W hB).mono ?_
          rintro e w' ⟨A2, c2, rfl, h1, h2⟩
          rw [List.length_map] at *
          exact ⟨A2, c2, rfl, h1, h2⟩
        · intro A2 cq W
          rw [hnt]
          exact next_any W _ _ _ _ _ _ f _ _ _ _ _ _ _ _ _ _ d ws.f ws.d
        · intro W
          rw [hns]
          exact next_any W _ _ _ _ _ _ f _ _ _ _ _ _ _ _ _ _ d ws.f ws.d
        · intro W gl hB
          refine (hry W gl hB).mono ?_
          rintro e w' ⟨A3, c3, rfl, h1, h2⟩
          exact ⟨A3, c3, rfl, h1, h2⟩
        · rw [ht4, hX4]; omega
        · intro h
          rw [ht5, hak, if_pos h, hX5]; omega
        · intro h
          rw [if_pos h] at ht13 ht14
          refine ⟨?_, ?_, ?_⟩
          · rw [ht13, hX6, hY7]; omega
          · rw [ht13, hX6]; omega
          · rw [ht14, hX7]; omega
        · rw [hnt, hns]; unfold nextV; omega
    · unfold ofV at hx hy
      rw [if_neg hs] at hx
      rw [if_neg (fun h => hs h.symm)] at hy
      cases hp : pmayB f o d with
      | false =>
        refine back_easy w _ _ _ _ _ _ _ _ _ _ _ _ _ _ _ _ _ _ _ _ _ _ _ _ _ _ _ _ _ _ _ _ _ _ _ _ _ _ _ _ _ _ _ _ _ _ _ _ _ _ _ _ 0 0 0 0 0 0 0 0 0 0 0 0 2 2 _ _ false false _ none _ _ 0 0 _ ⟨#[]⟩ hhv hx hy (fun W hB => ?_) (.inr (by decide))
        refine (hsn _ _ _ _ _ _ _ _ _ _ hp W (ws.o.2.1.below hB)).mono ?_
        rintro e w' ⟨rfl, hb⟩
        exact ⟨none, 0, 0, rfl, hb⟩
      | true =>
        have hz := fun W (hB : Below w.heap.size w W) => hsy 0 0 0 0 0 0 0 0 0 0 hp W (ws.o.2.1.below hB)
        unfold SegPost turnedC at hz
        refine back_easy w _ _ _ _ _ _ _ _ _ _ _ _ _ _ _ _ _ _ _ _ _ _ _ _ _ _ _ _ _ _ _ _ _ _ _ _ _ _ _ _ _ _ _ _ _ _ _ _ _ _ _ _ 0 0 0 0 ((s4 + 0) % 4294967296) (if (bits .and .u8 (f : Int) 16 != 0) = true then (s5 + 0) % 4294967296 else s5) (f : Int) (winT s7 0 0) (o.mss : Int) o.scale (if o.time = true then ((o.val : Int) + 0) % 4294967296 else (o.val : Int)) (if o.time = true then ((o.echo : Int) + 0) % 4294967296 else (o.echo : Int)) 2 0 _ _ o.sack o.time _ none _ _ 0 0 _ d hhv hx hy (fun W hB => (hz W hB).mono ?_) (.inl (by decide))
        rintro e w' ⟨A2, c2, rfl, _, hb⟩
        exact ⟨A2, _, c2, rfl, hb⟩
theorem own : ownKnob Try.prog.godebug = none := by kernel_rfl
theorem laidOut : laidOutB Try.prog = true := by kernel_rfl
set_option maxRecDepth 100000 in
theorem lifted (os : Os) (started : os.Started) (H : Type) (enc : TypeId × Value → H) :
    ReturnsInHanded {} Try.checked os 4 .any (Rows.shiftBackSpec.pre6 enc Try.prog Try.f4 Rows.shiftBackRow.domain false) (Rows.shiftBackSpec.post enc Try.prog Try.f4 false true false false) := by
  refine returnsInHanded_of_change (C := Try.checked) own started (by kernel_rfl) Try.func4
    (ChangeSpec.witness6 (enc := enc) (C := Try.checked) false ⟨#[], #[.agg #[.int .u32 0, .int .u16 0, .int .u32 0, .int .u16 0, .int .u32 0, .int .u32 0, .int .u32 0, .int .u32 0, .int .i64 0, .int .i64 0], .agg #[.int .u32 0, .int .u16 0, .int .u32 0, .int .u16 0, .int .u32 0, .int .u32 0, .int .u32 0, .int .u32 0, .int .i64 0, .int .i64 0], .agg #[.int .u32 0, .int .u16 0, .int .u32 0, .int .u16 0, .int .u32 0, .int .u32 0, .int .u8 0, .int .u16 0, .int .u16 0, .int .i64 0, .bool false, .slice none 0 0, .bool false, .int .u32 0, .int .u32 0, .string ByteArray.empty]], []⟩ 8 (by kernel_rfl) (by kernel_rfl) (by kernel_rfl) (by kernel_rfl)) ?_
  intro W base args ds gs before hval0 hW hcnd _
  have hval : ∀ (j : Nat) t v, Try.f4.params[j]? = some t → args[j]? = some v → Value.okWide Try.prog W .any base t v := hval0
  have hW' := hW
  obtain ⟨p, q, hA0, hV, rfl, hfz, hnd⟩ := hW
  have hA : DataW.TrodAll enc Try.prog W 0 (fun _ => true) true Try.f4.params.toList args.toList ds p := hA0
  rw [Try.params4] at hA hval
  obtain ⟨v0, vs0, d0, ds0, p0, q0, hargs, rfl, rfl, h0, r0⟩ := trodAll_cons hA
  obtain ⟨v1, vs1, d1, ds1, p1, q1, rfl, rfl, rfl, h1, r1⟩ := trodAll_cons r0
  obtain ⟨v2, vs2, d2, ds2, p2, q2, rfl, rfl, rfl, h2, r2⟩ := trodAll_cons r1
  obtain ⟨rfl, rfl, rfl⟩ := trodAll_nil r2
  obtain rfl : args = #[v0, v1, v2] := by cases args; simp_all
  obtain ⟨rfl, rfl⟩ := trodVars_none hV
  have k0 := h0
  have lt0 : ∀ x ∈ p0, x.block < W.heap.size := by obtain ⟨m, hm⟩ := k0; exact DataW.trod_lt m _ _ _ hm
  obtain ⟨a0_0, a0_1, a0_2, a0_3, a0_4, a0_5, a0_6, a0_7, a0_8, a0_9, rfl, w0⟩ := open_leg (hval 0 34 v0 rfl rfl) h0
  have k1 := h1
  have lt1 : ∀ x ∈ p1, x.block < W.heap.size := by obtain ⟨m, hm⟩ := k1; exact DataW.trod_lt m _ _ _ hm
  obtain ⟨a1_0, a1_1, a1_2, a1_3, a1_4, a1_5, a1_6, a1_7, a1_8, a1_9, rfl, w1⟩ := open_leg (hval 1 34 v1 rfl rfl) h1
  have k2 := h2
  have lt2 : ∀ x ∈ p2, x.block < W.heap.size := by obtain ⟨m, hm⟩ := k2; exact DataW.trod_lt m _ _ _ hm
  obtain ⟨a2_0, a2_1, a2_2, a2_3, a2_4, a2_5, a2_6, a2_7, a2_8, a2_9, a2_10, a2_11, rfl, w2⟩ := open_seg (hval 2 39 v2 rfl rfl) h2
  clear hA0 hval0
  refine (walk a0_0 a0_1 a0_2 a0_3 a0_4 a0_5 a0_6 a0_7 a0_8 a0_9 a1_0 a1_1 a1_2 a1_3 a1_4 a1_5 a1_6 a1_7 a1_8 a1_9 a2_0 a2_1 a2_2 a2_3 a2_4 a2_5 a2_6 a2_7 a2_8 a2_9 a2_10 a2_11 W w0 w1 w2).mono fun e W' ⟨he, bel⟩ => ?_
  subst he
  exact ⟨_, rfl, _, _, _, [], _, [], hW', trodAll_mk1 (shut_bool Try.underlying4 _), (trodAll_cons_mk (Below.trod laidOut (by kernel_rfl) (of_decide_eq_true (by kernel_rfl)) k0 bel lt0) (trodAll_cons_mk (Below.trod laidOut (by kernel_rfl) (of_decide_eq_true (by kernel_rfl)) k1 bel lt1) (trodAll_cons_mk (Below.trod laidOut (by kernel_rfl) (of_decide_eq_true (by kernel_rfl)) k2 bel lt2) trodAll_mk0))), rfl, bel.frame _, fun h => by cases h⟩

theorem over : Rows.shiftBackRow.holds Try.pinned (OpenSpec.ofChange Rows.shiftBackSpec) :=
  OpenClaim.holds_of_wide 4 Try.f4 rfl rfl rfl rfl rfl rfl rfl ⟨rfl, rfl, rfl, rfl, rfl⟩ rfl rfl rfl rfl rfl (by kernel_rfl) Try.func4 (by kernel_rfl)
    (of_decide_eq_true (by kernel_rfl)) (by unfold Func.isWrapper; first | (rw [if_pos (by decide +kernel)]; kernel_rfl) | (rw [if_neg (by decide +kernel)]; exact ⟨rfl, rfl⟩))
    (fun os started H enc _ => lifted os started H enc)

/-- THE STATEMENT -/
theorem proved : Rows.ShiftBackSaid := over
#print axioms proved
end Go.Proofs.Ytgppkfdhfphoeaa.shiftBack
