/- The statement BufPieces: a part that is asked for is the same part of the whole; and what none has; for any text, any index, any place, any length. -/
import Derived.Test.YtbfmgdcnpefciaaBufWorks
import Derived.Deep.RegionHeld3
import Derived.Laws.Bits64
set_option linter.unusedVariables false
set_option linter.unusedSimpArgs false
namespace Go.Proofs.Ytbfmgdcnpefciaa.bufPieces
open Go.ChangeShapes Go.WideShapes Go.ChangeAt Go.RowKit
open Go.ChangeMaps (open_string shut_string)

def One (w : World) (b r f : Nat) (l : List UInt8) (W : World) : Prop := (∃ R, BufAt W b r f R l) ∧ Below w.heap.size w W
theorem One.below {w W W' : World} {b r f : Nat} {l : List UInt8} (h : One w b r f l W) (hb : Below W.heap.size W W') : One w b r f l W' := by
  obtain ⟨⟨R, h1⟩, h3⟩ := h
  exact ⟨⟨R, h1.below_ hb⟩, h3.trans (hb.mono h3.size)⟩
theorem One.drew {w W : World} {b r f : Nat} {l : List UInt8} (h : One w b r f l W) : One w b r f l W.drew := h.below (Below.drew (Below.refl _ _))
theorem getL_end (f : Nat) (l : List UInt8) (n : Int) : getL f l (f + l.length) n = [] := by unfold getL; rw [if_pos (.inr (.inl (Nat.le_refl _)))]
theorem getL_part (f k m : Nat) (n : Int) (s : ByteArray) (hk : k ≤ s.size) (h0 : 0 ≤ n) (hm : (m : Int) = min ((k : Int) + n) (s.size : Int)) : (⟨(getL f s.data.toList (f + k) n).toArray⟩ : ByteArray) = s.extract k m := by
  have hll : s.data.toList.length = s.size := rfl
  apply ByteArray.ext
  apply Array.toList_inj.1
  rw [ByteArray.data_extract, Array.toList_extract, List.extract_eq_take_drop]
  show getL f s.data.toList (f + k) n = _
  unfold getL
  split
  · rename_i h
    rcases h with h | h | h
    · omega
    · rw [List.drop_of_length_le (by omega), List.take_nil]
    · rw [show m - k = 0 by omega, List.take_zero]
  · rw [show f + k - f = k by omega]
    rcases Int.le_total ((k : Int) + n) (s.size : Int) with c | c
    · rw [show n.toNat = m - k by omega]
    · rw [List.take_of_length_le (by rw [List.length_drop]; omega), List.take_of_length_le (by rw [List.length_drop]; omega)]

set_option maxRecDepth 100000 in
set_option maxHeartbeats 4000000 in
theorem walk (a0 : ByteArray) (a1 a2 a3 : Int) (w : World) (w0 : a0.size ≤ maxLen) (w1 : (Lit.int .u32 a1).wf = true) (w2 : (Lit.int .u16 a2).wf = true) (w3 : (Lit.int .u16 a3).wf = true) :
    Calls Try.prog 5 #[.string a0, .int .u32 a1, .int .u16 a2, .int .u16 a3] w fun e w' => e = .returned (.bool true) ∧ Below w.heap.size w w' := by
  obtain ⟨l1, g1⟩ := bounds_u32 w1
  obtain ⟨l2, g2⟩ := bounds_u16 w2
  obtain ⟨l3, g3⟩ := bounds_u16 w3
  clear w1 w2 w3
  by_cases h1 : 8192 < a0.size
  · go_enter Try.func5, Try.ntmps5
    go_wp2_with fail
    (with_reducible refine (works_buf _).mono ?_)
    rintro e w3 ⟨rfl, hb3⟩
    go_wp2
    go_ret
    exact ⟨rfl, hb3⟩
  obtain ⟨f, rfl⟩ := Int.eq_ofNat_of_zero_le l1
  obtain ⟨k, hk⟩ : ∃ k : Nat, (k : Int) = min a2 (a0.size : Int) := ⟨(min a2 (a0.size : Int)).toNat, Int.toNat_of_nonneg (by omega)⟩
  obtain ⟨m, hm⟩ : ∃ m : Nat, (m : Int) = min ((k : Int) + a3) (a0.size : Int) := ⟨(min ((k : Int) + a3) (a0.size : Int)).toNat, Int.toNat_of_nonneg (by omega)⟩
  have hks : k ≤ a0.size := by omega
  have hkm : k ≤ m := by omega
  have hms : m ≤ a0.size := by omega
  have hgp := getL_part f k m a3 a0 hks l3 hm
  have hge := getL_end f a0.data.toList 5
  have hll : a0.data.toList.length = a0.size := rfl
  have N := fun w => new_v f 65536 (f : Int) 65536 rfl rfl w (by omega) (by omega)
  have HN := Lib.hid N
  have HK := Lib.hid hk
  have HM := Lib.hid hm
  have HGP := Lib.hid hgp
  have HGE := Lib.hid hge
  clear N hk hm hgp hge
  go_enter Try.func5, Try.ntmps5
  go_wp2_with fail
  (with_reducible refine (HN.out _).mono ?_)
  rintro e w3 ⟨rfl, hA, hB3, hs3⟩
  obtain ⟨b1, hb1⟩ : ∃ b, b = w.heap.size + 1 := ⟨_, rfl⟩
  obtain ⟨r1, hr1⟩ : ∃ r, r = w.heap.size := ⟨_, rfl⟩
  rw [← hb1, ← hr1] at hA
  rw [← hb1]
  have q1 : w.heap.size ≤ b1 ∧ w.heap.size ≤ r1 := by omega
  clear hb1 hr1 hs3
  go_wp2_with fail
  (with_reducible refine (put_v _ b1 r1 f _ [] a0 a0.size (a0.size : Int) a0.data.toList hA w0 (by omega) (by rw [List.length_replicate]; simp; omega) rfl (by rw [List.nil_append]; exact List.take_of_length_le (Nat.le_refl _))).mono ?_)
  rintro e w5 ⟨rfl, ⟨R1, e1, hA5⟩, K5⟩
  have kB5 := hB3.trans (K5.below q1.1 q1.2 hB3.size)
  clear hA hB3 K5
  have hT : One w b1 r1 f a0.data.toList w5 := ⟨⟨R1, hA5⟩, kB5⟩
  clear hA5 e1 kB5
  go_upto_region 7 with fail
  rw [← HK.out]
  go_upto_region 9 with fail
  rw [← HM.out]
  go_wp2_with fail
  (with_reducible refine (put_nil a0 _ w0).mono ?_)
  rintro e w' ⟨rfl, rfl⟩
  go_wp2_with fail
  (with_reducible refine (get_nil 1 1 _).mono ?_)
  rintro e w' ⟨rfl, rfl⟩
  go_wp2_with fail
  (with_reducible refine (drop_nil 9 _).mono ?_)
  rintro e w' ⟨rfl, rfl⟩
  go_wp2_with fail
  (with_reducible refine (from_nil _).mono ?_)
  rintro e w' ⟨rfl, rfl⟩
  go_wp2_with fail
  (with_reducible refine (to_nil _).mono ?_)
  rintro e w' ⟨rfl, rfl⟩
  go_wp2_with fail
  (with_reducible refine (room_nil _).mono ?_)
  rintro e w' ⟨rfl, rfl⟩
  have GA : ∀ W, One w b1 r1 f a0.data.toList W → Calls Try.prog 16 #[.pointer (some ⟨b1, 0, none⟩), .int .u64 ((f : Int) + (k : Int)), .int .i64 a3] W fun e w' => e = .returned (.string (a0.extract k m)) ∧ Below W.heap.size W w' := by
    intro W h
    obtain ⟨⟨R, h⟩, _⟩ := h
    exact get_v W b1 r1 f R _ (f + k) a3 _ _ h (by omega) (by omega) (by omega) (by omega) (by omega) HGP.out
  have GB : ∀ W, One w b1 r1 f a0.data.toList W → Calls Try.prog 16 #[.pointer (some ⟨b1, 0, none⟩), .int .u64 ((f : Int) + (a0.size : Int)), .int .i64 5] W fun e w' => e = .returned (.string ⟨#[]⟩) ∧ Below W.heap.size W w' := by
    intro W h
    obtain ⟨⟨R, h⟩, _⟩ := h
    exact get_v W b1 r1 f R _ (f + a0.size) 5 _ _ h (by omega) (by omega) (by omega) (by omega) (by omega) (by have := HGE.out; rw [hll] at this; rw [this])
  have HGA := Lib.hid GA
  have HGB := Lib.hid GB
  clear GA GB
  have s1 : (0 : Int) ≤ (k : Int) := by omega
  have s2 : (k : Int) ≤ (m : Int) := by omega
  have s3 : (m : Int) ≤ (a0.size : Int) := by omega
  have s4 : IntKind.u64.wrap ((f : Int) + (k : Int)) = (f : Int) + (k : Int) := by rw [IntKind.wrap_u64]; omega
  have s5 : IntKind.u64.wrap ((f : Int) + (a0.size : Int)) = (f : Int) + (a0.size : Int) := by rw [IntKind.wrap_u64]; omega
  have t1 : IntKind.u64.wrap (f : Int) = (f : Int) := by rw [IntKind.wrap_u64]; omega
  have t2 : IntKind.u64.wrap (k : Int) = (k : Int) := by rw [IntKind.wrap_u64]; omega
  have t3 : IntKind.i64.wrap a3 = a3 := by rw [IntKind.wrap_i64]; omega
  have t4 : IntKind.u64.wrap (a0.size : Int) = (a0.size : Int) := by rw [IntKind.wrap_u64]; omega
  go_upto_region 11 with fail
  go_region_held3 (fun w' => One w b1 r1 f a0.data.toList w') (first
    | exact One.drew (by assumption)
    | exact One.below (by assumption) hb) (first
    | (go_at_call 16; with_reducible refine (HGA.out _ ?_).mono ?_; (focus assumption); rintro e w' ⟨rfl, hb⟩)
    | (go_at_call 16; with_reducible refine (HGB.out _ ?_).mono ?_; (focus assumption); rintro e w' ⟨rfl, hb⟩)
    | (go_at_call 12; with_reducible refine (works_buf _).mono ?_; rintro e w' ⟨rfl, hb⟩))
  all_goals go_wp2
  all_goals go_ret
  all_goals exact ⟨rfl, And.right (by assumption : One w b1 r1 f a0.data.toList _)⟩

theorem own : ownKnob Try.prog.godebug = none := by kernel_rfl
theorem laidOut : laidOutB Try.prog = true := by kernel_rfl
set_option maxRecDepth 100000 in
theorem lifted (os : Os) (started : os.Started) (H : Type) (enc : TypeId × Value → H) :
    ReturnsInHanded {} Try.checked os 5 .any (Rows.bufPiecesSpec.pre6 enc Try.prog Try.f5 Rows.bufPiecesRow.domain false) (Rows.bufPiecesSpec.post enc Try.prog Try.f5 false true false false) := by
  refine returnsInHanded_of_change (C := Try.checked) own started (by kernel_rfl) Try.func5
    (ChangeSpec.witness6 (enc := enc) (C := Try.checked) false ⟨#[], #[.string ByteArray.empty, .int .u32 0, .int .u16 0, .int .u16 0], []⟩ 8 (by kernel_rfl) (by kernel_rfl) (by kernel_rfl) (by kernel_rfl)) ?_
  intro W base args ds gs before hval0 hW hcnd _
  have hval : ∀ (j : Nat) t v, Try.f5.params[j]? = some t → args[j]? = some v → Value.okWide Try.prog W .any base t v := hval0
  have hW' := hW
  obtain ⟨p, q, hA0, hV, rfl, hfz, hnd⟩ := hW
  have hA : DataW.TrodAll enc Try.prog W 0 (fun _ => true) true Try.f5.params.toList args.toList ds p := hA0
  rw [Try.params5] at hA hval
  obtain ⟨v0, vs0, d0, ds0, p0, q0, hargs, rfl, rfl, h0, r0⟩ := trodAll_cons hA
  obtain ⟨v1, vs1, d1, ds1, p1, q1, rfl, rfl, rfl, h1, r1⟩ := trodAll_cons r0
  obtain ⟨v2, vs2, d2, ds2, p2, q2, rfl, rfl, rfl, h2, r2⟩ := trodAll_cons r1
  obtain ⟨v3, vs3, d3, ds3, p3, q3, rfl, rfl, rfl, h3, r3⟩ := trodAll_cons r2
  obtain ⟨rfl, rfl, rfl⟩ := trodAll_nil r3
  obtain rfl : args = #[v0, v1, v2, v3] := by cases args; simp_all
  obtain ⟨rfl, rfl⟩ := trodVars_none hV
  obtain ⟨a0, rfl, rfl, rfl, w0⟩ := open_string Try.underlying9 (hval 0 9 v0 rfl rfl) h0
  obtain ⟨a1, rfl, rfl, rfl, w1⟩ := open_int Try.underlying44 (hval 1 44 v1 rfl rfl) h1
  obtain ⟨a2, rfl, rfl, rfl, w2⟩ := open_int Try.underlying41 (hval 2 41 v2 rfl rfl) h2
  obtain ⟨a3, rfl, rfl, rfl, w3⟩ := open_int Try.underlying41 (hval 3 41 v3 rfl rfl) h3
  clear hA0 hval0
  refine (walk a0 a1 a2 a3 W w0 w1 w2 w3).mono fun e W' ⟨he, bel⟩ => ?_
  subst he
  exact ⟨_, rfl, _, _, _, [], _, [], hW', trodAll_mk1 (shut_bool Try.underlying4 _), (trodAll_cons_mk (shut_string Try.underlying9 w0) (trodAll_cons_mk (shut_int Try.underlying44 w1) (trodAll_cons_mk (shut_int Try.underlying41 w2) (trodAll_cons_mk (shut_int Try.underlying41 w3) trodAll_mk0)))), rfl, bel.frame _, fun h => by cases h⟩

theorem over : Rows.bufPiecesRow.holds Try.pinned (OpenSpec.ofChange Rows.bufPiecesSpec) :=
  OpenClaim.holds_of_wide 5 Try.f5 rfl rfl rfl rfl rfl rfl rfl ⟨rfl, rfl, rfl, rfl, rfl⟩ rfl rfl rfl rfl rfl (by kernel_rfl) Try.func5 (by kernel_rfl)
    (of_decide_eq_true (by kernel_rfl)) (by unfold Func.isWrapper; first | (rw [if_pos (by decide +kernel)]; kernel_rfl) | (rw [if_neg (by decide +kernel)]; exact ⟨rfl, rfl⟩))
    (fun os started H enc _ => lifted os started H enc)

/-- THE STATEMENT -/
theorem proved : Rows.BufPiecesSaid := over
#print axioms proved
end Go.Proofs.Ytbfmgdcnpefciaa.bufPieces
