/- Layer 31 (trace): the examples that the document fixes. -/
import Derived.Test.YtcdbbdjabccjdaaTraceL
set_option linter.unusedVariables false
set_option linter.unusedSimpArgs false
namespace Go.Proofs.Ytcdbbdjabccjdaa
open Go.RowKit Go.BigFrame Go.ChangeMaps

def acts5 : List AAct := [⟨0, 1, ⟨#[]⟩⟩, ⟨1, 2, ⟨#[]⟩⟩, ⟨0, 3, ⟨#[97, 98]⟩⟩, ⟨0, 5, ⟨#[]⟩⟩, ⟨1, 6, ⟨#[]⟩⟩]
def acts2 : List AAct := [⟨0, 1, ⟨#[]⟩⟩, ⟨0, 8, ⟨#[]⟩⟩]
theorem all7 : allM T0 actsL 0 = (7, 0) := by rfl
theorem all5 : allM T0 acts5 0 = (4, 3) := by rfl
theorem all2 : allM T0 acts2 0 = (1, 3) := by rfl
theorem small_of {l : List AAct} (h : ∀ x ∈ l, x.s.size ≤ 4194304) (k : Nat) : (l.getD k aNil).s.size ≤ 4194304 := by
  by_cases hk : k < l.length
  · have : l.getD k aNil = l[k] := by simp [List.getD, List.getElem?_eq_getElem hk]
    rw [this]
    exact h _ (List.getElem_mem hk)
  · have : l.getD k aNil = aNil := by simp [List.getD, List.getElem?_eq_none (Nat.le_of_not_lt hk)]
    rw [this]
    decide
theorem alive31 (w : World) : Calls Try.prog 10 #[] w fun e w' => e = .returned (.bool true) ∧ Below w.heap.size w w' := by
  have hb0 : Below w.heap.size w w := Below.refl _ _
  have HB := Lib.hid hb0
  clear hb0
  go_enter Try.func10, Try.ntmps10
  go_wp2_with fail
  (with_reducible refine (acts_at _).mono ?_)
  rintro e w1 ⟨g, rfl, hg, hG, hB⟩
  have hall := fun W (h : ARow W (some ⟨g, 0, none⟩) 7 actsL) => all_at W (some ⟨g, 0, none⟩) 7 7 actsL h (by decide) (small_of (by decide))
  rw [all7] at hall
  have hrow := arow_of hG
  have hc := hall _ hrow
  clear HB
  have HB := Lib.hid hB
  clear hB
  have Hc := Lib.hid hc
  clear hc
  clear hall hrow hG hg
  go_wp2_with fail
  refine Hc.out.mono ?_
  rintro e w2 ⟨rfl, hb2⟩
  have hB2 := HB.out.trans (hb2.mono HB.out.size)
  clear HB Hc hb2
  have HB := Lib.hid hB2
  clear hB2
  go_wp2_with fail
  (with_reducible refine (acts_at _).mono ?_)
  rintro e w3 ⟨x, rfl, hx, hX, hb3⟩
  have hB3 := HB.out.trans (hb3.mono HB.out.size)
  clear HB hb3
  have HB := Lib.hid hB3
  clear hB3
  have hall5 := fun W y (h : Blk W y 36 (actCells acts5)) => all_at W (some ⟨y, 0, none⟩) 5 5 acts5 (arow_of h) (by decide) (small_of (by decide))
  rw [all5] at hall5
  have hX2 : Blk w3 x 36 #[.int .i64 0, .int .u8 1, .string ⟨#[]⟩, .int .i64 1, .int .u8 2, .string ⟨#[]⟩, .int .i64 0, .int .u8 3, .string ⟨#[97, 98]⟩, .int .i64 1, .int .u8 4, .string ⟨#[97]⟩, .int .i64 1, .int .u8 4, .string ⟨#[98]⟩, .int .i64 0, .int .u8 5, .string ⟨#[]⟩, .int .i64 1, .int .u8 6, .string ⟨#[]⟩] := hX
  have hS0 : KeepS w3 x 36 #[.int .i64 0, .int .u8 1, .string ⟨#[]⟩, .int .i64 1, .int .u8 2, .string ⟨#[]⟩, .int .i64 0, .int .u8 3, .string ⟨#[97, 98]⟩, .int .i64 1, .int .u8 4, .string ⟨#[97]⟩, .int .i64 1, .int .u8 4, .string ⟨#[98]⟩, .int .i64 0, .int .u8 5, .string ⟨#[]⟩, .int .i64 1, .int .u8 6, .string ⟨#[]⟩] w3 := ⟨Below.refl _ _, hX2⟩
  generalize hS : KeepS w3 x 36 #[.int .i64 0, .int .u8 1, .string ⟨#[]⟩, .int .i64 1, .int .u8 2, .string ⟨#[]⟩, .int .i64 0, .int .u8 3, .string ⟨#[97, 98]⟩, .int .i64 1, .int .u8 4, .string ⟨#[97]⟩, .int .i64 1, .int .u8 4, .string ⟨#[98]⟩, .int .i64 0, .int .u8 5, .string ⟨#[]⟩, .int .i64 1, .int .u8 6, .string ⟨#[]⟩] = S at *
  have hSb : ∀ w w', S w → Below w.heap.size w w' → S w' := by rw [← hS]; exact KeepS.below
  have hSd : S w3.drew := by rw [← hS] at hS0 ⊢; exact KeepS.drew hS0
  have hSi : ∀ W, S W → Blk W x 36 #[.int .i64 0, .int .u8 1, .string ⟨#[]⟩, .int .i64 1, .int .u8 2, .string ⟨#[]⟩, .int .i64 0, .int .u8 3, .string ⟨#[97, 98]⟩, .int .i64 1, .int .u8 4, .string ⟨#[97]⟩, .int .i64 1, .int .u8 4, .string ⟨#[98]⟩, .int .i64 0, .int .u8 5, .string ⟨#[]⟩, .int .i64 1, .int .u8 6, .string ⟨#[]⟩] := by rw [← hS]; exact fun W h => h.2
  have hSB : ∀ W, S W → Below w3.heap.size w3 W := by rw [← hS]; exact fun W h => h.1
  have ne : Nonempty (Cls S) := ⟨⟨w3, hS0⟩⟩
  have k0 : ∀ y : Cls S, y.w.cell? ⟨x, 0, none⟩ = some (.int .i64 0) := fun y => (hSi _ y.h).cell 0
  have k1 : ∀ y : Cls S, y.w.cell? ⟨x, 1, none⟩ = some (.int .u8 1) := fun y => (hSi _ y.h).cell 1
  have k2 : ∀ y : Cls S, y.w.cell? ⟨x, 2, none⟩ = some (.string ⟨#[]⟩) := fun y => (hSi _ y.h).cell 2
  have k3 : ∀ y : Cls S, y.w.cell? ⟨x, 3, none⟩ = some (.int .i64 1) := fun y => (hSi _ y.h).cell 3
  have k4 : ∀ y : Cls S, y.w.cell? ⟨x, 4, none⟩ = some (.int .u8 2) := fun y => (hSi _ y.h).cell 4
  have k5 : ∀ y : Cls S, y.w.cell? ⟨x, 5, none⟩ = some (.string ⟨#[]⟩) := fun y => (hSi _ y.h).cell 5
  have k6 : ∀ y : Cls S, y.w.cell? ⟨x, 6, none⟩ = some (.int .i64 0) := fun y => (hSi _ y.h).cell 6
  have k7 : ∀ y : Cls S, y.w.cell? ⟨x, 7, none⟩ = some (.int .u8 3) := fun y => (hSi _ y.h).cell 7
  have k8 : ∀ y : Cls S, y.w.cell? ⟨x, 8, none⟩ = some (.string ⟨#[97, 98]⟩) := fun y => (hSi _ y.h).cell 8
  have k15 : ∀ y : Cls S, y.w.cell? ⟨x, 15, none⟩ = some (.int .i64 0) := fun y => (hSi _ y.h).cell 15
  have k16 : ∀ y : Cls S, y.w.cell? ⟨x, 16, none⟩ = some (.int .u8 5) := fun y => (hSi _ y.h).cell 16
  have k17 : ∀ y : Cls S, y.w.cell? ⟨x, 17, none⟩ = some (.string ⟨#[]⟩) := fun y => (hSi _ y.h).cell 17
  have k18 : ∀ y : Cls S, y.w.cell? ⟨x, 18, none⟩ = some (.int .i64 1) := fun y => (hSi _ y.h).cell 18
  have k19 : ∀ y : Cls S, y.w.cell? ⟨x, 19, none⟩ = some (.int .u8 6) := fun y => (hSi _ y.h).cell 19
  have k20 : ∀ y : Cls S, y.w.cell? ⟨x, 20, none⟩ = some (.string ⟨#[]⟩) := fun y => (hSi _ y.h).cell 20
  have cf : ∀ (vals : Array Value) (w : World), (callFunc 18 vals).run Try.prog w = .ok (.enter 18 vals) w := fun _ _ => by kernel_rfl
  have r5 : ∀ W : World, (Instr.buildSlice 22 5 #[(0, .agg #[.int .i64 0, .int .u8 1, .string ⟨#[]⟩]), (1, .agg #[.int .i64 1, .int .u8 2, .string ⟨#[]⟩]), (2, .agg #[.int .i64 0, .int .u8 3, .string ⟨#[97, 98]⟩]), (3, .agg #[.int .i64 0, .int .u8 5, .string ⟨#[]⟩]), (4, .agg #[.int .i64 1, .int .u8 6, .string ⟨#[]⟩])]).run Try.prog W = .ok (.slice (some ⟨W.heap.size, 0, none⟩) 5 5) (W.alloc (.cells (actCells acts5) 36)) := fun _ => by kernel_rfl
  have hc5 : ∀ (y : Cls S) (u : Value), newRow 36 (actCells acts5) 5 [u] y.w → Calls Try.prog 18 #[u] y.w fun e w'' => e = .returned (.tuple #[.int .i64 4, .int .i64 3]) ∧ S w'' ∧ Below y.w.heap.size y.w w'' := by
    rintro y u ⟨gg, hu, hb⟩
    injection hu with hu
    subst hu
    exact (hall5 _ _ hb).mono fun e w' ⟨he, hw⟩ => ⟨he, hSb _ _ y.h hw, hw⟩
  have Cf := Lib.hid cf
  have R5 := Lib.hid r5
  have Hc5 := Lib.hid hc5
  have HSb := Lib.hid hSb
  clear cf r5 hc5 hSb
  have HSi := Lib.hid hSi
  have HSB := Lib.hid hSB
  clear hSi hSB
  clear hall5 hS hX hX2
  go_upto_region 3 with fail
  refine wp_region_flow 22 S (fun w w' => Below w.heap.size w w') (by kernel_rfl) (by kernel_rfl) (by kernel_rfl) (fun w => Below.refl _ _) hSd ?_
  simp only [List.take_succ_cons, List.take_zero, List.drop_succ_cons, List.drop_zero]
  repeat (refine flow_quiet (fun w => Below.refl _ _) rfl rfl rfl rfl ?_; intro K hK; go_big_quiet_op; go_big_quiet_on)
  refine flow_build (E := 36) _ ?_ _ R5.out HSb.out rfl rfl rfl w3 ?_
  · simp only [List.map_toArray, List.map_cons, List.map_nil]; rfl
  intro K hK; go_big_quiet_op; go_big_quiet_on
  refine flow_call1 Cf.out _ 0 rfl rfl rfl (by simp) Hc5.out rfl rfl w3 ?_
  intro K hK; go_big_quiet_op; go_big_quiet_on
  repeat (refine flow_quiet (fun w => Below.refl _ _) rfl rfl rfl rfl ?_; intro K hK; go_big_quiet_op; go_big_quiet_on)
  refine flow_nil ?_
  intro W f hW hF
  simp only [fillW, Act.put, List.setIfInBounds_toArray, List.set_cons_succ, List.set_cons_zero]
  have hX := HSi.out W hW
  have hB := HB.out.trans ((HSB.out W hW).mono HB.out.size)
  clear HB
  have HX := Lib.hid hX
  have HB := Lib.hid hB
  clear hX hB hF hW k0 k1 k2 k3 k4 k5 k6 k7 k8 k15 k16 k17 k18 k19 k20 ne hS0 hSd Cf R5 Hc5 HSb HSi HSB
  have hall2 := fun W y (h : Blk W y 36 (actCells acts2)) => all_at W (some ⟨y, 0, none⟩) 2 2 acts2 (arow_of h) (by decide) (small_of (by decide))
  rw [all2] at hall2
  have hN : Blk (W.alloc (.cells #[.int .i64 0, .int .u8 1, .string ⟨#[]⟩, .int .i64 0, .int .u8 8, .string ⟨#[]⟩] 36)) W.heap.size 36 (actCells acts2) := Blk.new _ _ _
  have hc2 := hall2 _ _ hN
  have hB := HB.out.alloc HB.out.size (.cells #[.int .i64 0, .int .u8 1, .string ⟨#[]⟩, .int .i64 0, .int .u8 8, .string ⟨#[]⟩] 36)
  have hX := HX.out.alloc (.cells #[.int .i64 0, .int .u8 1, .string ⟨#[]⟩, .int .i64 0, .int .u8 8, .string ⟨#[]⟩] 36)
  have q0 := HX.out.cell 0
  have q1 := HX.out.cell 1
  have q2 := HX.out.cell 2
  simp at q0 q1 q2
  clear HX HB hall2 hN
  have HX := Lib.hid hX
  have HB := Lib.hid hB
  have Hc2 := Lib.hid hc2
  clear hX hB hc2
  go_wp2_with fail
  refine Hc2.out.mono ?_
  rintro e w4 ⟨rfl, hb4⟩
  have hX := HX.out.below hb4 HX.out.lt
  have hB := HB.out.trans (hb4.mono HB.out.size)
  clear HX HB Hc2 hb4 q0 q1 q2
  have HX := Lib.hid hX
  have HB := Lib.hid hB
  clear hX hB
  go_wp2_with fail
  (with_reducible refine (new_at _).mono ?_)
  rintro e w5 ⟨b, rfl, hb, ht, hb5⟩
  have hX := HX.out.below hb5 HX.out.lt
  have hB := HB.out.trans (hb5.mono HB.out.size)
  have hxb := Blk.ne_ hX ht (by decide)
  have hbw := Nat.le_trans HB.out.size hb
  clear HX HB hb5 hb
  have q0 := hX.cell 0
  have q1 := hX.cell 1
  have q2 := hX.cell 2
  simp at q0 q1 q2
  have hd := do_at w5 b T0 0 1 ⟨#[]⟩ ht szd_0 (by decide)
  have hT1 : doM T0 0 1 ⟨#[]⟩ = (0, { T0 with s0 := { T0.s0 with opn := true } }) := by rfl
  rw [hT1] at hd
  have HX := Lib.hid hX
  have HB := Lib.hid hB
  have Hd := Lib.hid hd
  clear hX hB ht hd hT1 hxb hx
  go_wp2_with fail
  refine Hd.out.mono ?_
  rintro e w6 ⟨rfl, ht6, hg6⟩
  have hB := below_only HB.out hg6 hbw HB.out.size
  have hd := do_at w6 b _ 0 9 ⟨#[]⟩ ht6 (szd_do T0 0 1 ⟨#[]⟩ szd_0) (by decide)
  have hT2 : doM (doM T0 0 1 ⟨#[]⟩).2 0 9 ⟨#[]⟩ = (0, { ({ T0 with s0 := { T0.s0 with opn := true } } : Tr) with cause := true }) := by rfl
  rw [show doM { T0 with s0 := { T0.s0 with opn := true } } 0 9 ⟨#[]⟩ = _ from hT2] at hd
  clear HX HB Hd hg6 q0 q1 q2 ht6 hT2
  have HB := Lib.hid hB
  have Hd := Lib.hid hd
  clear hB hd
  go_wp2_with fail
  refine Hd.out.mono ?_
  rintro e w7 ⟨rfl, ht7, hg7⟩
  have hB := below_only HB.out hg7 hbw HB.out.size
  have hd := do_at w7 b _ 0 8 ⟨#[]⟩ ht7 (szd_do _ 0 9 ⟨#[]⟩ (szd_do T0 0 1 ⟨#[]⟩ szd_0)) (by decide)
  have hT3 : doM (doM (doM T0 0 1 ⟨#[]⟩).2 0 9 ⟨#[]⟩).2 0 8 ⟨#[]⟩ = (0, (⟨⟨true, ⟨#[]⟩, 0, false, false, true⟩, ⟨false, ⟨#[]⟩, 0, false, false, false⟩, true⟩ : Tr)) := by rfl
  rw [show doM { ({ T0 with s0 := { T0.s0 with opn := true } } : Tr) with cause := true } 0 8 ⟨#[]⟩ = _ from hT3] at hd
  clear HB Hd hg7 ht7 hT3
  have HB := Lib.hid hB
  have Hd := Lib.hid hd
  clear hB hd
  go_wp2_with fail
  refine Hd.out.mono ?_
  rintro e w8 ⟨rfl, ht8, hg8⟩
  have hB := below_only HB.out hg8 hbw HB.out.size
  have hs : Calls Try.prog 14 #[.pointer (some ⟨b, 0, none⟩), .int .i64 0] w8 fun e w' => e = .returned (.agg #[.bool true, .string ⟨#[]⟩, .int .i64 0, .bool false, .bool false, .bool true]) ∧ Below w8.heap.size w8 w' := side_0 w8 b _ ht8
  clear HB Hd hg8
  have HB := Lib.hid hB
  have Hs := Lib.hid hs
  have Ht := Lib.hid ht8
  clear hB hs ht8
  go_wp2_with fail
  refine Hs.out.mono ?_
  rintro e w9 ⟨rfl, hb9⟩
  have hB := HB.out.trans (hb9.mono HB.out.size)
  have ht : TrAt w9 b _ := Ht.out.below hb9 Ht.out.lt
  have hc := cause_at w9 b _ ht
  have ho := over_at w9 b _ ht
  clear HB Hs Ht hb9 ht
  have HB := Lib.hid hB
  have Hc := Lib.hid hc
  have Ho := Lib.hid ho
  clear hB hc ho
  have hfield : ∀ W, (Instr.field 29 (.agg #[.bool true, .string ⟨#[]⟩, .int .i64 0, .bool false, .bool false, .bool true]) 5).run Try.prog W = .ok (.bool true) W := fun _ => by kernel_rfl
  go_wp2_with fail
  refine Hc.out.mono ?_
  rintro e w10 ⟨rfl, rfl⟩
  go_wp2_with fail
  refine Ho.out.mono ?_
  rintro e w11 ⟨rfl, hb11⟩
  have hB := HB.out.trans (hb11.mono HB.out.size)
  have HB := Lib.hid hB
  clear hB hb11
  go_wp2
  go_ret
  exact ⟨rfl, HB.out⟩
end Go.Proofs.Ytcdbbdjabccjdaa
