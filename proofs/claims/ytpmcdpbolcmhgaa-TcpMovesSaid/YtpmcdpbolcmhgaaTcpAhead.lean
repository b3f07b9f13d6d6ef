/- Contracts of layer 6 (tcp): ahead. -/
import Derived.Test.YtpmcdpbolcmhgaaTcpPlain
import Derived.Test.YtpmcdpbolcmhgaaFlat
import Derived.Deep.DeepCutAuto
set_option linter.unusedVariables false
set_option linter.unusedSimpArgs false
namespace Go.Proofs.Ytpmcdpbolcmhgaa
open Go.RowKit Go.BigFrame

set_option maxRecDepth 100000 in
set_option maxHeartbeats 4000000 in
theorem ahead_ok (s d n : Nat) (w : World) (h1 : s < 4294967296) (h2 : d < 4294967296) (h3 : n < 65536) :
    Calls Try.prog 28 #[.int .u32 (s : Int), .int .u32 (d : Int), .int .i64 (n : Int)] w fun e w' => e = .returned (.string ⟨(aheadL s d n).toArray⟩) ∧ Below w.heap.size w w' := by
  have b1 := fun W => high32 s W h1
  have b2 := fun W => high32 d W h2
  have b3 := fun W => high16 n W h3
  have wr : IntKind.u16.wrap (n : Int) = (n : Int) := by rw [IntKind.wrap_u16]; omega
  have B1 := Lib.hid b1
  clear b1
  have B2 := Lib.hid b2
  clear b2
  have B3 := Lib.hid b3
  clear b3
  go_enter Try.func28, Try.ntmps28
  go_upto_region 1 with fail
  have hS0 : OldS w w := Below.refl _ _
  have ne : Nonempty (Cls (OldS w)) := ⟨⟨w, hS0⟩⟩
  have cf : ∀ (vals : Array Value) (w : World), (callFunc 25 vals).run Try.prog w = .ok (.enter 25 vals) w := fun _ _ => by kernel_rfl
  have cf4 : ∀ (vals : Array Value) (w : World), (callFunc 26 vals).run Try.prog w = .ok (.enter 26 vals) w := fun _ _ => by kernel_rfl
  have r1 : ∀ W : World, (Instr.buildSlice 38 2 #[(0, .int .u8 0), (1, .int .u8 6)]).run Try.prog W = .ok (.slice (some ⟨W.heap.size, 0, none⟩) 2 2) (W.alloc (.cells #[.int .u8 0, .int .u8 6] 5)) := fun _ => by kernel_rfl
  have q1 : ∀ W u, isNew 5 #[.int .u8 0, .int .u8 6] 2 u W → (convert 38 9 u).run Try.prog W = .ok (.string ⟨#[0, 6]⟩) W := by
    rintro W u ⟨g, rfl, h⟩
    exact str_two 0 6 W g 2 h
  have Cf := Lib.hid cf
  clear cf
  have Cf4 := Lib.hid cf4
  clear cf4
  have R1 := Lib.hid r1
  clear r1
  have Q1 := Lib.hid q1
  clear q1
  have z2 : ∀ n, (be2 n).length = 2 := fun _ => rfl
  have z4 : ∀ n, (be4 n).length = 4 := fun _ => rfl
  refine wp_region_flat (OldS w) (fun w w' => Below w.heap.size w w') (by kernel_rfl) (by kernel_rfl) (fun w => Below.refl _ _) hS0.drew ?_
  repeat (first
    | (refine flat_quiet (fun w => Below.refl _ _) rfl rfl rfl rfl ?_; intro K hK; go_big_quiet_op; go_big_quiet_on)
    | (refine flat_call Cf4.out _ ?_ rfl rfl rfl _ (fun y => below_call OldS.below y (B1.out _)) w ?_; (focus (simp only [List.map_toArray, List.map_cons, List.map_nil]; rfl)); intro K hK; go_big_quiet_op; go_big_quiet_on)
    | (refine flat_call Cf4.out _ ?_ rfl rfl rfl _ (fun y => below_call OldS.below y (B2.out _)) w ?_; (focus (simp only [List.map_toArray, List.map_cons, List.map_nil]; rfl)); intro K hK; go_big_quiet_op; go_big_quiet_on)
    | (refine flat_call Cf.out _ ?_ rfl rfl rfl _ (fun y => below_call OldS.below y (B3.out _)) w ?_; (focus (simp only [List.map_toArray, List.map_cons, List.map_nil]; rfl)); intro K hK; go_big_quiet_op; go_big_quiet_on)
    | (refine flat_build (E := 5) _ ?_ _ R1.out OldS.below rfl rfl rfl w ?_; (focus (simp only [List.map_toArray, List.map_cons, List.map_nil]; rfl)); intro K hK; go_big_quiet_op; go_big_quiet_on)
    | (refine flat_conv ?_ List.mem_cons_self _ Q1.out (fun w => Below.refl _ _) rfl rfl rfl w ?_; (focus (simp)); intro K hK; go_big_quiet_op; go_big_quiet_on))
  refine flat_nil ?_
  intro W7 hW7 x1 _
  simp only [endF, Act.put, List.setIfInBounds_toArray, List.set_cons_succ, List.set_cons_zero]
  go_wp2
  go_ret
  refine ⟨?_, hW7⟩
  have e2 : (⟨(be4 s).toArray⟩ : ByteArray) ++ ⟨(be4 d).toArray⟩ ++ ⟨#[0, 6]⟩ ++ ⟨(be2 n).toArray⟩ = ⟨(aheadL s d n).toArray⟩ := by
    rw [show (⟨#[0, 6]⟩ : ByteArray) = ⟨[0, 6].toArray⟩ from rfl, str_cat, str_cat, str_cat]
    rfl
  rw [← e2]
  rfl
end Go.Proofs.Ytpmcdpbolcmhgaa
