/- Layer 7 (opt): the reference's add: to four bytes of a text, at a place. -/
import Derived.Test.YtimepplfaaddeaaOptPlaces
import Derived.Test.YtimepplfaaddeaaFlowW
set_option linter.unusedVariables false
set_option linter.unusedSimpArgs false
namespace Go.Proofs.Ytimepplfaaddeaa
open Go.RowKit Go.BigFrame

def addL (L : List UInt8) (k d : Nat) : List UInt8 := L.take k ++ be4 ((numL ((L.drop k).take 4) + d) % 4294967296) ++ L.drop (k + 4)
theorem ext_list (x : ByteArray) (L : List UInt8) (hx : x.data.toList = L) (a b : Nat) : x.extract a b = ⟨((L.drop a).take (b - a)).toArray⟩ := by
  apply ByteArray.ext
  rw [ByteArray.data_extract]
  apply Array.ext'
  rw [Array.toList_extract, List.extract_eq_take_drop, hx]
theorem cat3 (a b c : List UInt8) : ((⟨a.toArray⟩ : ByteArray) ++ ⟨b.toArray⟩) ++ ⟨c.toArray⟩ = ⟨(a ++ b ++ c).toArray⟩ := by
  apply ByteArray.ext
  simp [ByteArray.data_append]
theorem cat_run (a b : ByteArray) (h : a.size + b.size ≤ 100000) (W : World) : (Op.stringOp .add a b).run Try.prog W = .ok (.string (a ++ b)) W := by
  unfold Op.stringOp
  have e : IntKind.i64.max = 9223372036854775807 := rfl
  simp only []
  rw [if_neg (by rw [e]; omega)]
  rfl
set_option maxRecDepth 100000 in
set_option maxHeartbeats 4000000 in
theorem add_any (x : ByteArray) (L : List UInt8) (hx : x.data.toList = L) (k d : Nat) (hk : k + 4 ≤ L.length) (hm : L.length ≤ 1000) (hd : d < 4294967296) (w : World) :
    Calls Try.prog 32 #[.string x, .int .i64 (k : Int), .int .u32 (d : Int)] w fun e w' => e = .returned (.string ⟨(addL L k d).toArray⟩) ∧ Below w.heap.size w w' := by
  have hsz : x.size = L.length := by rw [← hx]; simp
  obtain ⟨N, hN⟩ : ∃ N, N = L.length := ⟨_, rfl⟩
  rw [← hN] at hsz
  have j1 : (k : Int) ≤ (N : Int) := by omega
  have j2 : (k : Int) + 4 ≤ (N : Int) := by omega
  have j3 : (0 : Int) ≤ (k : Int) + 4 := by omega
  have j4 : (k : Int) ≤ (k : Int) + 4 := by omega
  obtain ⟨q, hq⟩ : ∃ q, q = numL ((L.drop k).take 4) := ⟨_, rfl⟩
  have hqlt : q < 4294967296 := by rw [hq]; exact numL_lt _
  have hS0 : Fresh w w := Below.refl _ _
  have ne : Nonempty (Cls (Fresh w)) := ⟨⟨w, hS0⟩⟩
  have e2 : x.extract k (k + 4) = ⟨((L.drop k).take 4).toArray⟩ := by rw [ext_list x L hx, show k + 4 - k = 4 by omega]
  have n1 : ∀ y : Cls (Fresh w), Calls Try.prog 40 #[.string (x.extract k (k + 4))] y.w fun e w'' => e = .returned (.int .u32 (q : Int)) ∧ Fresh w w'' ∧ Below y.w.heap.size y.w w'' := fun y => (ref_num _ y.w (by simp [maxLen]; omega)).mono fun e w' ⟨he, hb⟩ => ⟨by rw [he, e2, hq], by rw [← hb]; exact y.h, by rw [← hb]; exact Below.refl _ _⟩
  have n2 : ∀ y : Cls (Fresh w), Calls Try.prog 35 #[.int .u32 (((q : Int) + (d : Int)) % 4294967296)] y.w fun e w'' => e = .returned (.string ⟨(be4 ((q + d) % 4294967296)).toArray⟩) ∧ Fresh w w'' ∧ Below y.w.heap.size y.w w'' := fun y => by
    have := ref_four ((q + d) % 4294967296) y.w (by omega)
    rw [show (((q + d) % 4294967296 : Nat) : Int) = ((q : Int) + (d : Int)) % 4294967296 by omega] at this
    exact this.mono fun e w' ⟨he, hb⟩ => ⟨he, Fresh.below y.h hb, hb⟩
  have c1 : ∀ (vals : Array Value) (w : World), (callFunc 40 vals).run Try.prog w = .ok (.enter 40 vals) w := fun _ _ => by kernel_rfl
  have c2 : ∀ (vals : Array Value) (w : World), (callFunc 35 vals).run Try.prog w = .ok (.enter 35 vals) w := fun _ _ => by kernel_rfl
  have hend : ((x.extract 0 k ++ ⟨(be4 ((q + d) % 4294967296)).toArray⟩) ++ x.extract (k + 4) N : ByteArray) = ⟨(addL L k d).toArray⟩ := by
    rw [ext_list x L hx, ext_list x L hx, cat3]
    unfold addL
    rw [← hq]
    congr 4
    exact List.take_of_length_le (by rw [List.length_drop]; omega)
  obtain ⟨F, hF0⟩ : ∃ F : ByteArray, F = ⟨(be4 ((q + d) % 4294967296)).toArray⟩ := ⟨_, rfl⟩
  rw [← hF0] at hend
  simp only [← hF0] at n2
  have hFs : F.size = 4 := by rw [hF0]; rfl
  have r1 := cat_run (x.extract 0 k) F (by simp; omega)
  have r2 := cat_run (x.extract 0 k ++ F) (x.extract (k + 4) N) (by simp; omega)
  have N1 := Lib.hid n1
  have N2 := Lib.hid n2
  have Hend := Lib.hid hend
  clear hend
  have Hq := Lib.hid hq
  clear hq
  have HN := Lib.hid hN
  clear hN
  have E2 := Lib.hid e2
  clear e2
  have C1 := Lib.hid c1
  clear c1
  have C2 := Lib.hid c2
  clear c2
  have Hx := Lib.hid hx
  clear hx
  have HF0 := Lib.hid hF0
  clear hF0
  have HFs := Lib.hid hFs
  clear hFs
  clear n1 n2
  go_enter Try.func32, Try.ntmps32
  go_upto_region 1 with fail
  refine wp_region_flow 18 (Fresh w) (fun w w' => Below w.heap.size w w') (by kernel_rfl) (by kernel_rfl) (by kernel_rfl) (fun w => Below.refl _ _) (Fresh.below hS0 (Below.drew (Below.refl _ _))) ?_
  simp only [List.take_succ_cons, List.take_zero, List.drop_succ_cons, List.drop_zero]
  repeat (first
    | (refine flow_quiet (fun w => Below.refl _ _) rfl rfl rfl rfl ?_; intro K hK; go_big_quiet_op; go_big_quiet_on)
    | (refine flow_call C1.out _ ?_ rfl rfl rfl _ N1.out w ?_; (focus (simp only [List.map_toArray, List.map_cons, List.map_nil]; rfl)); intro K hK; go_big_quiet_op; go_big_quiet_on)
    | (refine flow_call C2.out _ ?_ rfl rfl rfl _ N2.out w ?_; (focus (simp only [List.map_toArray, List.map_cons, List.map_nil]; rfl)); intro K hK; go_big_quiet_op; go_big_quiet_on))
  refine flow_nil ?_
  intro W5 ff hW5 hF5
  simp only [fillW]
  clear hF5
  go_wp2
  go_ret
  exact ⟨congrArg (fun z => Ending.returned (.string z)) Hend.out, hW5⟩
end Go.Proofs.Ytimepplfaaddeaa
