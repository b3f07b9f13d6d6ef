/- The examples of layer 3 (sum) that the document fixes: alive answers true. The document's Turns. -/
import Derived.Test.YtcfomapeiaobaaaSumTurns
import Derived.Deep.RegionHeld3
set_option linter.unusedVariables false
set_option linter.unusedSimpArgs false
namespace Go.Proofs.Ytcfomapeiaobaaa
open Go.RowKit Go.Shelf

theorem Blk.newB (w : World) (o : Obj) (t : TypeId) (cs : Array Value) : Blk ((w.alloc o).alloc (.cells cs t)) (w.heap.size + 1) t cs := by
  have := Blk.new (w.alloc o) t cs
  rwa [World.size_alloc] at this
theorem of_lit (ss : List ByteArray) (v : Int) (hv : ((ofL (catS ss) : Nat) : Int) = v) (hz : ∀ s ∈ ss, s.size ≤ maxLen) (g n m : Nat) (W : World) (hn : ss.length = n) (hm : n ≤ 9223372036854775807) (hb : Blk W g 9 (ss.map Value.string).toArray) :
    Calls Try.prog 36 #[.slice (some ⟨g, 0, none⟩) n m] W fun e w' => e = .returned (.int .u16 v) ∧ Below W.heap.size W w' := by
  subst hv
  exact of_any _ n m ss hn hm hz W (Reads.of_blk hb hb.lt _ (by simp) _ (by simp [hn]))
theorem right_lit (ss : List ByteArray) (v : Bool) (hv : ((ofL (catS ss) : Int) == 0) = v) (hz : ∀ s ∈ ss, s.size ≤ maxLen) (g n m : Nat) (W : World) (hn : ss.length = n) (hm : n ≤ 9223372036854775807) (hb : Blk W g 9 (ss.map Value.string).toArray) :
    Calls Try.prog 38 #[.slice (some ⟨g, 0, none⟩) n m] W fun e w' => e = .returned (.bool v) ∧ Below W.heap.size W w' := by
  subst hv
  exact right_any _ n m ss hn hm hz W (Reads.of_blk hb hb.lt _ (by simp) _ (by simp [hn]))
theorem of_nil (W : World) : Calls Try.prog 36 #[.slice none 0 0] W fun e w' => e = .returned (.int .u16 65535) ∧ Below W.heap.size W w' :=
  of_any none 0 0 [] rfl (by omega) (by simp) W (Reads.none_)

theorem turn_lit (a b c : Nat) (A B C V : Int) (hA : (a : Int) = A) (hB : (b : Int) = B) (hC : (c : Int) = C) (hv : ((turnL a b c : Nat) : Int) = V) (w : World) (ha : a < 65536) (hb : b < 65536) (hc : c < 65536) :
    Calls Try.prog 41 #[.int .u16 A, .int .u16 B, .int .u16 C] w fun e w' => e = .returned (.int .u16 V) ∧ Below w.heap.size w w' := by
  subst hA hB hC hv
  exact turn_below a b c w ha hb hc
theorem join_lit (a b : Nat) (A B V : Int) (hA : (a : Int) = A) (hB : (b : Int) = B) (hv : ((joinL a b : Nat) : Int) = V) (w : World) (ha : a < 65536) (hb : b < 65536) :
    Calls Try.prog 39 #[.int .u16 A, .int .u16 B] w fun e w' => e = .returned (.int .u16 V) ∧ Below w.heap.size w w' := by
  subst hA hB hv
  exact join_any a b w ha hb
theorem turns_lit (a : Nat) (x y : ByteArray) (A V : Int) (hA : (a : Int) = A) (hv : ((turnsL a ((wordsL (x.data.toList.take (min x.size y.size))).zip (wordsL (y.data.toList.take (min x.size y.size)))) : Nat) : Int) = V) (w : World) (ha : a < 65536) (hx : x.size ≤ 1099511627776) (hy : y.size ≤ 1099511627776) :
    Calls Try.prog 43 #[.int .u16 A, .string x, .string y] w fun e w' => e = .returned (.int .u16 V) ∧ Below w.heap.size w w' := by
  subst hA hv
  exact turns_any a x y ha hx hy w

set_option maxRecDepth 100000 in
set_option maxHeartbeats 4000000 in
theorem alive_sum (w : World) : Calls Try.prog 35 #[] w fun e w' => e = .returned (.bool true) ∧ Below w.heap.size w w' := by
  obtain ⟨s, hs⟩ : ∃ s : ByteArray, s = ⟨#[0, 1, 242, 3, 244, 245, 246, 247]⟩ := ⟨_, rfl⟩
  have hsz : s.size = 8 := by rw [hs]; rfl
  have v1 : ((ofL (catS [s]) : Nat) : Int) = 8717 := by subst hs; decide +kernel
  have v2 : ((ofL (catS [s.extract 0 3, s.extract 3 8]) : Nat) : Int) = 8717 := by subst hs; decide +kernel
  have v4 : ((ofL (catS [⟨#[1]⟩]) : Nat) : Int) = 65279 := by decide +kernel
  have v5 : ((ofL (catS [s, ⟨#[34, 13]⟩]) : Int) == 0) = true := by subst hs; decide +kernel
  have v6 : ((ofL (catS [s]) : Int) == 0) = false := by subst hs; decide +kernel
  have v7 : ((turnL 56623 21845 12933 : Nat) : Int) = 0 := by decide +kernel
  have v8 : ((ofL (catS [s.extract 0 4]) : Nat) : Int) = 3579 := by subst hs; decide +kernel
  have v9 : ((ofL (catS [s.extract 4 8]) : Nat) : Int) = 5138 := by subst hs; decide +kernel
  have v10 : ((joinL 3579 5138 : Nat) : Int) = 8717 := by decide +kernel
  have v11 : ((turnsL 8717 ((wordsL ((⟨#[0, 1]⟩ : ByteArray).data.toList.take (min (⟨#[0, 1]⟩ : ByteArray).size (⟨#[0, 2]⟩ : ByteArray).size))).zip (wordsL ((⟨#[0, 2]⟩ : ByteArray).data.toList.take (min (⟨#[0, 1]⟩ : ByteArray).size (⟨#[0, 2]⟩ : ByteArray).size)))) : Nat) : Int) = 8716 := by decide +kernel
  have z1 : s.size ≤ maxLen := by unfold maxLen; omega
  have z2 : ∀ i j, (s.extract i j).size ≤ maxLen := by intro i j; unfold maxLen; simp; omega
  have z3 : ((⟨#[1]⟩ : ByteArray)).size ≤ maxLen := by decide
  have z4 : ((⟨#[34, 13]⟩ : ByteArray)).size ≤ maxLen := by decide
  have o1 := fun g W (h : Blk W g 9 #[.string s]) => of_lit [s] _ v1 (by simp [z1]) g 1 1 W rfl (by omega) h
  have o2 := fun g W (h : Blk W g 9 #[.string (s.extract 0 3), .string (s.extract 3 8)]) => of_lit [s.extract 0 3, s.extract 3 8] _ v2 (by simp only [List.mem_cons, List.not_mem_nil, or_false]; rintro x (rfl | rfl) <;> exact z2 _ _) g 2 2 W rfl (by omega) h
  have o4 := fun g W (h : Blk W g 9 #[.string ⟨#[1]⟩]) => of_lit [⟨#[1]⟩] _ v4 (by simp [z3]) g 1 1 W rfl (by omega) h
  have o8 := fun g W (h : Blk W g 9 #[.string (s.extract 0 4)]) => of_lit [s.extract 0 4] _ v8 (by simp only [List.mem_cons, List.not_mem_nil, or_false]; rintro x rfl; exact z2 _ _) g 1 1 W rfl (by omega) h
  have o9 := fun g W (h : Blk W g 9 #[.string (s.extract 4 8)]) => of_lit [s.extract 4 8] _ v9 (by simp only [List.mem_cons, List.not_mem_nil, or_false]; rintro x rfl; exact z2 _ _) g 1 1 W rfl (by omega) h
  have r5 := fun g W (h : Blk W g 9 #[.string s, .string ⟨#[34, 13]⟩]) => right_lit [s, ⟨#[34, 13]⟩] _ v5 (by simp only [List.mem_cons, List.not_mem_nil, or_false]; rintro x (rfl | rfl) <;> assumption) g 2 2 W rfl (by omega) h
  have r6 := fun g W (h : Blk W g 9 #[.string s]) => right_lit [s] _ v6 (by simp [z1]) g 1 1 W rfl (by omega) h
  have t7 := fun w => turn_lit 56623 21845 12933 56623 21845 12933 _ rfl rfl rfl v7 w (by omega) (by omega) (by omega)
  have j10 := fun w => join_lit 3579 5138 3579 5138 _ rfl rfl v10 w (by omega) (by omega)
  have t11 := fun w => turns_lit 8717 ⟨#[0, 1]⟩ ⟨#[0, 2]⟩ 8717 _ rfl v11 w (by omega) (by decide) (by decide)
  clear v1 v2 v4 v5 v6 v7 v8 v9 v10 v11 z1 z2 z3 z4
  have O1 := Lib.hid o1
  clear o1
  have O2 := Lib.hid o2
  clear o2
  have O4 := Lib.hid o4
  clear o4
  have O8 := Lib.hid o8
  clear o8
  have O9 := Lib.hid o9
  clear o9
  have R5 := Lib.hid r5
  clear r5
  have R6 := Lib.hid r6
  clear r6
  have T7 := Lib.hid t7
  clear t7
  have J10 := Lib.hid j10
  clear j10
  have T11 := Lib.hid t11
  clear t11
  go_enter Try.func35, Try.ntmps35
  rw [← hs]
  have HS := Lib.hid hs
  clear hs
  go_wp2_with fail
  go_region_held3 (fun w' => Below w.heap.size w w') (first
    | exact Below.drew (Below.refl _ _)
    | exact Below.alloc (by assumption) (Below.size (by assumption)) _
    | exact Below.trans (by assumption) (Below.mono hb (Below.size (by assumption)))) (first
    | (go_at_call 36; with_reducible refine (O1.out _ _ ?_).mono ?_; (first | (with_reducible exact Blk.new _ _ _) | (with_reducible exact Blk.drew (Blk.new _ _ _))); rintro e w' ⟨rfl, hb⟩)
    | (go_at_call 36; with_reducible refine (O2.out _ _ ?_).mono ?_; (first | (with_reducible exact Blk.new _ _ _) | (with_reducible exact Blk.drew (Blk.new _ _ _))); rintro e w' ⟨rfl, hb⟩)
    | (go_at_call 36; with_reducible refine (of_nil _).mono ?_; rintro e w' ⟨rfl, hb⟩)
    | (go_at_call 36; with_reducible refine (O4.out _ _ ?_).mono ?_; (first | (with_reducible exact Blk.new _ _ _) | (with_reducible exact Blk.drew (Blk.new _ _ _))); rintro e w' ⟨rfl, hb⟩)
    | (go_at_call 36; with_reducible refine (O8.out _ _ ?_).mono ?_; (first | (with_reducible exact Blk.new _ _ _) | (with_reducible exact Blk.alloc (Blk.new _ _ _) _) | (with_reducible exact Blk.newB _ _ _ _) | ((with_reducible refine Blk.below (Blk.new _ _ _) hb ?_); focus (simp <;> omega)) | ((with_reducible refine Blk.below (Blk.alloc (Blk.new _ _ _) _) hb ?_); focus (simp <;> omega)) | ((with_reducible refine Blk.below (Blk.newB _ _ _ _) hb ?_); focus (simp <;> omega))); rintro e w' ⟨rfl, hb⟩)
    | (go_at_call 36; with_reducible refine (O9.out _ _ ?_).mono ?_; (first | (with_reducible exact Blk.new _ _ _) | (with_reducible exact Blk.alloc (Blk.new _ _ _) _) | (with_reducible exact Blk.newB _ _ _ _) | ((with_reducible refine Blk.below (Blk.new _ _ _) hb ?_); focus (simp <;> omega)) | ((with_reducible refine Blk.below (Blk.alloc (Blk.new _ _ _) _) hb ?_); focus (simp <;> omega)) | ((with_reducible refine Blk.below (Blk.newB _ _ _ _) hb ?_); focus (simp <;> omega))); rintro e w' ⟨rfl, hb⟩)
    | (go_at_call 38; with_reducible refine (R5.out _ _ ?_).mono ?_; (first | (with_reducible exact Blk.new _ _ _) | (with_reducible exact Blk.drew (Blk.new _ _ _))); rintro e w' ⟨rfl, hb⟩)
    | (go_at_call 38; with_reducible refine (R6.out _ _ ?_).mono ?_; (first | (with_reducible exact Blk.new _ _ _) | (with_reducible exact Blk.drew (Blk.new _ _ _))); rintro e w' ⟨rfl, hb⟩)
    | (go_at_call 41; with_reducible refine (T7.out _).mono ?_; rintro e w' ⟨rfl, hb⟩)
    | (go_at_call 39; with_reducible refine (J10.out _).mono ?_; rintro e w' ⟨rfl, hb⟩)
    | (go_at_call 43; with_reducible refine (T11.out _).mono ?_; rintro e w' ⟨rfl, hb⟩))
  all_goals go_wp2
  all_goals go_ret
  all_goals exact ⟨rfl, by assumption⟩
end Go.Proofs.Ytcfomapeiaobaaa
