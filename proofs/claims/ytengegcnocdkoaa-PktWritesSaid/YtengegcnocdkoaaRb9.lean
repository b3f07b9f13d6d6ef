/- Contracts and plain lemmas: OptLong, OptEach, OptDec, OptEnc. -/
import Derived.Carry
import Derived.Maps.Own
import Derived.RangeFuncRecord
import Derived.RangeFuncNested
import Derived.RangeFuncBound
import Derived.RangeFuncCalls
import Derived.RangeFuncLeaves
import Derived.RangeFuncBox
import Derived.Shelf.Abstract
import Derived.Shelf.RegionOpen
import Derived.OwnWalkIn
import Derived.TacticsInMore
import Derived.LoopNIn
import Derived.LoopIn
import Derived.Sort.CutIn
import Derived.Test.YtengegcnocdkoaaRb8
import Derived.Test.YtengegcnocdkoaaRb1
import Derived.Test.YtengegcnocdkoaaRb5
section
set_option linter.unusedVariables false
set_option linter.unusedSimpArgs false
set_option maxRecDepth 20000
namespace Go.Proofs.Ytengegcnocdkoaa
open Go.RowKit Go.BigFrame Go.ChangeMaps
theorem contains_any (g : Nat) (l : List Int) (x : Int) (w : World) (h : Blk w g 3 (l.map (Value.int .i64)).toArray) (hn : l.length ≤ 1000) :
    Calls Try.prog 103 #[.slice (some ⟨g, 0, none⟩) l.length l.length, .int .i64 x] w fun e w' => (∃ r : Int, e = .returned (.int .i64 r) ∧ (0 ≤ r ↔ x ∈ l)) ∧ w = w' := by
  obtain ⟨n, hn'⟩ : ∃ n, n = l.length := ⟨_, rfl⟩
  rw [← hn'] at hn ⊢
  have hlt := h.lt
  have H := Lib.hid h
  clear h
  have Hn' := Lib.hid hn'
  clear hn'
  go_enter Try.func103, Try.ntmps103
  go_wp2
  go_loopw [8] (fun i wr => w = wr ∧ ∃ k : Nat, k ≤ n ∧ i = .int .i64 (k : Int) ∧ x ∉ l.take k) (fun i _ => n - (intOf i).toNat)
  case atStart => exact ⟨rfl, 0, Nat.zero_le _, rfl, by simp⟩
  case round =>
    obtain ⟨rfl, k, hk, rfl, hx⟩ := hrel
    by_cases hkn : k < n
    · have hkl : k < l.length := by rw [← Hn'.out]; exact hkn
      obtain ⟨v, hv⟩ : ∃ v, v = l[k] := ⟨_, rfl⟩
      have hc : w.cell? ⟨g, k, none⟩ = some (.int .i64 v) := by
        have := H.out.cell k
        rw [this]
        simp [hv, hkl]
      have j1 : (k : Int) < (n : Int) := by omega
      have hmem : x ∈ l.take (k + 1) ↔ x = v := by
        rw [List.take_add_one, List.getElem?_eq_getElem hkl, ← hv]
        simp
        intro h
        exact absurd h hx
      have hvl : v ∈ l := by rw [hv]; exact List.getElem_mem _
      by_cases hxv : x = v
      · subst hxv
        have e1 : (x == x) = true := beq_self_eq_true _
        have Hx := Lib.hid hx
        clear hx
        have Hmem := Lib.hid hmem
        clear hmem
        have Hvl := Lib.hid hvl
        clear hvl
        have Hv := Lib.hid hv
        clear hv
        go_wp2
        go_ret
        exact ⟨⟨(k : Int), rfl, fun _ => Hvl.out, fun _ => by omega⟩, rfl⟩
      · have e1 : (x == v) = false := by simpa using hxv
        have hx2 : x ∉ l.take (k + 1) := fun h => hxv (hmem.1 h)
        have Hx := Lib.hid hx
        clear hx
        have Hmem := Lib.hid hmem
        clear hmem
        have Hvl := Lib.hid hvl
        clear hvl
        have Hv := Lib.hid hv
        clear hv
        have Hx2 := Lib.hid hx2
        clear hx2
        clear hxv
        go_wp2
        go_roundw
        case rel => exact ⟨trivial, k + 1, by omega, by go_num, Hx2.out⟩
        case measure => simp [intOf]; omega
    · obtain rfl : k = n := by omega
      rw [Hn'.out, List.take_length] at hx
      have j1 : ¬ (k : Int) < (k : Int) := by omega
      have Hx := Lib.hid hx
      clear hx
      go_wp2
      go_ret
      exact ⟨⟨-1, rfl, fun h => by omega, fun h => absurd h Hx.out⟩, rfl⟩
theorem has_any (g : Nat) (l : List Int) (x : Int) (w : World) (h : Blk w g 3 (l.map (Value.int .i64)).toArray) (hn : l.length ≤ 1000) :
    Calls Try.prog 100 #[.slice (some ⟨g, 0, none⟩) l.length l.length, .int .i64 x] w fun e w' => e = .returned (.bool (decide (x ∈ l))) ∧ w = w' := by
  have hc := contains_any g l x w h hn
  generalize l.length = n at *
  have HC := Lib.hid hc
  clear hc h hn
  go_enter Try.func100, Try.ntmps100
  go_wp2_with fail
  (with_reducible refine (HC.out).mono ?_)
  rintro e w' ⟨⟨r, rfl, hr⟩, rfl⟩
  have hd : decide (x ∈ l) = decide (0 ≤ r) := by
    by_cases h : 0 ≤ r
    · rw [decide_eq_true h, decide_eq_true (hr.1 h)]
    · rw [decide_eq_false h, decide_eq_false (fun hm => h (hr.2 hm))]
  have HD := Lib.hid hd
  clear hd hr
  go_wp2
  go_ret
  exact ⟨ret_bool HD.out.symm, rfl⟩
/-- an entry that a literal of a map lays, under a key that is not there yet -/
theorem wpl_insert_new {P : Program} {ops : Array Oper} {rest : List Oper} {o : Oper} {a : Act} {Q : Exit → Act → World → Prop} {w : World} (hg : o.guard = none) (m x v : Operand) (t : TypeId) (hop : o.op = .insert t m x v)
    (kt et : TypeId) (q : IntKind) (ht : P.underlying t = some (.map kt et)) (hk : P.underlying kt = some (.int q)) (g : Nat) (es : Array MapEntry) (clock : Nat) (hm : a.eval m = .map (some g)) (hb : w.heap[g]? = some (.map es clock))
    (key : Int) (hx : a.eval x = .int q key) (hnew : Instr.findNow (.int q) (.int q key) es.toList 0 = some none) (val : Value) (hv : a.eval v = val)
    (hK : ∀ w', w'.heap[g]? = some (.map (es.push ⟨.int q key, val, clock⟩) (clock + 1)) → w.grownBy w' (some g) → wpList P ops Q rest (a.put o.dst undef) w') :
    wpList P ops Q (o :: rest) a w := by
  have hrun : (Instr.mapUpdate t (.map (some g)) (.int q key) val).run P w = .ok () (setBlock w g (.map (es.push ⟨.int q key, val, clock⟩) (clock + 1))) := by
    have hc : (Instr.checkKey false 10000 kt (.int q key)).run P w = .ok () w := MapKept.run_checkKey (k := .int q key) hk (by simp [MapKept.IsKey]) false 9999
    have h1 : (Instr.mapUpdate t (.map (some g)) (.int q key) val).run P w = .ok () { w with heap := w.heap.setIfInBounds g (.map (es.push ⟨.int q key, val, clock⟩) (clock + 1)) } := by
      simp [Instr.mapUpdate, run_underlying ht, MapKept.run_getObj_map hb, hc, MapKept.run_findKey hk hnew, MapKept.run_setObj_map _ hb, Result.andThen]
    rw [h1]
    rfl
  refine wpList_plain hg fun K' hK' => ?_
  unfold Oper.wp
  simp [execOp, hop, hm, hx, hv, hrun, Result.andThen]
  exact hK' _ _ (hK _ (heap_setBlock_same hb _) ⟨rfl, rfl, rfl, by simp [setBlock], fun i _ hi => heap_setBlock_other hb _ (fun e => hi (by rw [e]))⟩)
theorem lookI_run {W : World} {g : Nat} {es : Array MapEntry} {c : Nat} (hm : W.heap[g]? = some (.map es c)) (d : Int) (i : Nat) (v : Value) (h : Instr.findNow (.int .u8) (.int .u8 d) es.toList 0 = some (some (i, v))) :
    (Instr.lookup 142 (.map (some g)) (.int .u8 d) true).run Try.prog W = .ok (.tuple #[v, .bool true]) W := by
  have hc : ∀ b, (Instr.checkKey b 10000 5 (.int .u8 d)).run Try.prog W = .ok () W := fun b => MapKept.run_checkKey (k := .int .u8 d) Try.underlying5 (by simp [MapKept.IsKey]) b 9999
  simp [Instr.lookup, run_underlying Try.underlying142, MapKept.run_getObj_map hm, hc, MapKept.run_findKey Try.underlying5 h, Result.andThen]
theorem lookI_none {W : World} {g : Nat} {es : Array MapEntry} {c : Nat} (hm : W.heap[g]? = some (.map es c)) (d : Int) (h : Instr.findNow (.int .u8) (.int .u8 d) es.toList 0 = some none) :
    (Instr.lookup 142 (.map (some g)) (.int .u8 d) true).run Try.prog W = .ok (.tuple #[.slice none 0 0, .bool false]) W := by
  have hc : ∀ b, (Instr.checkKey b 10000 5 (.int .u8 d)).run Try.prog W = .ok () W := fun b => MapKept.run_checkKey (k := .int .u8 d) Try.underlying5 (by simp [MapKept.IsKey]) b 9999
  have hz : (zeroValue 115).run Try.prog W = .ok (.slice none 0 0) W := by kernel_rfl
  simp [Instr.lookup, run_underlying Try.underlying142, MapKept.run_getObj_map hm, hc, MapKept.run_findKey Try.underlying5 h, hz, Result.andThen]
theorem mp_alloc {w : World} {g : Nat} {o : Obj} (h : w.heap[g]? = some o) (o' : Obj) : (w.alloc o').heap[g]? = some o := by
  exact ((World.grownBy_alloc w o' none).block g (Array.getElem?_eq_some_iff.1 h).1 (by simp)).trans h
theorem stepB {A B : World} {g m : Nat} {t : TypeId} {cs : Array Value} {o : Obj} (h : Blk A g t cs) (hg : (A.alloc o).grownBy B (some m)) (hne : g ≠ m) : Blk B g t cs := (h.alloc o).grown hg (fun e => hne (Option.some.inj e))
theorem mp_grown {w w' : World} {g b : Nat} {t : TypeId} {cs : Array Value} (h : Blk w g t cs) (hg : w.grownBy w' (some b)) (hne : g ≠ b) : Blk w' g t cs := h.grown hg (fun e => hne (Option.some.inj e))
set_option maxHeartbeats 4000000 in
theorem long_any (k n : Nat) (w : World) (hk : k < 256) :
    Calls Try.prog 95 #[.int .u8 (k : Int), .int .i64 (n : Int)] w fun e w' => e = .returned (.bool (longB k n)) ∧ Below w.heap.size w w' := by
  obtain ⟨m, hm⟩ : ∃ m, m = w.heap.size := ⟨_, rfl⟩
  have hM0 : (w.alloc (.map #[] 0)).heap[m]? = some (.map #[] 0) := by rw [hm]; exact World.alloc_heap_new w _
  have hb0 : Below w.heap.size w (w.alloc (.map #[] 0)) := (Below.refl _ _).alloc (Nat.le_refl _) _
  have hs0 : m < (w.alloc (.map #[] 0)).heap.size := by rw [hm]; simp
  have hmk : (Instr.makeMap 142 none).run Try.prog w = .ok (.map (some w.heap.size)) (w.alloc (.map #[] 0)) := by kernel_rfl
  have Hm := Lib.hid hm
  clear hm
  go_enter Try.func95, Try.ntmps95
  go_upto_region 2 with (first
    | (refine wpl_insert_new rfl (.tmp 8) (.const (.int .u8 2)) (.tmp 9) 142 rfl 5 115 .u8 Try.underlying142 Try.underlying5 m _ _ (by simp [Act.eval, Hm.out]) (mp_alloc hM0 _) 2 rfl rfl _ rfl ?_; intro W1 hM1 hg1)
    | (refine wpl_insert_new rfl (.tmp 8) (.const (.int .u8 3)) (.tmp 10) 142 rfl 5 115 .u8 Try.underlying142 Try.underlying5 m _ _ (by simp [Act.eval, Hm.out]) (mp_alloc hM1 _) 3 rfl rfl _ rfl ?_; intro W2 hM2 hg2)
    | (refine wpl_insert_new rfl (.tmp 8) (.const (.int .u8 4)) (.tmp 11) 142 rfl 5 115 .u8 Try.underlying142 Try.underlying5 m _ _ (by simp [Act.eval, Hm.out]) (mp_alloc hM2 _) 4 rfl rfl _ rfl ?_; intro W3 hM3 hg3)
    | (refine wpl_insert_new rfl (.tmp 8) (.const (.int .u8 5)) (.tmp 12) 142 rfl 5 115 .u8 Try.underlying142 Try.underlying5 m _ _ (by simp [Act.eval, Hm.out]) (mp_alloc hM3 _) 5 rfl rfl _ rfl ?_; intro W4 hM4 hg4)
    | (refine wpl_insert_new rfl (.tmp 8) (.const (.int .u8 8)) (.tmp 13) 142 rfl 5 115 .u8 Try.underlying142 Try.underlying5 m _ _ (by simp [Act.eval, Hm.out]) (mp_alloc hM4 _) 8 rfl rfl _ rfl ?_; intro W5 hM5 hg5))
  have z1 : w.heap.size + 2 ≤ W1.heap.size := by have := hg1.size; simp at this; omega
  have z2 : W1.heap.size + 1 ≤ W2.heap.size := by have := hg2.size; simp at this; omega
  have z3 : W2.heap.size + 1 ≤ W3.heap.size := by have := hg3.size; simp at this; omega
  have z4 : W3.heap.size + 1 ≤ W4.heap.size := by have := hg4.size; simp at this; omega
  have z5 : W4.heap.size + 1 ≤ W5.heap.size := by have := hg5.size; simp at this; omega
  obtain rfl := Hm.out
  have hb1 := below_only (hb0.alloc hb0.size _) hg1 (Nat.le_refl _) (by simp; omega)
  have hb2 := below_only (hb1.alloc hb1.size _) hg2 (Nat.le_refl _) (by simp; omega)
  have hb3 := below_only (hb2.alloc hb2.size _) hg3 (Nat.le_refl _) (by simp; omega)
  have hb4 := below_only (hb3.alloc hb3.size _) hg4 (Nat.le_refl _) (by simp; omega)
  have hb5 := below_only (hb4.alloc hb4.size _) hg5 (Nat.le_refl _) (by simp; omega)
  have k1 := mp_grown (Blk.new (w.alloc (.map #[] 0)) 3 #[.int .i64 4]) hg1 (by simp)
  rw [World.size_alloc] at k1
  have k1 := stepB k1 hg2 (by omega)
  have k1 := stepB k1 hg3 (by omega)
  have k1 := stepB k1 hg4 (by omega)
  have k1 := stepB k1 hg5 (by omega)
  have k2 := mp_grown (Blk.new W1 3 #[.int .i64 3]) hg2 (by omega)
  have k2 := stepB k2 hg3 (by omega)
  have k2 := stepB k2 hg4 (by omega)
  have k2 := stepB k2 hg5 (by omega)
  have k3 := mp_grown (Blk.new W2 3 #[.int .i64 2]) hg3 (by omega)
  have k3 := stepB k3 hg4 (by omega)
  have k3 := stepB k3 hg5 (by omega)
  have k4 := mp_grown (Blk.new W3 3 #[.int .i64 10, .int .i64 18, .int .i64 26, .int .i64 34]) hg4 (by omega)
  have k4 := stepB k4 hg5 (by omega)
  have k5 := mp_grown (Blk.new W4 3 #[.int .i64 10]) hg5 (by omega)
  obtain ⟨g1, e1⟩ : ∃ g, g = W1.heap.size := ⟨_, rfl⟩
  obtain ⟨g2, e2⟩ : ∃ g, g = W2.heap.size := ⟨_, rfl⟩
  obtain ⟨g3, e3⟩ : ∃ g, g = W3.heap.size := ⟨_, rfl⟩
  obtain ⟨g4, e4⟩ : ∃ g, g = W4.heap.size := ⟨_, rfl⟩
  rw [← e1] at hM5 k2 ⊢
  rw [← e2] at hM5 k3 ⊢
  rw [← e3] at hM5 k4 ⊢
  rw [← e4] at hM5 k5 ⊢
  obtain ⟨g0, e0⟩ : ∃ g, g = w.heap.size + 1 := ⟨_, rfl⟩
  rw [← e0] at k1 ⊢
  have hM6 := hM5
  try simp only [World.size_alloc] at hM6
  try rw [← e0] at hM6
  clear hM0 hM1 hM2 hM3 hM4 hM5 hg1 hg2 hg3 hg4 hg5 z1 z2 z3 z4 z5 hb0 hb1 hb2 hb3 hb4 hs0 hmk e0 e1 e2 e3 e4
  generalize W5 = W at *
  have K1 := Lib.hid k1
  clear k1
  have K2 := Lib.hid k2
  clear k2
  have K3 := Lib.hid k3
  clear k3
  have K4 := Lib.hid k4
  clear k4
  have K5 := Lib.hid k5
  clear k5
  have Hb5 := Lib.hid hb5
  clear hb5
  by_cases h2 : k = 2
  · have hkc : (k : Int) = 2 := by omega
    have hl := lookI_run hM6 2 0 _ rfl
    have hr : longB k n = decide ((n : Int) ∈ ([4] : List Int)) := by
      have e : longB k n = (n == 4) := by rw [show k = 2 by omega]; rfl
      rw [e, Bool.eq_iff_iff]
      simp
      omega
    have hc : Calls Try.prog 100 #[.slice (some ⟨g0, 0, none⟩) 1 1, .int .i64 (n : Int)] W fun e w' => e = .returned (.bool (decide ((n : Int) ∈ ([4] : List Int)))) ∧ W = w' := has_any g0 [4] (n : Int) W K1.out (by decide)
    clear hM6
    generalize decide ((n : Int) ∈ ([4] : List Int)) = r at *
    have Hc := Lib.hid hc
    clear hc
    have Hr := Lib.hid hr
    clear hr
    go_wp2_with fail
    with_reducible refine Hc.out.mono ?_
    rintro e w' ⟨rfl, rfl⟩
    go_wp2
    go_ret
    exact ⟨ret_bool Hr.out.symm, Hb5.out⟩
  by_cases h3 : k = 3
  · have hkc : (k : Int) = 3 := by omega
    have hl := lookI_run hM6 3 1 _ rfl
    have hr : longB k n = decide ((n : Int) ∈ ([3] : List Int)) := by
      have e : longB k n = (n == 3) := by rw [show k = 3 by omega]; rfl
      rw [e, Bool.eq_iff_iff]
      simp
      omega
    have hc : Calls Try.prog 100 #[.slice (some ⟨g1, 0, none⟩) 1 1, .int .i64 (n : Int)] W fun e w' => e = .returned (.bool (decide ((n : Int) ∈ ([3] : List Int)))) ∧ W = w' := has_any g1 [3] (n : Int) W K2.out (by decide)
    clear hM6
    generalize decide ((n : Int) ∈ ([3] : List Int)) = r at *
    have Hc := Lib.hid hc
    clear hc
    have Hr := Lib.hid hr
    clear hr
    go_wp2_with fail
    with_reducible refine Hc.out.mono ?_
    rintro e w' ⟨rfl, rfl⟩
    go_wp2
    go_ret
    exact ⟨ret_bool Hr.out.symm, Hb5.out⟩
  by_cases h4 : k = 4
  · have hkc : (k : Int) = 4 := by omega
    have hl := lookI_run hM6 4 2 _ rfl
    have hr : longB k n = decide ((n : Int) ∈ ([2] : List Int)) := by
      have e : longB k n = (n == 2) := by rw [show k = 4 by omega]; rfl
      rw [e, Bool.eq_iff_iff]
      simp
      omega
    have hc : Calls Try.prog 100 #[.slice (some ⟨g2, 0, none⟩) 1 1, .int .i64 (n : Int)] W fun e w' => e = .returned (.bool (decide ((n : Int) ∈ ([2] : List Int)))) ∧ W = w' := has_any g2 [2] (n : Int) W K3.out (by decide)
    clear hM6
    generalize decide ((n : Int) ∈ ([2] : List Int)) = r at *
    have Hc := Lib.hid hc
    clear hc
    have Hr := Lib.hid hr
    clear hr
    go_wp2_with fail
    with_reducible refine Hc.out.mono ?_
    rintro e w' ⟨rfl, rfl⟩
    go_wp2
    go_ret
    exact ⟨ret_bool Hr.out.symm, Hb5.out⟩
  by_cases h5 : k = 5
  · have hkc : (k : Int) = 5 := by omega
    have hl := lookI_run hM6 5 3 _ rfl
    have hr : longB k n = decide ((n : Int) ∈ ([10, 18, 26, 34] : List Int)) := by
      have e : longB k n = (n == 10 || n == 18 || n == 26 || n == 34) := by rw [show k = 5 by omega]; rfl
      rw [e, Bool.eq_iff_iff]
      simp
      omega
    have hc : Calls Try.prog 100 #[.slice (some ⟨g3, 0, none⟩) 4 4, .int .i64 (n : Int)] W fun e w' => e = .returned (.bool (decide ((n : Int) ∈ ([10, 18, 26, 34] : List Int)))) ∧ W = w' := has_any g3 [10, 18, 26, 34] (n : Int) W K4.out (by decide)
    clear hM6
    generalize decide ((n : Int) ∈ ([10, 18, 26, 34] : List Int)) = r at *
    have Hc := Lib.hid hc
    clear hc
    have Hr := Lib.hid hr
    clear hr
    go_wp2_with fail
    with_reducible refine Hc.out.mono ?_
    rintro e w' ⟨rfl, rfl⟩
    go_wp2
    go_ret
    exact ⟨ret_bool Hr.out.symm, Hb5.out⟩
  by_cases h8 : k = 8
  · have hkc : (k : Int) = 8 := by omega
    have hl := lookI_run hM6 8 4 _ rfl
    have hr : longB k n = decide ((n : Int) ∈ ([10] : List Int)) := by
      have e : longB k n = (n == 10) := by rw [show k = 8 by omega]; rfl
      rw [e, Bool.eq_iff_iff]
      simp
      omega
    have hc : Calls Try.prog 100 #[.slice (some ⟨g4, 0, none⟩) 1 1, .int .i64 (n : Int)] W fun e w' => e = .returned (.bool (decide ((n : Int) ∈ ([10] : List Int)))) ∧ W = w' := has_any g4 [10] (n : Int) W K5.out (by decide)
    clear hM6
    generalize decide ((n : Int) ∈ ([10] : List Int)) = r at *
    have Hc := Lib.hid hc
    clear hc
    have Hr := Lib.hid hr
    clear hr
    go_wp2_with fail
    with_reducible refine Hc.out.mono ?_
    rintro e w' ⟨rfl, rfl⟩
    go_wp2
    go_ret
    exact ⟨ret_bool Hr.out.symm, Hb5.out⟩
  have hl := lookI_none hM6 (k : Int) (by
    have q1 : ((k : Int) == 2) = false := by simp; omega
    have q2 : ((k : Int) == 3) = false := by simp; omega
    have q3 : ((k : Int) == 4) = false := by simp; omega
    have q4 : ((k : Int) == 5) = false := by simp; omega
    have q5 : ((k : Int) == 8) = false := by simp; omega
    simp only [List.push_toArray, List.append_toArray, List.nil_append, List.cons_append, Instr.findNow, Instr.sameNow, if_pos, q1, q2, q3, q4, q5])
  have hr : longB k n = decide (2 ≤ (n : Int)) := by
    unfold longB
    rw [if_neg h2, if_neg h3, if_neg h4, if_neg h5, if_neg h8]
    simp
    omega
  have Hr := Lib.hid hr
  clear hr
  clear hM6 h2 h3 h4 h5 h8
  go_wp2
  go_ret
  exact ⟨ret_bool Hr.out.symm, Hb5.out⟩
end Go.Proofs.Ytengegcnocdkoaa
end
section
set_option linter.unusedVariables false
set_option linter.unusedSimpArgs false
set_option maxRecDepth 20000
namespace Go.Proofs.Ytengegcnocdkoaa
open Go.RowKit Go.BigFrame Go.Shelf
attribute [local go_sem] Oper.semAt_some
/-- what a round keeps: what lay below n₀, and each box of a string -/
def KeepsS (n₀ : Nat) (A B : World) : Prop := Below n₀ A B ∧ ∀ (i : Nat) (cs : Array Value), Blk A i 9 cs → Blk B i 9 cs
theorem KeepsS.trans {n₀ : Nat} {A B C : World} (h : KeepsS n₀ A B) (k : KeepsS n₀ B C) : KeepsS n₀ A C := ⟨h.1.trans k.1, fun i cs e => k.2 i cs (h.2 i cs e)⟩
theorem KeepsS.refl (n₀ : Nat) (A : World) : KeepsS n₀ A A := ⟨Below.refl _ _, fun i cs e => e⟩
theorem KeepsS.of_below {n₀ : Nat} {A B : World} (hn : n₀ ≤ A.heap.size) (h : Below A.heap.size A B) : KeepsS n₀ A B := ⟨h.mono hn, fun i cs e => e.below h e.lt⟩
theorem KeepsS.putObj {n₀ : Nat} {w : World} (hn : n₀ ≤ w.heap.size) (W : World) (l : Nat) (o o' : Obj) (hl : w.heap.size ≤ l) (h : W.heap[l]? = some o) (hc : o.isCells = false) (hw : o.isWalk = false) : KeepsS n₀ W (W.putObj l o') :=
  ⟨belowK_b hn W l o o' hl h hc hw, fun i cs e => (World.putObj_heap_other (by rintro rfl; unfold Blk at e; rw [h] at e; cases e; cases hc)).trans e⟩
/-- a place that the bytes have -/
def InP (L : List UInt8) (p : Nat × Nat) : Prop := p ∈ placesAt L 0
abbrev PV (L : List UInt8) := { p : Nat × Nat // OkP L p ∧ InP L p }
theorem each_in (s : ByteArray) (w : World) :
    CallsIn Fence.wide 2 Try.prog 75 #[.string s] w fun e w' => e = .returned (.func (.func 94) #[] #[.pointer (some ⟨w.heap.size, 0, none⟩)]) ∧ w' = w.alloc (.cells #[.string s] 9) := by
  refine callsIn_of_wp Try.func75 rfl trivial ?_ rfl
  simp only [Try.ntmps75, List.size_toArray, List.length_cons, List.length_nil, Nat.reduceAdd, Nat.reduceSub, Array.replicate_succ, Array.replicate_zero, List.push_toArray, List.append_toArray, List.nil_append, List.cons_append]
  have hmf : ∀ (fn : Fn) (first cap : Array Value) (w : World), (Instr.makeFunc fn first cap).run Try.prog w = .ok (.func fn first cap) w := fun _ _ _ _ => rfl
  gi_wp2
  go_ret
  exact ⟨rfl, rfl⟩
theorem index_at (x : ByteArray) (j : Nat) (h : j < x.data.toList.length) (W : World) : (Instr.index 9 (.string x) (.int .i64 (j : Int))).run Try.prog W = .ok (.int .u8 ((byteN x.data.toList j : Nat) : Int)) W := by
  have hl : j < x.size := by simpa using h
  rw [run_index_string W 9 x .i64 _ Try.underlying9, dif_pos ⟨by omega, by omega⟩]
  unfold byteN
  rw [List.getElem?_eq_getElem h, Option.getD_some]
  rfl
set_option maxRecDepth 100000 in
set_option maxHeartbeats 8000000 in
theorem each1_in (n₀ Bs : Nat) (x : ByteArray) (L : List UInt8) (hx : x.data.toList = L) (hm : L.length ≤ 1000) (l : Nat) (J Jx : List (PV L) → World → Prop)
    (W : World) (hW : n₀ ≤ W.heap.size) (hJ : AbidesFrom W.heap.size J)
    (hY : ∀ pre x W1, J pre W1 → pre.length < (placesAt L 0).length → YieldAt Fence.wide 1 Try.prog l #[.int .i64 (x.1.1 : Int), .int .i64 (x.1.2 : Int)] W1 fun e W' =>
      (e = .returned (.bool true) ∧ J (pre ++ [x]) W' ∧ KeepsS n₀ W1 W') ∨ (e = .returned (.bool false) ∧ Jx (pre ++ [x]) W'))
    (hBs : Blk W Bs 9 #[.string x]) (h0 : J [] W) :
    CallsIn Fence.wide 2 Try.prog 94 #[.func (.yield l) #[] #[], .pointer (some ⟨Bs, 0, none⟩)] W fun e W' => (∃ v, e = .returned v) ∧
      ((∃ ys : List (PV L), ys.map (·.1) = placesAt L 0 ∧ J ys W') ∨ (∃ pre : List (PV L), pre.map (·.1) <+: placesAt L 0 ∧ Jx pre W')) := by
  have hsz : x.size = L.length := by rw [← hx]; simp
  refine callsIn_of_wp Try.func94 rfl trivial ?_ rfl
  simp only [Try.ntmps94, List.size_toArray, List.length_cons, List.length_nil, Nat.reduceAdd, Nat.reduceSub, Array.replicate_succ, Array.replicate_zero, List.push_toArray, List.append_toArray, List.nil_append, List.cons_append]
  have Hx := Lib.hid hx
  have Hsz := Lib.hid hsz
  clear hx hsz
  gi_wp2
  gi_loopw [3, 4] (fun i m wr => ∃ (k : Nat) (pre : List (PV L)), k ≤ L.length ∧ i = .int .i64 (k : Int) ∧ pre.map (·.1) ++ placesAt L k = placesAt L 0 ∧ J pre wr ∧ KeepsS n₀ W wr)
    (fun i _ _ => L.length - (intOf i).toNat)
  case atStart => exact ⟨0, [], Nat.zero_le _, rfl, rfl, h0, KeepsS.refl _ _⟩
  case round =>
    obtain ⟨k, pre, hk, rfl, hp, hj, hb⟩ := hrel
    have hsz := Hsz.out
    have hbs := hb.2 _ _ hBs
    have cB := hbs.cell 0
    simp at cB
    have hle : n₀ ≤ wr.heap.size := Nat.le_trans hW hb.1.size
    have ne : Nonempty (Cls (Fresh wr)) := ⟨⟨wr, Below.refl _ _⟩⟩
    by_cases h1 : k < L.length
    · have j1 : (k : Int) < (L.length : Int) := by omega
      have hix := fun W => index_at x k (by rw [Hx.out]; exact h1) W
      rw [Hx.out] at hix
      obtain ⟨b, hbe⟩ : ∃ b, b = byteN L k := ⟨_, rfl⟩
      rw [← hbe] at hix
      have hb256 : b < 256 := by rw [hbe]; exact byteN_lt _ _
      by_cases hb0 : b = 0
      · have t1 : ((b : Int) != 0) = false := by rw [hb0]; rfl
        have t2 : ((b : Int) == 0) = true := by rw [hb0]; rfl
        have hpl : placesAt L k = [] := places_end (by rw [← hbe, hb0]; simp)
        rw [hpl, List.append_nil] at hp
        have Hp := Lib.hid hp
        clear hp
        have Hpl := Lib.hid hpl
        clear hpl
        have Hbe := Lib.hid hbe
        clear hbe
        have Hb0 := Lib.hid hb0
        clear hb0
        clear hY ne hb hbs hle
        gi_wp2
        first | go_end0 | refine bodyPost_ret (results_none rfl _ _ _) rfl ?_
        exact ⟨⟨_, rfl⟩, .inl ⟨pre, Hp.out, hj⟩⟩
      have t1 : ((b : Int) != 0) = true := by simp; omega
      have t0 : ((b : Int) == 0) = false := by simp; omega
      by_cases hb1 : b = 1
      · have t2 : ((b : Int) == 1) = true := by rw [hb1]; rfl
        have hpl : placesAt L k = placesAt L (k + 1) := places_one h1 (by rw [← hbe, hb1])
        rw [hpl] at hp
        have Hp := Lib.hid hp
        clear hp
        have Hpl := Lib.hid hpl
        clear hpl
        have Hbe := Lib.hid hbe
        clear hbe
        have Hb1 := Lib.hid hb1
        clear hb1
        have Hb0 := Lib.hid hb0
        clear hb0
        clear hY ne hbs hle
        gi_wp2
        go_roundw
        case rel => exact ⟨k + 1, pre, by omega, by go_num, Hp.out, hj, hb⟩
        case measure => simp [intOf]; omega
      have t2 : ((b : Int) == 1) = false := by simp; omega
      have hkb0 : byteN L k ≠ 0 := by rw [← hbe]; exact hb0
      have hkb1 : byteN L k ≠ 1 := by rw [← hbe]; exact hb1
      have kB : ∀ y : Cls (Fresh wr), y.w.cell? ⟨Bs, 0, none⟩ = some (.string x) := fun y => (by have := (hbs.below y.h hbs.lt).cell 0; simpa using this)
      have hS0 : Fresh wr wr := Below.refl _ _
      have cf : ∀ (vals : Array Value) (w : World), (callFunc 95 vals).run Try.prog w = .ok (.enter 95 vals) w := fun _ _ => by kernel_rfl
      obtain ⟨c, hce⟩ : ∃ c, c = byteN L (k + 1) := ⟨_, rfl⟩
      have hc256 : c < 256 := by rw [hce]; exact byteN_lt _ _
      have m1 : ∀ y : Cls (Fresh wr), Calls Try.prog 95 #[.int .u8 (b : Int), .int .i64 (c : Int)] y.w fun e w'' => e = .returned (.bool (longB b c)) ∧ Fresh wr w'' ∧ Below y.w.heap.size y.w w'' := fun y => (long_any b c y.w hb256).mono fun e w' ⟨he, hb⟩ => ⟨he, Fresh.below y.h hb, hb⟩
      by_cases hgood : stepN L k = 0
      · have hpl : placesAt L k = [(k, 0)] := places_bad h1 hkb0 hkb1 hgood
        have hok : OkP L (k, 0) ∧ InP L (k, 0) := ⟨⟨h1, hkb0, hkb1, hgood.symm⟩, by unfold InP; rw [← hp, hpl]; simp⟩
        have hlen : pre.length < (placesAt L 0).length := by rw [← hp, hpl]; simp
        have hbad : ¬ (k + 1 < L.length ∧ longB b c = true ∧ k + c ≤ L.length) := by
          rintro ⟨h2, h3, h4⟩
          have h5 := longB_two h3
          unfold stepN at hgood
          rw [← hbe, ← hce, if_pos ⟨h2, h3, h4⟩] at hgood
          omega
        by_cases h2 : k + 1 < L.length
        · have j2 : (k : Int) + 1 < (L.length : Int) := by omega
          have hix2 := fun W => index_at x (k + 1) (by rw [Hx.out]; exact h2) W
          rw [Hx.out, ← hce, show ((k + 1 : Nat) : Int) = (k : Int) + 1 by omega] at hix2
          cases h3 : longB b c with
          | false =>
            rw [h3] at m1
            have Cf := Lib.hid cf
            clear cf
            have M1 := Lib.hid m1
            clear m1
            have Hbe := Lib.hid hbe
            clear hbe
            have Hce := Lib.hid hce
            clear hce
            have Hb0 := Lib.hid hb0
            clear hb0
            have Hb1 := Lib.hid hb1
            clear hb1
            have Hkb0 := Lib.hid hkb0
            clear hkb0
            have Hkb1 := Lib.hid hkb1
            clear hkb1
            have Hgood := Lib.hid hgood
            clear hgood
            have Hbad := Lib.hid hbad
            clear hbad
            have H3 := Lib.hid h3
            clear h3
            gi_upto_region 5 with fail
            refine wpIn_wide.2 ?_
            refine wp_region_flow 28 (Fresh wr) (fun w w' => Below w.heap.size w w') (by kernel_rfl) (by kernel_rfl) (by kernel_rfl) (fun w => Below.refl _ _) (Fresh.below hS0 (Below.drew (Below.refl _ _))) ?_
            simp only [List.take_succ_cons, List.take_zero, List.drop_succ_cons, List.drop_zero]
            repeat (first
              | (refine flow_skip rfl rfl wr ?_; intro K hK; go_big_quiet_op; go_big_quiet_on)
              | (refine flow_quiet (fun w => Below.refl _ _) rfl rfl rfl rfl ?_; intro K hK; go_big_quiet_op; go_big_quiet_on)
              | (refine flow_call Cf.out _ ?_ rfl rfl rfl _ M1.out wr ?_; (focus (simp only [List.map_toArray, List.map_cons, List.map_nil]; rfl)); intro K hK; go_big_quiet_op; go_big_quiet_on))
            refine flow_nil ?_
            intro W5 ff hW5 hF5
            simp only [fillW]
            simp only [wpList, Exit.then]
            go_at_K
            clear hF5
            have hj5 : J pre W5 := hJ _ _ _ none hj (only_of_below hW5 none) (by simp)
            have hb5 : KeepsS n₀ W W5 := hb.trans (KeepsS.of_below hle hW5)
            have cB5 := (hbs.below hW5 hbs.lt).cell 0
            simp at cB5
            clear kB cB hj hb hbs hle ne hS0 hW5
            obtain ⟨fn, tmps, assign, body, hy, hR⟩ := hY pre ⟨(k, 0), hok⟩ W5 hj5 hlen
            dsimp only at hy
            rw [show ((0 : Nat) : Int) = 0 from rfl] at hy
            have HP := Lib.hid hp
            have HPL := Lib.hid hpl
            have HK := Lib.hid hb5
            clear hY hlen hp hpl hb5 hj5
            gi_wp2
            refine hR.mono ?_
            rintro e W3 (⟨rfl, hJ3, hk3⟩ | ⟨rfl, hJx3⟩)
            · clear hy hR
              gi_wp2
              first | go_end0 | refine bodyPost_ret (results_none rfl _ _ _) rfl ?_
              refine ⟨⟨_, rfl⟩, .inl ⟨_, ?_, hJ3⟩⟩
              rw [List.map_append, ← HP.out, HPL.out]
              rfl
            · clear hy hR
              gi_wp2
              first | go_end0 | refine bodyPost_ret (results_none rfl _ _ _) rfl ?_
              refine ⟨⟨_, rfl⟩, .inr ⟨_, ?_, hJx3⟩⟩
              rw [List.map_append, ← HP.out, HPL.out]
              exact List.prefix_rfl
          | true =>
            rw [h3] at m1
            have h4 : ¬ (k : Int) + (c : Int) ≤ (L.length : Int) := by
              intro h4
              exact hbad ⟨h2, h3, by omega⟩
            have Cf := Lib.hid cf
            clear cf
            have M1 := Lib.hid m1
            clear m1
            have Hbe := Lib.hid hbe
            clear hbe
            have Hce := Lib.hid hce
            clear hce
            have Hb0 := Lib.hid hb0
            clear hb0
            have Hb1 := Lib.hid hb1
            clear hb1
            have Hkb0 := Lib.hid hkb0
            clear hkb0
            have Hkb1 := Lib.hid hkb1
            clear hkb1
            have Hgood := Lib.hid hgood
            clear hgood
            have Hbad := Lib.hid hbad
            clear hbad
            have H3 := Lib.hid h3
            clear h3
            gi_upto_region 5 with fail
            refine wpIn_wide.2 ?_
            refine wp_region_flow 28 (Fresh wr) (fun w w' => Below w.heap.size w w') (by kernel_rfl) (by kernel_rfl) (by kernel_rfl) (fun w => Below.refl _ _) (Fresh.below hS0 (Below.drew (Below.refl _ _))) ?_
            simp only [List.take_succ_cons, List.take_zero, List.drop_succ_cons, List.drop_zero]
            repeat (first
              | (refine flow_skip rfl rfl wr ?_; intro K hK; go_big_quiet_op; go_big_quiet_on)
              | (refine flow_quiet (fun w => Below.refl _ _) rfl rfl rfl rfl ?_; intro K hK; go_big_quiet_op; go_big_quiet_on)
              | (refine flow_call Cf.out _ ?_ rfl rfl rfl _ M1.out wr ?_; (focus (simp only [List.map_toArray, List.map_cons, List.map_nil]; rfl)); intro K hK; go_big_quiet_op; go_big_quiet_on))
            refine flow_nil ?_
            intro W5 ff hW5 hF5
            simp only [fillW]
            simp only [wpList, Exit.then]
            go_at_K
            clear hF5
            have hj5 : J pre W5 := hJ _ _ _ none hj (only_of_below hW5 none) (by simp)
            have hb5 : KeepsS n₀ W W5 := hb.trans (KeepsS.of_below hle hW5)
            have cB5 := (hbs.below hW5 hbs.lt).cell 0
            simp at cB5
            clear kB cB hj hb hbs hle ne hS0 hW5
            obtain ⟨fn, tmps, assign, body, hy, hR⟩ := hY pre ⟨(k, 0), hok⟩ W5 hj5 hlen
            dsimp only at hy
            rw [show ((0 : Nat) : Int) = 0 from rfl] at hy
            have HP := Lib.hid hp
            have HPL := Lib.hid hpl
            have HK := Lib.hid hb5
            clear hY hlen hp hpl hb5 hj5
            gi_wp2
            refine hR.mono ?_
            rintro e W3 (⟨rfl, hJ3, hk3⟩ | ⟨rfl, hJx3⟩)
            · clear hy hR
              gi_wp2
              first | go_end0 | refine bodyPost_ret (results_none rfl _ _ _) rfl ?_
              refine ⟨⟨_, rfl⟩, .inl ⟨_, ?_, hJ3⟩⟩
              rw [List.map_append, ← HP.out, HPL.out]
              rfl
            · clear hy hR
              gi_wp2
              first | go_end0 | refine bodyPost_ret (results_none rfl _ _ _) rfl ?_
              refine ⟨⟨_, rfl⟩, .inr ⟨_, ?_, hJx3⟩⟩
              rw [List.map_append, ← HP.out, HPL.out]
              exact List.prefix_rfl
        · have j2 : ¬ (k : Int) + 1 < (L.length : Int) := by omega
          have Cf := Lib.hid cf
          clear cf
          have M1 := Lib.hid m1
          clear m1
          have Hbe := Lib.hid hbe
          clear hbe
          have Hce := Lib.hid hce
          clear hce
          have Hb0 := Lib.hid hb0
          clear hb0
          have Hb1 := Lib.hid hb1
          clear hb1
          have Hkb0 := Lib.hid hkb0
          clear hkb0
          have Hkb1 := Lib.hid hkb1
          clear hkb1
          have Hgood := Lib.hid hgood
          clear hgood
          have Hbad := Lib.hid hbad
          clear hbad
          gi_upto_region 5 with fail
          refine wpIn_wide.2 ?_
          refine wp_region_flow 28 (Fresh wr) (fun w w' => Below w.heap.size w w') (by kernel_rfl) (by kernel_rfl) (by kernel_rfl) (fun w => Below.refl _ _) (Fresh.below hS0 (Below.drew (Below.refl _ _))) ?_
          simp only [List.take_succ_cons, List.take_zero, List.drop_succ_cons, List.drop_zero]
          repeat (first
            | (refine flow_skip rfl rfl wr ?_; intro K hK; go_big_quiet_op; go_big_quiet_on)
            | (refine flow_quiet (fun w => Below.refl _ _) rfl rfl rfl rfl ?_; intro K hK; go_big_quiet_op; go_big_quiet_on)
            | (refine flow_call Cf.out _ ?_ rfl rfl rfl _ M1.out wr ?_; (focus (simp only [List.map_toArray, List.map_cons, List.map_nil]; rfl)); intro K hK; go_big_quiet_op; go_big_quiet_on))
          refine flow_nil ?_
          intro W5 ff hW5 hF5
          simp only [fillW]
          simp only [wpList, Exit.then]
          go_at_K
          clear hF5
          have hj5 : J pre W5 := hJ _ _ _ none hj (only_of_below hW5 none) (by simp)
          have hb5 : KeepsS n₀ W W5 := hb.trans (KeepsS.of_below hle hW5)
          have cB5 := (hbs.below hW5 hbs.lt).cell 0
          simp at cB5
          clear kB cB hj hb hbs hle ne hS0 hW5
          obtain ⟨fn, tmps, assign, body, hy, hR⟩ := hY pre ⟨(k, 0), hok⟩ W5 hj5 hlen
          dsimp only at hy
          rw [show ((0 : Nat) : Int) = 0 from rfl] at hy
          have HP := Lib.hid hp
          have HPL := Lib.hid hpl
          have HK := Lib.hid hb5
          clear hY hlen hp hpl hb5 hj5
          gi_wp2
          refine hR.mono ?_
          rintro e W3 (⟨rfl, hJ3, hk3⟩ | ⟨rfl, hJx3⟩)
          · clear hy hR
            gi_wp2
            first | go_end0 | refine bodyPost_ret (results_none rfl _ _ _) rfl ?_
            refine ⟨⟨_, rfl⟩, .inl ⟨_, ?_, hJ3⟩⟩
            rw [List.map_append, ← HP.out, HPL.out]
            rfl
          · clear hy hR
            gi_wp2
            first | go_end0 | refine bodyPost_ret (results_none rfl _ _ _) rfl ?_
            refine ⟨⟨_, rfl⟩, .inr ⟨_, ?_, hJx3⟩⟩
            rw [List.map_append, ← HP.out, HPL.out]
            exact List.prefix_rfl
      · obtain ⟨h2, h3, h4, h5, h6⟩ := stepN_pos hgood
        have hpl : placesAt L k = (k, c) :: placesAt L (k + c) := by
          have := places_cons h1 hkb0 hkb1 hgood
          rwa [h5, ← hce] at this
        have hok : OkP L (k, c) ∧ InP L (k, c) := ⟨⟨h1, hkb0, hkb1, by rw [hce, ← h5]⟩, by unfold InP; rw [← hp, hpl]; simp⟩
        have hlen : pre.length < (placesAt L 0).length := by rw [← hp, hpl]; simp
        rw [← hbe, ← hce] at h3
        rw [h5, ← hce] at h4
        rw [h5, ← hce] at h6
        rw [h3] at m1
        have j2 : (k : Int) + 1 < (L.length : Int) := by omega
        have j3 : (k : Int) + (c : Int) ≤ (L.length : Int) := by omega
        have hix2 := fun W => index_at x (k + 1) (by rw [Hx.out]; exact h2) W
        rw [Hx.out, ← hce, show ((k + 1 : Nat) : Int) = (k : Int) + 1 by omega] at hix2
        have t3 : ((c : Int) == 0) = false := by simp; omega
        have Cf := Lib.hid cf
        clear cf
        have M1 := Lib.hid m1
        clear m1
        have Hbe := Lib.hid hbe
        clear hbe
        have Hce := Lib.hid hce
        clear hce
        have Hb0 := Lib.hid hb0
        clear hb0
        have Hb1 := Lib.hid hb1
        clear hb1
        have Hkb0 := Lib.hid hkb0
        clear hkb0
        have Hkb1 := Lib.hid hkb1
        clear hkb1
        have Hgood := Lib.hid hgood
        clear hgood
        have H3 := Lib.hid h3
        clear h3
        have H5 := Lib.hid h5
        clear h5
        gi_upto_region 5 with fail
        refine wpIn_wide.2 ?_
        refine wp_region_flow 28 (Fresh wr) (fun w w' => Below w.heap.size w w') (by kernel_rfl) (by kernel_rfl) (by kernel_rfl) (fun w => Below.refl _ _) (Fresh.below hS0 (Below.drew (Below.refl _ _))) ?_
        simp only [List.take_succ_cons, List.take_zero, List.drop_succ_cons, List.drop_zero]
        repeat (first
          | (refine flow_skip rfl rfl wr ?_; intro K hK; go_big_quiet_op; go_big_quiet_on)
          | (refine flow_quiet (fun w => Below.refl _ _) rfl rfl rfl rfl ?_; intro K hK; go_big_quiet_op; go_big_quiet_on)
          | (refine flow_call Cf.out _ ?_ rfl rfl rfl _ M1.out wr ?_; (focus (simp only [List.map_toArray, List.map_cons, List.map_nil]; rfl)); intro K hK; go_big_quiet_op; go_big_quiet_on))
        refine flow_nil ?_
        intro W5 ff hW5 hF5
        simp only [fillW]
        simp only [wpList, Exit.then]
        go_at_K
        clear hF5
        have hj5 : J pre W5 := hJ _ _ _ none hj (only_of_below hW5 none) (by simp)
        have hb5 : KeepsS n₀ W W5 := hb.trans (KeepsS.of_below hle hW5)
        have cB5 := (hbs.below hW5 hbs.lt).cell 0
        simp at cB5
        clear kB cB hj hb hbs hle ne hS0 hW5
        obtain ⟨fn, tmps, assign, body, hy, hR⟩ := hY pre ⟨(k, c), hok⟩ W5 hj5 hlen
        dsimp only at hy
        have HP := Lib.hid hp
        have HPL := Lib.hid hpl
        have HK := Lib.hid hb5
        clear hY hlen hp hpl hb5 hj5
        gi_wp2
        refine hR.mono ?_
        rintro e W3 (⟨rfl, hJ3, hk3⟩ | ⟨rfl, hJx3⟩)
        · clear hy hR
          gi_wp2
          go_roundw
          case rel =>
            refine ⟨k + c, _, by omega, by go_num, ?_, hJ3, HK.out.trans hk3⟩
            rw [List.map_append, List.append_assoc, ← HP.out, HPL.out]
            rfl
          case measure => simp [intOf]; omega
        · clear hy hR
          gi_wp2
          first | go_end0 | refine bodyPost_ret (results_none rfl _ _ _) rfl ?_
          refine ⟨⟨_, rfl⟩, .inr ⟨_, ?_, hJx3⟩⟩
          rw [List.map_append, ← HP.out, HPL.out]
          exact ⟨placesAt L (k + c), by simp⟩
    · have hpl : placesAt L k = [] := places_end (by rintro ⟨h, _⟩; exact h1 h)
      have j1 : ¬ (k : Int) < (L.length : Int) := by omega
      rw [hpl, List.append_nil] at hp
      have Hp := Lib.hid hp
      clear hp
      have Hpl := Lib.hid hpl
      clear hpl
      clear hY ne hb hbs hle
      gi_wp2
      first | go_end0 | refine bodyPost_ret (results_none rfl _ _ _) rfl ?_
      exact ⟨⟨_, rfl⟩, .inl ⟨pre, Hp.out, hj⟩⟩
theorem each_stops (n₀ Bs : Nat) (x : ByteArray) (L : List UInt8) (hx : x.data.toList = L) (hm : L.length ≤ 1000) (w : World) (hw : n₀ ≤ w.heap.size) (hBs : Blk w Bs 9 #[.string x]) :
    SeqStopsK Fence.wide 2 Try.prog 94 #[.pointer (some ⟨Bs, 0, none⟩)] (fun x : PV L => #[Value.int .i64 (x.1.1 : Int), Value.int .i64 (x.1.2 : Int)]) (KeepsS n₀) (fun ys => ys.map (·.1) = placesAt L 0) (fun pre => pre.map (·.1) <+: placesAt L 0) (placesAt L 0).length w :=
  fun l J Jx W hW hJ _ hY h0 => by
    refine (each1_in n₀ Bs x L hx hm l J Jx W (Nat.le_trans hw hW.size) hJ hY (hBs.below hW hBs.lt) h0).mono ?_
    rintro e W' ⟨he, h | ⟨pre, hp, hx⟩⟩
    · exact ⟨he, .inl h⟩
    · exact ⟨he, .inr ⟨pre, hp, hx⟩⟩
end Go.Proofs.Ytengegcnocdkoaa
end
section
set_option linter.unusedVariables false
set_option linter.unusedSimpArgs false
set_option maxRecDepth 20000
namespace Go.Proofs.Ytengegcnocdkoaa
open Go.RowKit Go.BigFrame Go.Shelf Go.Maps
theorem none_any (w : World) : Calls Try.prog 26 #[] w fun e w' => e = .returned (.agg #[.int .u16 0, .int .i64 (-1), .bool false, .slice none 0 0, .bool false, .int .u32 0, .int .u32 0]) ∧ Below w.heap.size w w' := by
  have hb0 : Below w.heap.size w w := Below.refl _ _
  have HB := Lib.hid hb0
  clear hb0
  go_enter Try.func26, Try.ntmps26
  go_upto_region 1 with fail
  have hr := Blk.new w 28 #[.int .u16 0, .int .i64 0, .bool false, .slice none 0 0, .bool false, .int .u32 0, .int .u32 0]
  have hB := HB.out.alloc HB.out.size (.cells #[.int .u16 0, .int .i64 0, .bool false, .slice none 0 0, .bool false, .int .u32 0, .int .u32 0] 28)
  clear HB
  obtain ⟨gr, hge⟩ : ∃ g, g = w.heap.size := ⟨_, rfl⟩
  rw [← hge] at hr ⊢
  have hle_r : w.heap.size ≤ gr := by omega
  clear hge
  generalize w.alloc _ = wn1 at *
  have Hr := Lib.hid hr
  clear hr
  have HB := Lib.hid hB
  clear hB
  have d0 := Hr.out.cell 0
  have d1 := Hr.out.cell 1
  have d2 := Hr.out.cell 2
  have d3 := Hr.out.cell 3
  have d4 := Hr.out.cell 4
  have d5 := Hr.out.cell 5
  have d6 := Hr.out.cell 6
  simp at d0 d1 d2 d3 d4 d5 d6
  have fr := Hr.out.frozen
  go_wp2
  generalize hWf : World.setCell _ _ _ = Wf
  have hf : Blk Wf gr 28 #[.int .u16 0, .int .i64 (-1), .bool false, .slice none 0 0, .bool false, .int .u32 0, .int .u32 0] := by
    rw [← hWf]
    have := ((((((Hr.out.set_ 0 (.int .u16 0)).set_ 1 (.int .i64 (-1))).set_ 2 (.bool false)).set_ 3 (.slice none 0 0)).set_ 4 (.bool false)).set_ 5 (.int .u32 0)).set_ 6 (.int .u32 0)
    simpa using this
  have hBf : Below w.heap.size w Wf := by
    rw [← hWf]
    repeat (refine Below.setCell ?_ hle_r _)
    exact HB.out
  clear hWf d0 d1 d2 d3 d4 d5 d6 fr
  have z0 := hf.cell 0
  have z1 := hf.cell 1
  have z2 := hf.cell 2
  have z3 := hf.cell 3
  have z4 := hf.cell 4
  have z5 := hf.cell 5
  have z6 := hf.cell 6
  simp at z0 z1 z2 z3 z4 z5 z6
  exact bodyPost_ret (v := .agg #[.int .u16 0, .int .i64 (-1), .bool false, .slice none 0 0, .bool false, .int .u32 0, .int .u32 0]) (by simp [results, Try.results26, go_sem, z0, z1, z2, z3, z4, z5, z6]) rfl ⟨rfl, hBf⟩
/-- which kinds were met -/
def metM (met : List Nat) : Lit → Option Value := fun kl => match kl with
  | .int .u8 i => if 0 ≤ i ∧ i.toNat ∈ met then some (.int .i64 1) else none
  | _ => none
theorem lawU8o : Keyed Try.prog 5 := int_keyed Try.underlying5
theorem keyU8o {n : Nat} (h : n < 256) : keyOf Try.prog 5 (.int .u8 (n : Int)) = some (.int .u8 (n : Int)) := keyOf_int_mk Try.underlying5 (by simp [Lit.wf, IntKind.min, IntKind.max, IntKind.signed, IntKind.bits]; omega)
theorem zeroInt (w : World) : (zeroValue 3).run Try.prog w = .ok (.int .i64 0) w := by kernel_rfl
theorem metM_at (met : List Nat) (n : Nat) : metM met (.int .u8 (n : Int)) = if n ∈ met then some (.int .i64 1) else none := by
  simp [metM]
theorem metM_upd (met : List Nat) (n : Nat) : updM (metM met) (.int .u8 (n : Int)) (some (.int .i64 1)) = metM (n :: met) := by
  funext kl
  by_cases h : kl = .int .u8 (n : Int)
  · subst h
    rw [updM_same, metM_at, if_pos List.mem_cons_self]
  · rw [updM_other _ _ h]
    cases kl with
    | int k i =>
      cases k with
      | u8 =>
        simp only [metM, List.mem_cons]
        by_cases hi : 0 ≤ i
        · have hne : i.toNat ≠ n := fun e => h (by rw [← e, Int.toNat_of_nonneg hi])
          simp [hi, hne]
        · simp [hi]
      | _ => rfl
    | _ => rfl
def blkC (p : Int × Int) : List Value := [.int .u32 p.1, .int .u32 p.2]
def optV (o : Op) (v : Value) : Array Value := #[.int .u16 (o.mss : Int), .int .i64 o.scale, .bool o.sack, v, .bool o.time, .int .u32 (o.val : Int), .int .u32 (o.echo : Int)]
/-- options in a block, their blocks in a row of the call's own -/
def OptAt (base go : Nat) (W : World) (o : Op) : Prop := ∃ v, W.ownsRow base 92 2 v o.bl.length (o.bl.flatMap blkC) ∧ Blk W go 28 (optV o v)
def DecI (w : World) (gs go ge gb gm : Nat) (x : ByteArray) (L : List UInt8) (pre : List (PV L)) (W : World) : Prop :=
  Below w.heap.size w W ∧ Blk W gs 9 #[.string x] ∧ Blk W ge 33 #[.int .i64 0] ∧ Blk W gb 107 #[.map (some gm)] ∧
    ∃ o met n, foldD L (pre.map (·.1)) (noneO, []) = some (o, met) ∧ OptAt w.heap.size go W o ∧ MapIs Try.prog 5 W gm n (metM met) ∧ n ≤ pre.length
def zeroV : Array Value := #[.int .u16 0, .int .i64 0, .bool false, .slice none 0 0, .bool false, .int .u32 0, .int .u32 0]
def DecX (w : World) (go ge : Nat) (L : List UInt8) (c : Code) (pre : List (PV L)) (W : World) : Prop :=
  c = .ret ∧ Below w.heap.size w W ∧ foldD L (pre.map (·.1)) (noneO, []) = none ∧ Blk W go 28 zeroV ∧ Blk W ge 33 #[.int .i64 70]
theorem blk_notrow {W W' : World} {row : Option Nat} {g : Nat} {t : TypeId} {cs : Array Value} (h : Blk W g t cs) (hg : W.grownBy W' row) (hr : ∀ r, row = some r → ∃ o : Obj, W.heap[r]? = some o ∧ o.isCells = false) : Blk W' g t cs :=
  h.grown hg (fun e => by
    obtain ⟨o, h1, h2⟩ := hr g e.symm
    rw [show W.heap[g]? = _ from h] at h1
    cases h1
    cases h2)
theorem own_notrow {W W' : World} {row : Option Nat} {base n size : Nat} {e : TypeId} {v : Value} {xs : List Value} (h : W.ownsRow base e size v n xs) (hg : W.grownBy W' row) (hr : ∀ r, row = some r → ∃ o : Obj, W.heap[r]? = some o ∧ o.isCells = false) : W'.ownsRow base e size v n xs := by
  refine h.kept hg ?_
  rcases h.2 with ⟨rfl, _⟩ | ⟨g, cap, cur, rfl, _, hgg, _⟩
  · exact .inl rfl
  · refine .inr (fun he => ?_)
    obtain ⟨o, h1, h2⟩ := hr g he.symm
    rw [hgg] at h1
    cases h1
    cases h2
theorem DecI.own {w w0 : World} {gs go ge gb gm : Nat} {x : ByteArray} {L : List UInt8} {B : Nat} (hw : w.heap.size ≤ B) (hgm : gm < B) : OwnFrom B (DecI w gs go ge gb gm x L) := by
  intro pre W W' row ⟨h1, h2, h3, h4, o, met, n, h5, ⟨v, h6, h7⟩, h8, h9⟩ hg hr
  have hr2 : ∀ r, row = some r → ∃ o : Obj, W.heap[r]? = some o ∧ o.isCells = false := fun r e => (hr r e).2
  refine ⟨ownFrom_below (Nat.le_refl _) hw pre W W' row h1 hg hr, blk_notrow h2 hg hr2, blk_notrow h3 hg hr2, blk_notrow h4 hg hr2, o, met, n, h5, ⟨v, own_notrow h6 hg hr2, blk_notrow h7 hg hr2⟩, h8.kept hg (fun e => ?_), h9⟩
  have := (hr gm e.symm).1
  omega
theorem DecX.own {w : World} {go ge : Nat} {L : List UInt8} {B : Nat} (hw : w.heap.size ≤ B) (c : Code) : OwnFrom B (DecX w go ge L c) := by
  intro pre W W' row ⟨h0, h1, h2, h3, h4⟩ hg hr
  have hr2 : ∀ r, row = some r → ∃ o : Obj, W.heap[r]? = some o ∧ o.isCells = false := fun r e => (hr r e).2
  exact ⟨h0, ownFrom_below (Nat.le_refl _) hw pre W W' row h1 hg hr, h2, blk_notrow h3 hg hr2, blk_notrow h4 hg hr2⟩
theorem keepsFrom_out {O : Nat → Prop} {B : Nat} {W W' : World} (h : Out O W W') (hO : ∀ i, O i → i < B ∨ ∃ cs t d, W.heap[i]? = some (.cells cs t d)) : KeepsFrom B W W' :=
  ⟨h.size, fun k o hB hk ho => (h.block k (Array.getElem?_eq_some_iff.1 hk).1 (fun hOk => by
    rcases hO k hOk with h1 | ⟨cs, t, d, h1⟩
    · omega
    · rw [hk] at h1; cases h1; cases ho)).trans hk⟩
theorem own_cells {W : World} {base n size : Nat} {e : TypeId} {v : Value} {xs : List Value} (h : W.ownsRow base e size v n xs) {i : Nat} (hi : v.ownBlock = some i) : base ≤ i ∧ ∃ cs, W.heap[i]? = some (.cells cs e (0, 0)) := by
  rcases h.2 with ⟨rfl, _⟩ | ⟨g, cap, cur, rfl, hb, hgg, _⟩
  · cases hi
  · cases hi
    exact ⟨hb, cur, hgg⟩
theorem map_not_blk {P : Program} {k : TypeId} {W : World} {b n g : Nat} {M : Lit → Option Value} {t : TypeId} {cs : Array Value} (h : MapIs P k W b n M) (hb : Blk W g t cs) : g ≠ b := by
  rintro rfl
  obtain ⟨es, cl, h1, _⟩ := h.size
  rw [show W.heap[g]? = _ from hb] at h1
  cases h1
/-- what a round may turn -/
def DecO (go gm : Nat) (v : Value) : Nat → Prop := fun i => i = go ∨ i = gm ∨ v.ownBlock = some i
theorem dec_next {w W W' : World} {gs go ge gb gm B n : Nat} {x : ByteArray} {L : List UInt8} {v : Value} {l : List (Int × Int)} {cs : Array Value} {M : Lit → Option Value} {pre' : List (PV L)}
    (hB : Below w.heap.size w W) (hs : Blk W gs 9 #[.string x]) (he : Blk W ge 33 #[.int .i64 0]) (hb : Blk W gb 107 #[.map (some gm)])
    (hv : W.ownsRow w.heap.size 92 2 v l.length (l.flatMap blkC)) (ho : Blk W go 28 cs) (hM : MapIs Try.prog 5 W gm n M)
    (h1 : w.heap.size ≤ go) (h2 : w.heap.size ≤ gm) (h3 : go < B) (h4 : gm < B) (hout : Out (DecO go gm v) W W')
    (hnew : ∃ o met n, foldD L (pre'.map (·.1)) (noneO, []) = some (o, met) ∧ OptAt w.heap.size go W' o ∧ MapIs Try.prog 5 W' gm n (metM met) ∧ n ≤ pre'.length) :
    KeepsFrom B W W' ∧ KeepsS w.heap.size W W' ∧ DecI w gs go ge gb gm x L pre' W' := by
  have hbase : ∀ i, DecO go gm v i → w.heap.size ≤ i := by
    rintro i (rfl | rfl | h)
    · exact h1
    · exact h2
    · exact (own_cells hv h).1
  have hty : ∀ {g : Nat} {t : TypeId} {cs' : Array Value}, Blk W g t cs' → t ≠ 28 → t ≠ 92 → Blk W' g t cs' := by
    intro g t cs' hg h5 h6
    refine (hout.block g hg.lt ?_).trans hg
    rintro (rfl | rfl | h)
    · have ho2 : W.heap[g]? = _ := ho
      rw [show W.heap[g]? = _ from hg] at ho2
      injection ho2 with e
      injection e with _ e
      exact h5 e
    · exact map_not_blk hM hg rfl
    · obtain ⟨_, c, hc⟩ := own_cells hv h
      rw [show W.heap[g]? = _ from hg] at hc
      injection hc with e
      injection e with _ e
      exact h6 e
  have hbw : Below w.heap.size W W' := hout.below hB.size (fun i hi h => by have := hbase i h; omega)
  refine ⟨keepsFrom_out hout ?_, ⟨hbw, fun i cs' hi => hty hi (by decide) (by decide)⟩, hB.trans hbw, hty hs (by decide) (by decide), hty he (by decide) (by decide), hty hb (by decide) (by decide), hnew⟩
  rintro i (rfl | rfl | h)
  · exact .inl h3
  · exact .inl h4
  · obtain ⟨_, c, hc⟩ := own_cells hv h
    exact .inr ⟨_, _, _, hc⟩
theorem dec_stop {w W W' : World} {go ge gm B : Nat} {L : List UInt8} {v : Value} {l : List (Int × Int)} {pre' : List (PV L)}
    (hB : Below w.heap.size w W) (hv : W.ownsRow w.heap.size 92 2 v l.length (l.flatMap blkC))
    (h1 : w.heap.size ≤ go) (h2 : w.heap.size ≤ gm) (h5 : w.heap.size ≤ ge) (h3 : go < B) (h4 : gm < B) (h6 : ge < B) (hout : Out (fun i => DecO go gm v i ∨ i = ge) W W')
    (hf : foldD L (pre'.map (·.1)) (noneO, []) = none) (ho : Blk W' go 28 zeroV) (he : Blk W' ge 33 #[.int .i64 70]) :
    KeepsFrom B W W' ∧ DecX w go ge L .ret pre' W' := by
  have hbase : ∀ i, (DecO go gm v i ∨ i = ge) → w.heap.size ≤ i := by
    rintro i ((rfl | rfl | h) | rfl)
    · exact h1
    · exact h2
    · exact (own_cells hv h).1
    · exact h5
  have hbw : Below w.heap.size W W' := hout.below hB.size (fun i hi h => by have := hbase i h; omega)
  refine ⟨keepsFrom_out hout ?_, rfl, hB.trans hbw, hf, ho, he⟩
  rintro i ((rfl | rfl | h) | rfl)
  · exact .inl h3
  · exact .inl h4
  · obtain ⟨_, c, hc⟩ := own_cells hv h
    exact .inr ⟨_, _, _, hc⟩
  · exact .inl h6
theorem places_len (L : List UInt8) : ∀ (f i : Nat), (placesF f L i).length ≤ f := by
  intro f
  induction f with
  | zero => intro i; simp [placesF]
  | succ f ih =>
    intro i
    simp only [placesF]
    split
    · split
      · have := ih (i + 1); omega
      · rw [List.length_cons]
        split
        · simp
        · have := ih (i + stepN L i); omega
    · simp
theorem blocksF_eq : ∀ (f g : Nat) (B : List UInt8), B.length ≤ f → B.length ≤ g → blocksF f B = blocksF g B := by
  intro f
  induction f with
  | zero =>
    intro g B h _
    have : B = [] := List.length_eq_zero_iff.1 (by omega)
    subst this
    cases g <;> simp [blocksF]
  | succ f ih =>
    intro g B hf hg
    cases g with
    | zero =>
      have : B = [] := List.length_eq_zero_iff.1 (by omega)
      subst this
      simp [blocksF]
    | succ g =>
      simp only [blocksF]
      by_cases hB : B = []
      · rw [if_pos hB, if_pos hB]
      · rw [if_neg hB, if_neg hB]
        have hl : 0 < B.length := List.length_pos_iff.2 hB
        rw [ih g (B.drop 8) (by rw [List.length_drop]; omega) (by rw [List.length_drop]; omega)]
def blocksL (B : List UInt8) : List (Int × Int) := blocksF B.length B
theorem blocksL_nil : blocksL [] = [] := rfl
theorem blocksL_step {B : List UInt8} (h : B ≠ []) : blocksL B = (((numL (B.take 4) : Nat) : Int), ((numL ((B.drop 4).take 4) : Nat) : Int)) :: blocksL (B.drop 8) := by
  have hl : 0 < B.length := List.length_pos_iff.2 h
  obtain ⟨n, hn⟩ : ∃ n, B.length = n + 1 := ⟨B.length - 1, by omega⟩
  unfold blocksL
  rw [hn]
  simp only [blocksF]
  rw [if_neg h]
  congr 1
  exact blocksF_eq _ _ _ (by rw [List.length_drop]; omega) (Nat.le_refl _)
theorem infoBo : (Try.prog.info? 92).map (fun i => (i.zero, i.size, i.bytes)) = some (some (.agg #[.int .u32 0, .int .u32 0]), 2, 8) := by kernel_rfl
theorem foldD_append (L : List UInt8) (l m : List (Nat × Nat)) (st : Op × List Nat) : foldD L (l ++ m) st = (foldD L l st).bind fun s => foldD L m s := by
  unfold foldD
  rw [List.foldlM_append]
  rfl
theorem blocksF_len : ∀ (f : Nat) (B : List UInt8), (blocksF f B).length ≤ f := by
  intro f
  induction f with
  | zero => intro B; simp [blocksF]
  | succ f ih =>
    intro B
    simp only [blocksF]
    split
    · simp
    · rw [List.length_cons]
      have := ih (B.drop 8)
      omega
theorem body_len (L : List UInt8) (p : Nat × Nat) : (bodyL L p).length ≤ L.length := by
  unfold bodyL
  rw [List.length_take, List.length_drop]
  omega
theorem takeP_bl {L : List UInt8} {o o2 : Op} {p : Nat × Nat} (h : takeP L o p = some o2) : o2.bl.length ≤ o.bl.length + L.length := by
  unfold takeP at h
  simp only at h
  split at h
  · split at h
    · cases h
    · cases h; simp
  split at h
  · cases h; simp
  split at h
  · cases h; simp
  split at h
  · cases h; simp
  split at h
  · cases h
    have h1 := blocksF_len (bodyL L p).length (bodyL L p)
    have h2 := body_len L p
    simp only [List.length_append]
    omega
  · cases h; simp
theorem fold_bl (L : List UInt8) : ∀ (l : List (Nat × Nat)) (st : Op × List Nat) (o : Op) (met : List Nat), foldD L l st = some (o, met) → o.bl.length ≤ st.1.bl.length + L.length * l.length := by
  intro l
  induction l with
  | nil =>
    intro st o met h
    have : some st = some (o, met) := h
    cases this
    simp
  | cons p l ih =>
    intro st o met h
    have h1 : (stepD L st p).bind (fun s => foldD L l s) = some (o, met) := by
      unfold foldD at h
      rw [List.foldlM_cons] at h
      exact h
    cases hs : stepD L st p with
    | none => rw [hs] at h1; cases h1
    | some s2 =>
      rw [hs] at h1
      have h2 := ih s2 o met h1
      unfold stepD at hs
      split at hs
      · cases hs
      · cases ht : takeP L st.1 p with
        | none => rw [ht] at hs; cases hs
        | some o2 =>
          rw [ht] at hs
          cases hs
          have h3 := takeP_bl ht
          simp only [List.length_cons] at *
          rw [Nat.mul_succ]
          omega
end Go.Proofs.Ytengegcnocdkoaa
end
section
set_option linter.unusedVariables false
set_option linter.unusedSimpArgs false
set_option maxRecDepth 20000
namespace Go.Proofs.Ytengegcnocdkoaa
open Go.RowKit Go.BigFrame
def encR (o : Op) : ByteArray × Int := if mayB o = true then (⟨(rawL o).toArray⟩, 0) else (⟨#[]⟩, 2)
theorem mayB_parts {o : Op} (h : mayB o = true) : -1 ≤ o.scale ∧ o.scale ≤ 14 ∧ o.bl.length ≤ 4 ∧ (rawL o).length ≤ 40 := by
  unfold mayB at h
  simp only [Bool.and_eq_true, decide_eq_true_eq] at h
  exact ⟨h.1, h.2.1, h.2.2.1, h.2.2.2.2⟩
set_option maxHeartbeats 2000000 in
theorem enc_any (w : World) (o : Op) (A : Option Addr) (c : Nat) (ho : o.wf) (hr : BlR w A o.bl) (hn : o.bl.length ≤ 1000) :
    Calls Try.prog 27 #[.agg (optC o A c)] w fun e w' => e = .returned (.tuple #[.string (encR o).1, .int .i64 (encR o).2]) ∧ Below w.heap.size w w' := by
  have hmy := fun W (h : BlR W A o.bl) => may_any W o A c ho h hn
  have hrw := fun (h : mayB o = true) W (h2 : BlR W A o.bl) => raw_any W o A c (ho.ok (mayB_parts h).1 (mayB_parts h).2.1) h2 (mayB_parts h).2.2.1
  have hE : encR o = if mayB o = true then (⟨(rawL o).toArray⟩, 0) else (⟨#[]⟩, 2) := rfl
  generalize encR o = E at *
  obtain ⟨R, hR⟩ : ∃ R, R = (⟨(rawL o).toArray⟩ : ByteArray) := ⟨_, rfl⟩
  rw [← hR] at hE
  simp only [← hR] at hrw
  generalize mayB o = mb at *
  have hb0 : Below w.heap.size w w := Below.refl _ _
  have HB := Lib.hid hb0
  clear hb0 hn ho
  unfold optC at *
  generalize (o.mss : Int) = m at *
  generalize (o.val : Int) = vl at *
  generalize (o.echo : Int) = ec at *
  generalize o.scale = sc at *
  generalize o.sack = sk at *
  generalize o.time = tm at *
  generalize hl : o.bl = l at *
  generalize l.length = n at *
  clear hl
  have Hmy := Lib.hid hmy
  clear hmy
  have Hrw := Lib.hid hrw
  clear hrw
  have HE := Lib.hid hE
  clear hE
  have HR := Lib.hid hR
  clear hR
  have Hr := Lib.hid hr
  clear hr
  go_enter Try.func27, Try.ntmps27
  go_upto_region 1 with fail
  have hq := Blk.new w 28 #[.int .u16 m, .int .i64 sc, .bool sk, .slice A n c, .bool tm, .int .u32 vl, .int .u32 ec]
  have hB := HB.out.alloc HB.out.size (.cells #[.int .u16 m, .int .i64 sc, .bool sk, .slice A n c, .bool tm, .int .u32 vl, .int .u32 ec] 28)
  clear HB
  obtain ⟨gq, hge⟩ : ∃ g, g = w.heap.size := ⟨_, rfl⟩
  rw [← hge] at hq ⊢
  clear hge
  generalize w.alloc _ = w1 at *
  have Hq := Lib.hid hq
  clear hq
  have HB := Lib.hid hB
  clear hB
  have c0 := Hq.out.cell 0
  have c1 := Hq.out.cell 1
  have c2 := Hq.out.cell 2
  have c3 := Hq.out.cell 3
  have c4 := Hq.out.cell 4
  have c5 := Hq.out.cell 5
  have c6 := Hq.out.cell 6
  simp at c0 c1 c2 c3 c4 c5 c6
  go_wp2_with fail
  (with_reducible refine (Hmy.out _ (Hr.out.below HB.out)).mono ?_)
  rintro e w2 ⟨rfl, hbq⟩
  have hq := Hq.out.below hbq Hq.out.lt
  clear Hq
  have Hq := Lib.hid hq
  clear hq
  have hB := HB.out.trans (hbq.mono HB.out.size)
  clear HB
  have HB := Lib.hid hB
  clear hB
  clear hbq
  cases mb with
  | false =>
    go_wp2
    go_ret2
    have e : E = (⟨#[]⟩, 2) := HE.out
    rw [e]
    exact ⟨rfl, HB.out⟩
  | true =>
    clear c0 c1 c2 c3 c4 c5 c6
    have d0 := Hq.out.cell 0
    have d1 := Hq.out.cell 1
    have d2 := Hq.out.cell 2
    have d3 := Hq.out.cell 3
    have d4 := Hq.out.cell 4
    have d5 := Hq.out.cell 5
    have d6 := Hq.out.cell 6
    simp at d0 d1 d2 d3 d4 d5 d6
    go_wp2_with fail
    (with_reducible refine (Hrw.out trivial _ (Hr.out.below HB.out)).mono ?_)
    rintro e w3 ⟨rfl, hbq⟩
    have hq := Hq.out.below hbq Hq.out.lt
    clear Hq
    have Hq := Lib.hid hq
    clear hq
    have hB := HB.out.trans (hbq.mono HB.out.size)
    clear HB
    have HB := Lib.hid hB
    clear hB
    clear hbq
    go_wp2
    go_ret2
    have e : E = (R, 0) := HE.out
    rw [e]
    exact ⟨rfl, HB.out⟩
set_option maxHeartbeats 2000000 in
theorem renc_any (w : World) (o : Op) (A : Option Addr) (c : Nat) (ho : o.wf) (hr : BlR w A o.bl) (hn : o.bl.length ≤ 1000) :
    Calls Try.prog 30 #[.agg (optC o A c)] w fun e w' => e = .returned (.tuple #[.string (encR o).1, .int .i64 (encR o).2]) ∧ Below w.heap.size w w' := by
  have hmy := fun W (h : BlR W A o.bl) => rmay_any W o A c ho h hn
  have hrw := fun (h : mayB o = true) W (h2 : BlR W A o.bl) => rraw_any W o A c (ho.ok (mayB_parts h).1 (mayB_parts h).2.1) h2 (mayB_parts h).2.2.1
  have hE : encR o = if mayB o = true then (⟨(rawL o).toArray⟩, 0) else (⟨#[]⟩, 2) := rfl
  generalize encR o = E at *
  obtain ⟨R, hR⟩ : ∃ R, R = (⟨(rawL o).toArray⟩ : ByteArray) := ⟨_, rfl⟩
  rw [← hR] at hE
  simp only [← hR] at hrw
  generalize mayB o = mb at *
  have hb0 : Below w.heap.size w w := Below.refl _ _
  have HB := Lib.hid hb0
  clear hb0 hn ho
  unfold optC at *
  generalize (o.mss : Int) = m at *
  generalize (o.val : Int) = vl at *
  generalize (o.echo : Int) = ec at *
  generalize o.scale = sc at *
  generalize o.sack = sk at *
  generalize o.time = tm at *
  generalize hl : o.bl = l at *
  generalize l.length = n at *
  clear hl
  have Hmy := Lib.hid hmy
  clear hmy
  have Hrw := Lib.hid hrw
  clear hrw
  have HE := Lib.hid hE
  clear hE
  have HR := Lib.hid hR
  clear hR
  have Hr := Lib.hid hr
  clear hr
  go_enter Try.func30, Try.ntmps30
  go_upto_region 1 with fail
  have hq := Blk.new w 28 #[.int .u16 m, .int .i64 sc, .bool sk, .slice A n c, .bool tm, .int .u32 vl, .int .u32 ec]
  have hB := HB.out.alloc HB.out.size (.cells #[.int .u16 m, .int .i64 sc, .bool sk, .slice A n c, .bool tm, .int .u32 vl, .int .u32 ec] 28)
  clear HB
  obtain ⟨gq, hge⟩ : ∃ g, g = w.heap.size := ⟨_, rfl⟩
  rw [← hge] at hq ⊢
  clear hge
  generalize w.alloc _ = w1 at *
  have Hq := Lib.hid hq
  clear hq
  have HB := Lib.hid hB
  clear hB
  have c0 := Hq.out.cell 0
  have c1 := Hq.out.cell 1
  have c2 := Hq.out.cell 2
  have c3 := Hq.out.cell 3
  have c4 := Hq.out.cell 4
  have c5 := Hq.out.cell 5
  have c6 := Hq.out.cell 6
  simp at c0 c1 c2 c3 c4 c5 c6
  go_wp2_with fail
  (with_reducible refine (Hmy.out _ (Hr.out.below HB.out)).mono ?_)
  rintro e w2 ⟨rfl, hbq⟩
  have hq := Hq.out.below hbq Hq.out.lt
  clear Hq
  have Hq := Lib.hid hq
  clear hq
  have hB := HB.out.trans (hbq.mono HB.out.size)
  clear HB
  have HB := Lib.hid hB
  clear hB
  clear hbq
  cases mb with
  | false =>
    go_wp2
    go_ret2
    have e : E = (⟨#[]⟩, 2) := HE.out
    rw [e]
    exact ⟨rfl, HB.out⟩
  | true =>
    clear c0 c1 c2 c3 c4 c5 c6
    have d0 := Hq.out.cell 0
    have d1 := Hq.out.cell 1
    have d2 := Hq.out.cell 2
    have d3 := Hq.out.cell 3
    have d4 := Hq.out.cell 4
    have d5 := Hq.out.cell 5
    have d6 := Hq.out.cell 6
    simp at d0 d1 d2 d3 d4 d5 d6
    go_wp2_with fail
    (with_reducible refine (Hrw.out trivial _ (Hr.out.below HB.out)).mono ?_)
    rintro e w3 ⟨rfl, hbq⟩
    have hq := Hq.out.below hbq Hq.out.lt
    clear Hq
    have Hq := Lib.hid hq
    clear hq
    have hB := HB.out.trans (hbq.mono HB.out.size)
    clear HB
    have HB := Lib.hid hB
    clear hB
    clear hbq
    go_wp2
    go_ret2
    have e : E = (R, 0) := HE.out
    rw [e]
    exact ⟨rfl, HB.out⟩
end Go.Proofs.Ytengegcnocdkoaa
end
