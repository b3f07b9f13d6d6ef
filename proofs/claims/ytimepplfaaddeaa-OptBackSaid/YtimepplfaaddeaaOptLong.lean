/- Layer 7 (opt): slices.Contains at ints, long, None; the reference's right, known, None. -/
import Derived.Test.YtimepplfaaddeaaOptPlain
import Derived.Test.YtimepplfaaddeaaWords
import Derived.Carry
import Derived.Maps.Own
import Derived.RangeFuncRecord
set_option linter.unusedVariables false
set_option linter.unusedSimpArgs false
namespace Go.Proofs.Ytimepplfaaddeaa
open Go.RowKit Go.BigFrame Go.ChangeMaps

theorem contains_any (g : Nat) (l : List Int) (x : Int) (w : World) (h : Blk w g 3 (l.map (Value.int .i64)).toArray) (hn : l.length ≤ 1000) :
    Calls Try.prog 45 #[.slice (some ⟨g, 0, none⟩) l.length l.length, .int .i64 x] w fun e w' => (∃ r : Int, e = .returned (.int .i64 r) ∧ (0 ≤ r ↔ x ∈ l)) ∧ w = w' := by
  obtain ⟨n, hn'⟩ : ∃ n, n = l.length := ⟨_, rfl⟩
  rw [← hn'] at hn ⊢
  have hlt := h.lt
  have H := Lib.hid h
  clear h
  have Hn' := Lib.hid hn'
  clear hn'
  go_enter Try.func45, Try.ntmps45
  go_wp2
  go_loopw [8] (fun i wr => w = wr ∧ ∃ k : Nat, k ≤ n ∧ i = .int .i64 (k : Int) ∧ x ∉ l.take k) (fun i _ => n - (intOf i).toNat)
  case atStart => exact ⟨rfl, 0, Nat.zero_le _, rfl, by simp⟩
  case round =>
    obtain ⟨rfl, k, hk, rfl, hx⟩ := hrel
    by_cases hkn : k < n
    · have hkl : k < l.length := by rw [← Hn'.out]; exact hkn
      obtain ⟨v, hv⟩ : ∃ v, v = l[k] := ⟨_, rfl⟩
      have hc : w.cell? ⟨g, k, none⟩ = some (.int .i64 v) := by
        have := H.out.cell k
        rw [this]
        simp [hv, hkl]
      have j1 : (k : Int) < (n : Int) := by omega
      have hmem : x ∈ l.take (k + 1) ↔ x = v := by
        rw [List.take_add_one, List.getElem?_eq_getElem hkl, ← hv]
        simp
        intro h
        exact absurd h hx
      have hvl : v ∈ l := by rw [hv]; exact List.getElem_mem _
      by_cases hxv : x = v
      · subst hxv
        have e1 : (x == x) = true := beq_self_eq_true _
        have Hx := Lib.hid hx
        clear hx
        have Hmem := Lib.hid hmem
        clear hmem
        have Hvl := Lib.hid hvl
        clear hvl
        have Hv := Lib.hid hv
        clear hv
        go_wp2
        go_ret
        exact ⟨⟨(k : Int), rfl, fun _ => Hvl.out, fun _ => by omega⟩, rfl⟩
      · have e1 : (x == v) = false := by simpa using hxv
        have hx2 : x ∉ l.take (k + 1) := fun h => hxv (hmem.1 h)
        have Hx := Lib.hid hx
        clear hx
        have Hmem := Lib.hid hmem
        clear hmem
        have Hvl := Lib.hid hvl
        clear hvl
        have Hv := Lib.hid hv
        clear hv
        have Hx2 := Lib.hid hx2
        clear hx2
        clear hxv
        go_wp2
        go_roundw
        case rel => exact ⟨trivial, k + 1, by omega, by go_num, Hx2.out⟩
        case measure => simp [intOf]; omega
    · obtain rfl : k = n := by omega
      rw [Hn'.out, List.take_length] at hx
      have j1 : ¬ (k : Int) < (k : Int) := by omega
      have Hx := Lib.hid hx
      clear hx
      go_wp2
      go_ret
      exact ⟨⟨-1, rfl, fun h => by omega, fun h => absurd h Hx.out⟩, rfl⟩
theorem has_any (g : Nat) (l : List Int) (x : Int) (w : World) (h : Blk w g 3 (l.map (Value.int .i64)).toArray) (hn : l.length ≤ 1000) :
    Calls Try.prog 42 #[.slice (some ⟨g, 0, none⟩) l.length l.length, .int .i64 x] w fun e w' => e = .returned (.bool (decide (x ∈ l))) ∧ w = w' := by
  have hc := contains_any g l x w h hn
  generalize l.length = n at *
  have HC := Lib.hid hc
  clear hc h hn
  go_enter Try.func42, Try.ntmps42
  go_wp2_with fail
  (with_reducible refine (HC.out).mono ?_)
  rintro e w' ⟨⟨r, rfl, hr⟩, rfl⟩
  have hd : decide (x ∈ l) = decide (0 ≤ r) := by
    by_cases h : 0 ≤ r
    · rw [decide_eq_true h, decide_eq_true (hr.1 h)]
    · rw [decide_eq_false h, decide_eq_false (fun hm => h (hr.2 hm))]
  have HD := Lib.hid hd
  clear hd hr
  go_wp2
  go_ret
  exact ⟨ret_bool HD.out.symm, rfl⟩
/-- an entry that a literal of a map lays, under a key that is not there yet -/
theorem wpl_insert_new {P : Program} {ops : Array Oper} {rest : List Oper} {o : Oper} {a : Act} {Q : Exit → Act → World → Prop} {w : World} (hg : o.guard = none) (m x v : Operand) (t : TypeId) (hop : o.op = .insert t m x v)
    (kt et : TypeId) (q : IntKind) (ht : P.underlying t = some (.map kt et)) (hk : P.underlying kt = some (.int q)) (g : Nat) (es : Array MapEntry) (clock : Nat) (hm : a.eval m = .map (some g)) (hb : w.heap[g]? = some (.map es clock))
    (key : Int) (hx : a.eval x = .int q key) (hnew : Instr.findNow (.int q) (.int q key) es.toList 0 = some none) (val : Value) (hv : a.eval v = val)
    (hK : ∀ w', w'.heap[g]? = some (.map (es.push ⟨.int q key, val, clock⟩) (clock + 1)) → w.grownBy w' (some g) → wpList P ops Q rest (a.put o.dst undef) w') :
    wpList P ops Q (o :: rest) a w := by
  have hrun : (Instr.mapUpdate t (.map (some g)) (.int q key) val).run P w = .ok () (setBlock w g (.map (es.push ⟨.int q key, val, clock⟩) (clock + 1))) := by
    have hc : (Instr.checkKey false 10000 kt (.int q key)).run P w = .ok () w := MapKept.run_checkKey (k := .int q key) hk (by simp [MapKept.IsKey]) false 9999
    have h1 : (Instr.mapUpdate t (.map (some g)) (.int q key) val).run P w = .ok () { w with heap := w.heap.setIfInBounds g (.map (es.push ⟨.int q key, val, clock⟩) (clock + 1)) } := by
      simp [Instr.mapUpdate, run_underlying ht, MapKept.run_getObj_map hb, hc, MapKept.run_findKey hk hnew, MapKept.run_setObj_map _ hb, Result.andThen]
    rw [h1]
    rfl
  refine wpList_plain hg fun K' hK' => ?_
  unfold Oper.wp
  simp [execOp, hop, hm, hx, hv, hrun, Result.andThen]
  exact hK' _ _ (hK _ (heap_setBlock_same hb _) ⟨rfl, rfl, rfl, by simp [setBlock], fun i _ hi => heap_setBlock_other hb _ (fun e => hi (by rw [e]))⟩)
theorem lookI_run {W : World} {g : Nat} {es : Array MapEntry} {c : Nat} (hm : W.heap[g]? = some (.map es c)) (d : Int) (i : Nat) (v : Value) (h : Instr.findNow (.int .u8) (.int .u8 d) es.toList 0 = some (some (i, v))) :
    (Instr.lookup 78 (.map (some g)) (.int .u8 d) true).run Try.prog W = .ok (.tuple #[v, .bool true]) W := by
  have hc : ∀ b, (Instr.checkKey b 10000 5 (.int .u8 d)).run Try.prog W = .ok () W := fun b => MapKept.run_checkKey (k := .int .u8 d) Try.underlying5 (by simp [MapKept.IsKey]) b 9999
  simp [Instr.lookup, run_underlying Try.underlying78, MapKept.run_getObj_map hm, hc, MapKept.run_findKey Try.underlying5 h, Result.andThen]
theorem lookI_none {W : World} {g : Nat} {es : Array MapEntry} {c : Nat} (hm : W.heap[g]? = some (.map es c)) (d : Int) (h : Instr.findNow (.int .u8) (.int .u8 d) es.toList 0 = some none) :
    (Instr.lookup 78 (.map (some g)) (.int .u8 d) true).run Try.prog W = .ok (.tuple #[.slice none 0 0, .bool false]) W := by
  have hc : ∀ b, (Instr.checkKey b 10000 5 (.int .u8 d)).run Try.prog W = .ok () W := fun b => MapKept.run_checkKey (k := .int .u8 d) Try.underlying5 (by simp [MapKept.IsKey]) b 9999
  have hz : (zeroValue 57).run Try.prog W = .ok (.slice none 0 0) W := by kernel_rfl
  simp [Instr.lookup, run_underlying Try.underlying78, MapKept.run_getObj_map hm, hc, MapKept.run_findKey Try.underlying5 h, hz, Result.andThen]
theorem mp_alloc {w : World} {g : Nat} {o : Obj} (h : w.heap[g]? = some o) (o' : Obj) : (w.alloc o').heap[g]? = some o := by
  exact ((World.grownBy_alloc w o' none).block g (Array.getElem?_eq_some_iff.1 h).1 (by simp)).trans h
theorem stepB {A B : World} {g m : Nat} {t : TypeId} {cs : Array Value} {o : Obj} (h : Blk A g t cs) (hg : (A.alloc o).grownBy B (some m)) (hne : g ≠ m) : Blk B g t cs := (h.alloc o).grown hg (fun e => hne (Option.some.inj e))
theorem mp_grown {w w' : World} {g b : Nat} {t : TypeId} {cs : Array Value} (h : Blk w g t cs) (hg : w.grownBy w' (some b)) (hne : g ≠ b) : Blk w' g t cs := h.grown hg (fun e => hne (Option.some.inj e))
set_option maxHeartbeats 4000000 in
theorem long_any (k n : Nat) (w : World) (hk : k < 256) :
    Calls Try.prog 37 #[.int .u8 (k : Int), .int .i64 (n : Int)] w fun e w' => e = .returned (.bool (longB k n)) ∧ Below w.heap.size w w' := by
  obtain ⟨m, hm⟩ : ∃ m, m = w.heap.size := ⟨_, rfl⟩
  have hM0 : (w.alloc (.map #[] 0)).heap[m]? = some (.map #[] 0) := by rw [hm]; exact World.alloc_heap_new w _
  have hb0 : Below w.heap.size w (w.alloc (.map #[] 0)) := (Below.refl _ _).alloc (Nat.le_refl _) _
  have hs0 : m < (w.alloc (.map #[] 0)).heap.size := by rw [hm]; simp
  have hmk : (Instr.makeMap 78 none).run Try.prog w = .ok (.map (some w.heap.size)) (w.alloc (.map #[] 0)) := by kernel_rfl
  have Hm := Lib.hid hm
  clear hm
  go_enter Try.func37, Try.ntmps37
  go_upto_region 2 with (first
    | (refine wpl_insert_new rfl (.tmp 8) (.const (.int .u8 2)) (.tmp 9) 78 rfl 5 57 .u8 Try.underlying78 Try.underlying5 m _ _ (by simp [Act.eval, Hm.out]) (mp_alloc hM0 _) 2 rfl rfl _ rfl ?_; intro W1 hM1 hg1)
    | (refine wpl_insert_new rfl (.tmp 8) (.const (.int .u8 3)) (.tmp 10) 78 rfl 5 57 .u8 Try.underlying78 Try.underlying5 m _ _ (by simp [Act.eval, Hm.out]) (mp_alloc hM1 _) 3 rfl rfl _ rfl ?_; intro W2 hM2 hg2)
    | (refine wpl_insert_new rfl (.tmp 8) (.const (.int .u8 4)) (.tmp 11) 78 rfl 5 57 .u8 Try.underlying78 Try.underlying5 m _ _ (by simp [Act.eval, Hm.out]) (mp_alloc hM2 _) 4 rfl rfl _ rfl ?_; intro W3 hM3 hg3)
    | (refine wpl_insert_new rfl (.tmp 8) (.const (.int .u8 5)) (.tmp 12) 78 rfl 5 57 .u8 Try.underlying78 Try.underlying5 m _ _ (by simp [Act.eval, Hm.out]) (mp_alloc hM3 _) 5 rfl rfl _ rfl ?_; intro W4 hM4 hg4)
    | (refine wpl_insert_new rfl (.tmp 8) (.const (.int .u8 8)) (.tmp 13) 78 rfl 5 57 .u8 Try.underlying78 Try.underlying5 m _ _ (by simp [Act.eval, Hm.out]) (mp_alloc hM4 _) 8 rfl rfl _ rfl ?_; intro W5 hM5 hg5))
  have z1 : w.heap.size + 2 ≤ W1.heap.size := by have := hg1.size; simp at this; omega
  have z2 : W1.heap.size + 1 ≤ W2.heap.size := by have := hg2.size; simp at this; omega
  have z3 : W2.heap.size + 1 ≤ W3.heap.size := by have := hg3.size; simp at this; omega
  have z4 : W3.heap.size + 1 ≤ W4.heap.size := by have := hg4.size; simp at this; omega
  have z5 : W4.heap.size + 1 ≤ W5.heap.size := by have := hg5.size; simp at this; omega
  obtain rfl := Hm.out
  have hb1 := below_only (hb0.alloc hb0.size _) hg1 (Nat.le_refl _) (by simp; omega)
  have hb2 := below_only (hb1.alloc hb1.size _) hg2 (Nat.le_refl _) (by simp; omega)
  have hb3 := below_only (hb2.alloc hb2.size _) hg3 (Nat.le_refl _) (by simp; omega)
  have hb4 := below_only (hb3.alloc hb3.size _) hg4 (Nat.le_refl _) (by simp; omega)
  have hb5 := below_only (hb4.alloc hb4.size _) hg5 (Nat.le_refl _) (by simp; omega)
  have k1 := mp_grown (Blk.new (w.alloc (.map #[] 0)) 3 #[.int .i64 4]) hg1 (by simp)
  rw [World.size_alloc] at k1
  have k1 := stepB k1 hg2 (by omega)
  have k1 := stepB k1 hg3 (by omega)
  have k1 := stepB k1 hg4 (by omega)
  have k1 := stepB k1 hg5 (by omega)
  have k2 := mp_grown (Blk.new W1 3 #[.int .i64 3]) hg2 (by omega)
  have k2 := stepB k2 hg3 (by omega)
  have k2 := stepB k2 hg4 (by omega)
  have k2 := stepB k2 hg5 (by omega)
  have k3 := mp_grown (Blk.new W2 3 #[.int .i64 2]) hg3 (by omega)
  have k3 := stepB k3 hg4 (by omega)
  have k3 := stepB k3 hg5 (by omega)
  have k4 := mp_grown (Blk.new W3 3 #[.int .i64 10, .int .i64 18, .int .i64 26, .int .i64 34]) hg4 (by omega)
  have k4 := stepB k4 hg5 (by omega)
  have k5 := mp_grown (Blk.new W4 3 #[.int .i64 10]) hg5 (by omega)
  obtain ⟨g1, e1⟩ : ∃ g, g = W1.heap.size := ⟨_, rfl⟩
  obtain ⟨g2, e2⟩ : ∃ g, g = W2.heap.size := ⟨_, rfl⟩
  obtain ⟨g3, e3⟩ : ∃ g, g = W3.heap.size := ⟨_, rfl⟩
  obtain ⟨g4, e4⟩ : ∃ g, g = W4.heap.size := ⟨_, rfl⟩
  rw [← e1] at hM5 k2 ⊢
  rw [← e2] at hM5 k3 ⊢
  rw [← e3] at hM5 k4 ⊢
  rw [← e4] at hM5 k5 ⊢
  obtain ⟨g0, e0⟩ : ∃ g, g = w.heap.size + 1 := ⟨_, rfl⟩
  rw [← e0] at k1 ⊢
  have hM6 := hM5
  try simp only [World.size_alloc] at hM6
  try rw [← e0] at hM6
  clear hM0 hM1 hM2 hM3 hM4 hM5 hg1 hg2 hg3 hg4 hg5 z1 z2 z3 z4 z5 hb0 hb1 hb2 hb3 hb4 hs0 hmk e0 e1 e2 e3 e4
  generalize W5 = W at *
  have K1 := Lib.hid k1
  clear k1
  have K2 := Lib.hid k2
  clear k2
  have K3 := Lib.hid k3
  clear k3
  have K4 := Lib.hid k4
  clear k4
  have K5 := Lib.hid k5
  clear k5
  have Hb5 := Lib.hid hb5
  clear hb5
  by_cases h2 : k = 2
  · have hkc : (k : Int) = 2 := by omega
    have hl := lookI_run hM6 2 0 _ rfl
    have hr : longB k n = decide ((n : Int) ∈ ([4] : List Int)) := by
      have e : longB k n = (n == 4) := by rw [show k = 2 by omega]; rfl
      rw [e, Bool.eq_iff_iff]
      simp
      omega
    have hc : Calls Try.prog 42 #[.slice (some ⟨g0, 0, none⟩) 1 1, .int .i64 (n : Int)] W fun e w' => e = .returned (.bool (decide ((n : Int) ∈ ([4] : List Int)))) ∧ W = w' := has_any g0 [4] (n : Int) W K1.out (by decide)
    clear hM6
    generalize decide ((n : Int) ∈ ([4] : List Int)) = r at *
    have Hc := Lib.hid hc
    clear hc
    have Hr := Lib.hid hr
    clear hr
    go_wp2_with fail
    with_reducible refine Hc.out.mono ?_
    rintro e w' ⟨rfl, rfl⟩
    go_wp2
    go_ret
    exact ⟨ret_bool Hr.out.symm, Hb5.out⟩
  by_cases h3 : k = 3
  · have hkc : (k : Int) = 3 := by omega
    have hl := lookI_run hM6 3 1 _ rfl
    have hr : longB k n = decide ((n : Int) ∈ ([3] : List Int)) := by
      have e : longB k n = (n == 3) := by rw [show k = 3 by omega]; rfl
      rw [e, Bool.eq_iff_iff]
      simp
      omega
    have hc : Calls Try.prog 42 #[.slice (some ⟨g1, 0, none⟩) 1 1, .int .i64 (n : Int)] W fun e w' => e = .returned (.bool (decide ((n : Int) ∈ ([3] : List Int)))) ∧ W = w' := has_any g1 [3] (n : Int) W K2.out (by decide)
    clear hM6
    generalize decide ((n : Int) ∈ ([3] : List Int)) = r at *
    have Hc := Lib.hid hc
    clear hc
    have Hr := Lib.hid hr
    clear hr
    go_wp2_with fail
    with_reducible refine Hc.out.mono ?_
    rintro e w' ⟨rfl, rfl⟩
    go_wp2
    go_ret
    exact ⟨ret_bool Hr.out.symm, Hb5.out⟩
  by_cases h4 : k = 4
  · have hkc : (k : Int) = 4 := by omega
    have hl := lookI_run hM6 4 2 _ rfl
    have hr : longB k n = decide ((n : Int) ∈ ([2] : List Int)) := by
      have e : longB k n = (n == 2) := by rw [show k = 4 by omega]; rfl
      rw [e, Bool.eq_iff_iff]
      simp
      omega
    have hc : Calls Try.prog 42 #[.slice (some ⟨g2, 0, none⟩) 1 1, .int .i64 (n : Int)] W fun e w' => e = .returned (.bool (decide ((n : Int) ∈ ([2] : List Int)))) ∧ W = w' := has_any g2 [2] (n : Int) W K3.out (by decide)
    clear hM6
    generalize decide ((n : Int) ∈ ([2] : List Int)) = r at *
    have Hc := Lib.hid hc
    clear hc
    have Hr := Lib.hid hr
    clear hr
    go_wp2_with fail
    with_reducible refine Hc.out.mono ?_
    rintro e w' ⟨rfl, rfl⟩
    go_wp2
    go_ret
    exact ⟨ret_bool Hr.out.symm, Hb5.out⟩
  by_cases h5 : k = 5
  · have hkc : (k : Int) = 5 := by omega
    have hl := lookI_run hM6 5 3 _ rfl
    have hr : longB k n = decide ((n : Int) ∈ ([10, 18, 26, 34] : List Int)) := by
      have e : longB k n = (n == 10 || n == 18 || n == 26 || n == 34) := by rw [show k = 5 by omega]; rfl
      rw [e, Bool.eq_iff_iff]
      simp
      omega
    have hc : Calls Try.prog 42 #[.slice (some ⟨g3, 0, none⟩) 4 4, .int .i64 (n : Int)] W fun e w' => e = .returned (.bool (decide ((n : Int) ∈ ([10, 18, 26, 34] : List Int)))) ∧ W = w' := has_any g3 [10, 18, 26, 34] (n : Int) W K4.out (by decide)
    clear hM6
    generalize decide ((n : Int) ∈ ([10, 18, 26, 34] : List Int)) = r at *
    have Hc := Lib.hid hc
    clear hc
    have Hr := Lib.hid hr
    clear hr
    go_wp2_with fail
    with_reducible refine Hc.out.mono ?_
    rintro e w' ⟨rfl, rfl⟩
    go_wp2
    go_ret
    exact ⟨ret_bool Hr.out.symm, Hb5.out⟩
  by_cases h8 : k = 8
  · have hkc : (k : Int) = 8 := by omega
    have hl := lookI_run hM6 8 4 _ rfl
    have hr : longB k n = decide ((n : Int) ∈ ([10] : List Int)) := by
      have e : longB k n = (n == 10) := by rw [show k = 8 by omega]; rfl
      rw [e, Bool.eq_iff_iff]
      simp
      omega
    have hc : Calls Try.prog 42 #[.slice (some ⟨g4, 0, none⟩) 1 1, .int .i64 (n : Int)] W fun e w' => e = .returned (.bool (decide ((n : Int) ∈ ([10] : List Int)))) ∧ W = w' := has_any g4 [10] (n : Int) W K5.out (by decide)
    clear hM6
    generalize decide ((n : Int) ∈ ([10] : List Int)) = r at *
    have Hc := Lib.hid hc
    clear hc
    have Hr := Lib.hid hr
    clear hr
    go_wp2_with fail
    with_reducible refine Hc.out.mono ?_
    rintro e w' ⟨rfl, rfl⟩
    go_wp2
    go_ret
    exact ⟨ret_bool Hr.out.symm, Hb5.out⟩
  have hl := lookI_none hM6 (k : Int) (by
    have q1 : ((k : Int) == 2) = false := by simp; omega
    have q2 : ((k : Int) == 3) = false := by simp; omega
    have q3 : ((k : Int) == 4) = false := by simp; omega
    have q4 : ((k : Int) == 5) = false := by simp; omega
    have q5 : ((k : Int) == 8) = false := by simp; omega
    simp only [List.push_toArray, List.append_toArray, List.nil_append, List.cons_append, Instr.findNow, Instr.sameNow, if_pos, q1, q2, q3, q4, q5])
  have hr : longB k n = decide (2 ≤ (n : Int)) := by
    unfold longB
    rw [if_neg h2, if_neg h3, if_neg h4, if_neg h5, if_neg h8]
    simp
    omega
  have Hr := Lib.hid hr
  clear hr
  clear hM6 h2 h3 h4 h5 h8
  go_wp2
  go_ret
  exact ⟨ret_bool Hr.out.symm, Hb5.out⟩
end Go.Proofs.Ytimepplfaaddeaa
