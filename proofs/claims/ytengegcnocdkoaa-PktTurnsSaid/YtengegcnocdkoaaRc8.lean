/- Contracts and plain lemmas: SumTurns, FlowS, FlowT, Put. -/
import Derived.Lib.MinMax
import Derived.Laws.EntriesVeiled
import Derived.Great.BuildSlice
import Derived.Test.YtengegcnocdkoaaRc1
import Derived.Test.YtengegcnocdkoaaRc5
import Derived.Test.YtengegcnocdkoaaRc7
set_option linter.unusedVariables false
set_option linter.unusedSimpArgs false
set_option linter.unusedSectionVars false
section
namespace Go.Proofs.Ytengegcnocdkoaa
open Go.RowKit Go.Shelf
attribute [local go_sem] Oper.semAt_some
theorem infoU16 : (Try.prog.info? 23).map (fun i => (i.zero, i.size, i.bytes)) = some (some (.int .u16 0), 1, 2) := by kernel_rfl
theorem catS_one (s : ByteArray) : catS [s] = s.data.toList := by simp [catS]
def encW (x : W16) : Value := .int .u16 (x.1 : Int)
theorem turn_below (a b c : Nat) (w : World) (ha : a < 65536) (hb : b < 65536) (hc : c < 65536) :
    Calls Try.prog 84 #[.int .u16 (a : Int), .int .u16 (b : Int), .int .u16 (c : Int)] w fun e w' => e = .returned (.int .u16 ((turnL a b c : Nat) : Int)) ∧ Below w.heap.size w w' :=
  (turn_any a b c w ha hb hc).mono fun e w' ⟨h1, h2⟩ => ⟨h1, by rw [h2]; exact (Below.refl _ _).alloc (Nat.le_refl _) _⟩
theorem zip_snoc : ∀ (L C : List Nat) (p : Nat) (h : C.length < L.length), L.zip (C ++ [p]) = L.zip C ++ [(L[C.length], p)]
  | [], _, _, h => absurd h (by simp)
  | a :: L, [], p, _ => by simp
  | a :: L, c :: C, p, h => by
    have := zip_snoc L C p (by simpa using h)
    simp only [List.cons_append, List.zip_cons_cons, this, List.length_cons, List.getElem_cons_succ]
theorem row_type {W : World} {base : Nat} {e : TypeId} {size k : Nat} {v : Value} {xs : List Value} (h : W.ownsRow base e size v k xs) :
    ∀ (g : Nat), v.ownBlock = some g → ∀ cs t d, W.heap[g]? = some (Obj.cells cs t d) → t = e := by
  intro g hg cs t d hc
  rcases h.2 with ⟨rfl, _⟩ | ⟨g', cap, cur, rfl, _, hgb, _⟩
  · simp [Value.ownBlock] at hg
  · obtain rfl : g' = g := by simpa [Value.ownBlock] using hg
    rw [hgb] at hc
    injection hc with hc
    injection hc with _ h2
    exact h2.symm
theorem row_base {W : World} {base : Nat} {e : TypeId} {size k : Nat} {v : Value} {xs : List Value} (h : W.ownsRow base e size v k xs) : ∀ (g : Nat), v.ownBlock = some g → base ≤ g := by
  intro g hg
  rcases h.2 with ⟨rfl, _⟩ | ⟨g', cap, cur, rfl, hb, _⟩
  · simp [Value.ownBlock] at hg
  · obtain rfl : g' = g := by simpa [Value.ownBlock] using hg
    exact hb
set_option maxRecDepth 100000 in
set_option maxHeartbeats 4000000 in
theorem turns_in (s : Nat) (x y : ByteArray) (hs : s < 65536) (hx : x.size ≤ 1099511627776) (hy : y.size ≤ 1099511627776) (n : Nat) (hn : n = min x.size y.size) (w : World) :
    CallsIn Fence.wide 3 Try.prog 47 #[.int .u16 (s : Int), .string x, .string y] w fun e w' =>
      e = .returned (.int .u16 ((turnsL s ((wordsL (x.data.toList.take n)).zip (wordsL (y.data.toList.take n))) : Nat) : Int)) ∧ Below w.heap.size w w' := by
  obtain ⟨i0, hi, hz0, hz1, hz2⟩ := info_parts infoU16
  have hnx : n ≤ x.size := by omega
  have hny : n ≤ y.size := by omega
  have hmin : min (x.size : Int) (y.size : Int) = (n : Int) := by omega
  refine callsIn_of_wp_marks Try.func47 rfl trivial ?_ rfl
  simp only [Try.ntmps47, List.size_toArray, List.length_cons, List.length_nil, Nat.reduceAdd, Nat.reduceSub, Array.replicate_succ, Array.replicate_zero, List.push_toArray, List.append_toArray, List.nil_append, List.cons_append]
  gi_wp2_with (refine ⟨trivial, ?_⟩; gi_at_call 83; refine (words_in _ _ _ _).mono ?_; rintro e w' ⟨rfl, rfl⟩)
  rw [← hn]
  clear hn hmin
  have b0 := ((Boxed.new w 23 (.int .u16 (s : Int))).alloc (.cells #[.slice none 0 0] 120)).alloc (.cells #[.string (x.extract 0 n)] 9)
  have b1 := (Boxed.new (w.alloc (.cells #[.int .u16 (s : Int)] 23)) 120 (.slice none 0 0)).alloc (.cells #[.string (x.extract 0 n)] 9)
  have b2 := Blk.new ((w.alloc (.cells #[.int .u16 (s : Int)] 23)).alloc (.cells #[.slice none 0 0] 120)) 9 #[.string (x.extract 0 n)]
  have b3 := Boxed.new (((w.alloc (.cells #[.int .u16 (s : Int)] 23)).alloc (.cells #[.slice none 0 0] 120)).alloc (.cells #[.string (x.extract 0 n)] 9)) 132 (.slice (some ⟨w.heap.size + 1 + 1, 0, none⟩) 1 1)
  have hB0 : Below w.heap.size w ((((w.alloc (.cells #[.int .u16 (s : Int)] 23)).alloc (.cells #[.slice none 0 0] 120)).alloc (.cells #[.string (x.extract 0 n)] 9)).alloc (.cells #[.slice (some ⟨w.heap.size + 1 + 1, 0, none⟩) 1 1] 132)) :=
    ((((Below.refl _ w).alloc (Nat.le_refl _) _).alloc (by simp) _).alloc (by simp; omega) _).alloc (by simp; omega) _
  have b0 := b0.alloc (.cells #[.slice (some ⟨w.heap.size + 1 + 1, 0, none⟩) 1 1] 132)
  have b1 := b1.alloc (.cells #[.slice (some ⟨w.heap.size + 1 + 1, 0, none⟩) 1 1] 132)
  have b2 := Blk.alloc b2 (.cells #[.slice (some ⟨w.heap.size + 1 + 1, 0, none⟩) 1 1] 132)
  have hsz : ((((w.alloc (.cells #[.int .u16 (s : Int)] 23)).alloc (.cells #[.slice none 0 0] 120)).alloc (.cells #[.string (x.extract 0 n)] 9)).alloc (.cells #[.slice (some ⟨w.heap.size + 1 + 1, 0, none⟩) 1 1] 132)).heap.size = w.heap.size + 4 := by simp
  simp only [World.size_alloc] at b1 b2 b3
  generalize (((w.alloc (.cells #[.int .u16 (s : Int)] 23)).alloc (.cells #[.slice none 0 0] 120)).alloc (.cells #[.string (x.extract 0 n)] 9)).alloc (.cells #[.slice (some ⟨w.heap.size + 1 + 1, 0, none⟩) 1 1] 132) = W0 at *
  have hL : catS [x.extract 0 n] = x.data.toList.take n := by rw [catS_one, ByteArray.data_extract]; simp
  refine wpIn_rangeFunc_ownG rfl (by omega) (gf := 98) (lb := #[.pointer (some ⟨w.heap.size + 1 + 1 + 1, 0, none⟩)]) rfl trivial (enters_of Try.func98 (by kernel_rfl) rfl)
    (words_stops w.heap.size (w.heap.size + 1 + 1 + 1) (some ⟨w.heap.size + 1 + 1, 0, none⟩) 1 1 [x.extract 0 n] rfl (by omega) (by simp only [maxLen]; simp; omega) _ (by omega) (by omega) b3.cell (Stable.of_blk b2)) KeepsBytes.trans (KeepsBytes.putObj (by omega)) (Below.refl _ _) (fun _ => rfl)
    (fun pre W => (∃ v, Boxed W (w.heap.size + 1) 120 v ∧ W.ownsRow (w.heap.size + 1) 23 1 v pre.length (pre.map encW) ∧ True) ∧ Boxed W w.heap.size 23 (.int .u16 (s : Int)) ∧ Below w.heap.size w W)
    (fun _ _ _ => False)
    (OwnFrom.and (Own.from (holdsRow_own (w.heap.size + 1) (w.heap.size + 1) 120 23 1 (fun pre : List W16 => pre.length) (fun pre => pre.map encW) (fun _ _ => True)) _) (OwnFrom.and (Own.from (boxed_own _ _ fun _ : List W16 => .int .u16 (s : Int)) _) (ownFrom_below (Nat.le_refl _) (by omega))))
    (fun _ _ _ _ _ hs _ _ => hs)
    ⟨⟨_, b1, World.ownsRow_nil _ _ _ _, trivial⟩, b0, hB0⟩
    (fun x1 => { tmps := #[.int .u16 (s : Int), .string x, .string y, .pointer (some ⟨w.heap.size, 0, none⟩), undef, undef, .int .u16 0, .int .i64 (n : Int), .pointer (some ⟨w.heap.size + 1, 0, none⟩), .int .u16 (x1.1 : Int), undef, undef, .string x, .int .i64 (x.size : Int), .string y, .int .i64 (y.size : Int), .int .i64 (n : Int), .string x, .int .i64 (n : Int), .string (x.extract 0 n), .slice (some ⟨w.heap.size + 1 + 1, 0, none⟩) 1 1, .func (.func 98) #[] #[.pointer (some ⟨w.heap.size + 1 + 1 + 1, 0, none⟩)], .int .u16 (x1.1 : Int), undef, undef, undef, undef, undef, undef, undef, undef, undef, undef, undef, undef, undef, undef, undef, undef, undef, undef, undef, undef], defers := [] }) ?assign ?body ?done ?stop
  case assign =>
    intro l x1 W K hK
    gi_wp2
    exact hK
  case stop =>
    rintro D c pre W _ _ h _
    exact h.elim
  case body =>
    rintro l pre x1 W ⟨⟨v, hv, hrow, _⟩, hb, hB⟩ hlt
    have hlen : pre.length < 1099511627776 := by
      rw [hL, wordsL_length] at hlt
      simp at hlt
      omega
    obtain ⟨xv, hxv⟩ := x1
    dsimp only
    have hc := hv.cell
    have hf := hv.frozen
    have hn1 : w.heap.size + 1 ≤ W.heap.size := by have := hv.lt; omega
    clear hlt hL b0 b1 b2 b3
    have HS := Lib.hid hsz
    clear hsz
    gi_wp2_with (gi_at_builtin; refine wpListIn_append_own _ rfl _ _ 120 rfl (w.heap.size + 1) 23 i0 (.int .u16 0) 1 2 Try.underlying120 hi hz0 hz1 hz2 rfl (by decide) _ _ _ rfl (hrow.alloc _) ⟨W.heap.size, 0, none⟩ 1 1 [encW ⟨xv, hxv⟩] rfl rfl (cell_one_new _ _ _) (by simp [Value.oneCell', encW]) (by simp only [maxLen]; omega) (by omega) (by simp; omega) ?_; intro v' w1 hown' hgrow _; obtain ⟨g', cap', rfl⟩ := ownsRow_succ hown'; obtain ⟨hv1, hv2, hr2, hk2, hb2⟩ := hv.appended (by decide) hrow hn1 (Nat.le_refl _) hown' hgrow; have hc1 := hv1.cell; have hf1 := hv1.frozen)
    have hne : some w.heap.size ≠ v.ownBlock := fun e => by have := row_base hrow _ e.symm; omega
    have hkb : KeepsBytes w.heap.size W (w1.setCell ⟨w.heap.size + 1, 0, none⟩ (.slice (some ⟨g', 0, none⟩) (pre.length + 1) cap')) := by
      refine (KeepsBytes.of_below (by omega) ((Below.refl _ W).alloc (Nat.le_refl _) (.cells #[.int .u16 (xv : Int)] 23))).trans ((KeepsBytes.of_grown ?_ hgrow ?_).trans (KeepsBytes.of_grown ((Below.refl _ w1).setCell (p := ⟨w.heap.size + 1, 0, none⟩) (by simp) _) (grownBy_setCell' _ _ _) ?_))
      · exact (Below.refl _ _).grown hgrow (by simp; omega) (fun j ej => by have := row_base hrow _ ej; omega)
      · intro g hg cs t d ht hcs
        have := row_type (hrow.alloc _) g hg cs t d hcs
        rcases ht with rfl | rfl <;> cases this
      · intro g hg cs t d ht hcs
        cases hg
        rw [show w1.heap[w.heap.size + 1]? = _ from hv1] at hcs
        rcases ht with rfl | rfl <;> cases hcs
    exact ⟨hk2.from _, hkb, ⟨⟨_, hv2, by simpa using hr2, trivial⟩, ((hb.alloc _).kept hgrow hne).other (by omega) _, hB.trans (hb2.mono (by omega))⟩⟩
  case done =>
    rintro D xs W hD hS ⟨⟨v, hv, hrow, _⟩, hb, hB⟩ hK
    clear b0 b1 b2 b3
    gi_wp2_with (refine ⟨trivial, ?_⟩; gi_at_call 83; refine (words_in _ _ _ _).mono ?_; rintro e w' ⟨rfl, rfl⟩)
    have hDlt : D < W.heap.size := (Array.getElem?_eq_some_iff.1 hK).1
    have hn1 : w.heap.size + 1 < W.heap.size := by have := hv.lt; omega
    have c0 := ((hb.alloc (.cells #[.int .i64 0] 3)).alloc (.cells #[.string (y.extract 0 n)] 9)).alloc (.cells #[.slice (some ⟨W.heap.size + 1, 0, none⟩) 1 1] 132)
    have c1 := ((hv.alloc (.cells #[.int .i64 0] 3)).alloc (.cells #[.string (y.extract 0 n)] 9)).alloc (.cells #[.slice (some ⟨W.heap.size + 1, 0, none⟩) 1 1] 132)
    have cr := ((hrow.alloc (.cells #[.int .i64 0] 3)).alloc (.cells #[.string (y.extract 0 n)] 9)).alloc (.cells #[.slice (some ⟨W.heap.size + 1, 0, none⟩) 1 1] 132)
    have c2 := ((Boxed.new W 3 (.int .i64 0)).alloc (.cells #[.string (y.extract 0 n)] 9)).alloc (.cells #[.slice (some ⟨W.heap.size + 1, 0, none⟩) 1 1] 132)
    have c3 := Blk.alloc (Blk.new (W.alloc (.cells #[.int .i64 0] 3)) 9 #[.string (y.extract 0 n)]) (.cells #[.slice (some ⟨W.heap.size + 1, 0, none⟩) 1 1] 132)
    have c4 := Boxed.new ((W.alloc (.cells #[.int .i64 0] 3)).alloc (.cells #[.string (y.extract 0 n)] 9)) 132 (.slice (some ⟨W.heap.size + 1, 0, none⟩) 1 1)
    have cB : Below W.heap.size W (((W.alloc (.cells #[.int .i64 0] 3)).alloc (.cells #[.string (y.extract 0 n)] 9)).alloc (.cells #[.slice (some ⟨W.heap.size + 1, 0, none⟩) 1 1] 132)) :=
      (((Below.refl _ W).alloc (Nat.le_refl _) _).alloc (by simp) _).alloc (by simp; omega) _
    have csz : (((W.alloc (.cells #[.int .i64 0] 3)).alloc (.cells #[.string (y.extract 0 n)] 9)).alloc (.cells #[.slice (some ⟨W.heap.size + 1, 0, none⟩) 1 1] 132)).heap.size = W.heap.size + 3 := by simp
    simp only [World.size_alloc] at c3 c4
    have hB1 := hB.trans (cB.mono (by omega))
    have hK1 := (cB.block D hDlt).trans hK
    generalize ((W.alloc (.cells #[.int .i64 0] 3)).alloc (.cells #[.string (y.extract 0 n)] 9)).alloc (.cells #[.slice (some ⟨W.heap.size + 1, 0, none⟩) 1 1] 132) = W2 at *
    have hL2 : catS [y.extract 0 n] = y.data.toList.take n := by rw [catS_one, ByteArray.data_extract]; simp
    have hlx : xs.length = (n + 1) / 2 := by
      have := congrArg List.length hS
      rw [hL, wordsL_length] at this
      simp at this
      omega
    refine wpIn_rangeFunc_ownG rfl (by omega) (gf := 98) (lb := #[.pointer (some ⟨W.heap.size + 1 + 1, 0, none⟩)]) rfl trivial (enters_of Try.func98 (by kernel_rfl) rfl)
      (words_stops w.heap.size (W.heap.size + 1 + 1) (some ⟨W.heap.size + 1, 0, none⟩) 1 1 [y.extract 0 n] rfl (by omega) (by simp only [maxLen]; simp; omega) _ (by omega) (by omega) c4.cell (Stable.of_blk c3)) KeepsBytes.trans (KeepsBytes.putObj (by omega)) (Below.refl _ _) (fun _ => rfl)
      (fun pre Z => (∃ v', Boxed Z (w.heap.size + 1) 120 v' ∧ Z.ownsRow (w.heap.size + 1) 23 1 v' xs.length (xs.map encW) ∧ v' = v) ∧ Boxed Z w.heap.size 23 (.int .u16 ((turnsL s ((xs.map (·.1)).zip (pre.map (·.1))) : Nat) : Int)) ∧ Boxed Z W.heap.size 3 (.int .i64 (pre.length : Int)) ∧ Z.heap[D]? = some (.deferred (some [])) ∧ Below w.heap.size w Z)
      (fun _ _ _ => False)
      (OwnFrom.and (Own.from (holdsRow_own (w.heap.size + 1) (w.heap.size + 1) 120 23 1 (fun _ : List W16 => xs.length) (fun _ => xs.map encW) (fun _ v' => v' = v)) _)
        (OwnFrom.and (Own.from (boxed_own _ _ fun pre : List W16 => .int .u16 ((turnsL s ((xs.map (·.1)).zip (pre.map (·.1))) : Nat) : Int)) _)
          (OwnFrom.and (Own.from (boxed_own _ _ fun pre : List W16 => .int .i64 (pre.length : Int)) _)
            (OwnFrom.and (fun _ X Y row hs hg hr => (hg.block D (Array.getElem?_eq_some_iff.1 hs).1 (fun e => by have := (hr D e.symm).1; omega)).trans hs) (ownFrom_below (Nat.le_refl _) (by omega))))))
      (fun _ _ _ _ _ hs _ _ => hs)
      ⟨⟨v, c1, cr, rfl⟩, by simpa [turnsL] using c0, c2, hK1, hB1⟩
      (fun x1 => { tmps := #[.int .u16 (s : Int), .string x, .string y, .pointer (some ⟨w.heap.size, 0, none⟩), undef, undef, .int .u16 0, .int .i64 (n : Int), .pointer (some ⟨w.heap.size + 1, 0, none⟩), undef, .pointer (some ⟨W.heap.size, 0, none⟩), .int .u16 (x1.1 : Int), .string x, .int .i64 (x.size : Int), .string y, .int .i64 (y.size : Int), .int .i64 (n : Int), .string x, .int .i64 (n : Int), .string (x.extract 0 n), .slice (some ⟨w.heap.size + 1 + 1, 0, none⟩) 1 1, .func (.func 98) #[] #[.pointer (some ⟨w.heap.size + 1 + 1 + 1, 0, none⟩)], undef, undef, undef, undef, undef, .string y, .int .i64 (n : Int), .string (y.extract 0 n), .slice (some ⟨W.heap.size + 1, 0, none⟩) 1 1, .func (.func 98) #[] #[.pointer (some ⟨W.heap.size + 1 + 1, 0, none⟩)], .int .u16 (x1.1 : Int), undef, undef, undef, undef, undef, undef, undef, undef, undef, undef], defers := [] }) ?assign2 ?body2 ?done2 ?stop2
    case assign2 =>
      intro l x1 Z K hK
      gi_wp2
      exact hK
    case stop2 =>
      rintro D2 c pre Z _ _ h _
      exact h.elim
    case body2 =>
      rintro l pre x1 Z ⟨⟨v', hv', hrow', rfl⟩, hb', hi', hK', hB'⟩ hlt
      rw [hL2, wordsL_length] at hlt
      have hkx : pre.length < xs.length := by rw [hlx]; simp at hlt; omega
      obtain ⟨A, c, rfl, hrd⟩ := own_slice hrow'
      obtain ⟨ad, u, rfl, hadl, hu, hcl⟩ := hrd.at_ hkx
      rw [List.getElem?_map, List.getElem?_eq_getElem hkx] at hu
      simp only [Option.map_some, Option.some.injEq, encW] at hu
      subst hu
      have hzip : (xs.map (·.1)).zip ((pre ++ [x1]).map (·.1)) = (xs.map (·.1)).zip (pre.map (·.1)) ++ [(xs[pre.length].1, x1.1)] := by
        have := zip_snoc (xs.map (·.1)) (pre.map (·.1)) x1.1 (by simpa using hkx)
        simp only [List.map_append, List.map_cons, List.map_nil]
        rw [this]
        simp
      have ht := turnsL_snoc s ((xs.map (·.1)).zip (pre.map (·.1))) (xs[pre.length].1, x1.1)
      rw [← hzip] at ht
      have hq := turnsL_le (s := s) (by omega) ((xs.map (·.1)).zip (pre.map (·.1)))
      have hy16 := xs[pre.length].2
      obtain ⟨xv, hxv⟩ := x1
      dsimp only at ht ⊢
      generalize xs[pre.length].1 = yv at *
      generalize turnsL s ((xs.map (·.1)).zip (pre.map (·.1))) = q at *
      have hlx2 : xs.length < 1099511627776 := by omega
      have HS2 := Lib.hid hD
      rw [hsz] at HS2
      clear hlt hL hL2 hzip hlx hS c0 c1 c2 c3 c4 cr hrd hrow hv hb hK hB
      have HT := Lib.hid ht
      clear ht
      have z0 := hb'.cell
      have z0f := hb'.frozen
      have z1 := hv'.cell
      have z2 := hi'.cell
      have z2f := hi'.frozen
      have hmx : Try.prog.follows .mixedOrders = true := by kernel_rfl
      have hd : 1 ≤ 3 - 1 - 1 := by omega
      gi_wp2
      gi_region_with_o (refine ⟨trivial, ?_⟩; gi_at_call 84; refine (CallsIn.inRound l (callsIn_wide.2 (turn_below q yv xv _ (by omega) hy16 hxv))).mono ?_; rintro e w' ⟨rfl, hbw⟩; have y0 := (Boxed.kept (W := Z.drew) (W' := w') hb' (only_of_below hbw none) (by simp)).cell; have y0f := (Boxed.kept (W := Z.drew) (W' := w') hb' (only_of_below hbw none) (by simp)).frozen)
      all_goals
        have hDb : w.heap.size + 4 ≤ D := by have := HS2.out; omega
        have hnr : (Value.slice (some ad) xs.length c).ownBlock ≠ some w.heap.size := fun e => by have := row_base hrow' _ e; omega
        have g0 : Z.drew.grownBy (w'.setCell ⟨w.heap.size, 0, none⟩ (.int .u16 ((turnL q yv xv : Nat) : Int))) (some w.heap.size) := only_set (only_of_below hbw (some w.heap.size)) 0 _
        have e0 : Boxed (w'.setCell ⟨w.heap.size, 0, none⟩ (.int .u16 ((turnL q yv xv : Nat) : Int))) w.heap.size 23 (.int .u16 ((turnL q yv xv : Nat) : Int)) := (Boxed.kept (W := Z.drew) hb' (only_of_below hbw none) (by simp)).set _
        have e1 : Boxed (w'.setCell ⟨w.heap.size, 0, none⟩ (.int .u16 ((turnL q yv xv : Nat) : Int))) (w.heap.size + 1) 120 (.slice (some ad) xs.length c) := Boxed.kept (W := Z.drew) hv' g0 (by simp)
        have e2 : Boxed (w'.setCell ⟨w.heap.size, 0, none⟩ (.int .u16 ((turnL q yv xv : Nat) : Int))) W.heap.size 3 (.int .i64 (pre.length : Int)) := Boxed.kept (W := Z.drew) hi' g0 (by simp; omega)
        have er : (w'.setCell ⟨w.heap.size, 0, none⟩ (.int .u16 ((turnL q yv xv : Nat) : Int))).ownsRow (w.heap.size + 1) 23 1 (.slice (some ad) xs.length c) xs.length (xs.map encW) := World.ownsRow.kept (w := Z.drew) hrow' g0 (.inr hnr)
        have eK := (g0.block D (Array.getElem?_eq_some_iff.1 hK').1 (by simp; omega)).trans hK'
        have eB : Below w.heap.size Z (w'.setCell ⟨w.heap.size, 0, none⟩ (.int .u16 ((turnL q yv xv : Nat) : Int))) := (Below.drew (Below.refl w.heap.size Z)).trans ((hbw.mono hB'.size).setCell (p := ⟨w.heap.size, 0, none⟩) (Nat.le_refl _) _)
        have ko : KeepsOthers Z (w'.setCell ⟨w.heap.size, 0, none⟩ (.int .u16 ((turnL q yv xv : Nat) : Int))) := (KeepsOthers.drew Z).trans ((KeepsOthers.of_grownBy (only_of_below hbw none) (by simp)).trans (KeepsOthers.setCell _ _ _))
        have kbz : KeepsBytes w.heap.size Z.drew (w'.setCell ⟨w.heap.size, 0, none⟩ (.int .u16 ((turnL q yv xv : Nat) : Int))) := KeepsBytes.of_grown (A := Z.drew) ((hbw.mono hB'.size).setCell (p := ⟨w.heap.size, 0, none⟩) (Nat.le_refl _) _) g0 (by
          intro g hg cs t d ht hcs
          cases hg
          rw [show Z.drew.heap[w.heap.size]? = _ from hb'] at hcs
          rcases ht with rfl | rfl <;> cases hcs)
        have kb : KeepsBytes w.heap.size Z (w'.setCell ⟨w.heap.size, 0, none⟩ (.int .u16 ((turnL q yv xv : Nat) : Int))) := ⟨eB, fun i cs t d ht e => kbz.2 i cs t d ht e⟩
        clear kbz
        have e2c := e2.cell
        have e2f := e2.frozen
        clear y0 y0f hbw z0 z0f z1 z2 z2f hcl g0
        generalize w'.setCell ⟨w.heap.size, 0, none⟩ (.int .u16 ((turnL q yv xv : Nat) : Int)) = Y at *
        gi_wp2
        have f2 := e2.set (.int .i64 ((pre.length : Int) + 1))
        have bl : Below w.heap.size Y (Y.setCell ⟨W.heap.size, 0, none⟩ (.int .i64 ((pre.length : Int) + 1))) := (Below.refl _ Y).setCell (p := ⟨W.heap.size, 0, none⟩) (by simp; omega) _
        exact ⟨(ko.trans (KeepsOthers.setCell _ _ _)).from _, kb.trans (KeepsBytes.of_grown bl (grownBy_setCell' _ _ _) (by
            intro g hg cs t d ht hcs
            cases hg
            rw [show Y.heap[W.heap.size]? = _ from e2] at hcs
            rcases ht with rfl | rfl <;> cases hcs)),
          ⟨_, e1.other (by omega) _, er.kept (grownBy_setCell' _ _ _) (.inr (e2.not_row (by decide) er).symm), rfl⟩, by rw [HT.out]; exact e0.other (by omega) _, by simpa using f2,
          ((grownBy_setCell' Y W.heap.size _).block D (Array.getElem?_eq_some_iff.1 eK).1 (by simp; omega)).trans eK, hB'.trans (eB.trans bl)⟩
    case done2 =>
      rintro D2 zs Z hD2 hS2 ⟨⟨v', hv', hrow', rfl⟩, hb', hi', hK', hB'⟩ hK2
      have hq := turnsL_le (s := s) (by omega) ((xs.map (·.1)).zip (zs.map (·.1)))
      rw [hS, hS2, hL, hL2] at hq hb'
      obtain ⟨q, hqe⟩ : ∃ q, turnsL s ((wordsL (x.data.toList.take n)).zip (wordsL (y.data.toList.take n))) = q := ⟨_, rfl⟩
      rw [hqe] at hq hb'
      have HQ := Lib.hid hqe
      clear hqe
      have hc := hb'.cell
      clear hS hS2 hL hL2 hlx cr c0 c1 c2 c3 c4
      gi_wp2
      have hK3 : (Z.putObj D2 (.deferred none)).heap[D]? = some (.deferred (some [])) := (World.putObj_heap_other (by omega)).trans hK'
      refine ⟨by simp, .inl ⟨_, _, rfl, run_takeDeferred hK2, ?_⟩⟩
      refine ⟨by simp, .inl ⟨_, _, rfl, run_takeDeferred hK3, ?_⟩⟩
      refine ⟨_, results_tmp rfl _ _ _, ?_, ?_⟩
      · exact ret_nat HQ.out.symm
      have hDw : w.heap.size ≤ D := by omega
      have hDw2 : w.heap.size ≤ D2 := by omega
      exact hB'.trans ((belowK_b (w := w) (Nat.le_refl _) Z D2 _ _ hDw2 hK2 rfl rfl).trans (belowK_b (w := w) (Nat.le_refl _) _ D _ _ hDw hK3 rfl rfl))
theorem turns_any (s : Nat) (x y : ByteArray) (hs : s < 65536) (hx : x.size ≤ 1099511627776) (hy : y.size ≤ 1099511627776) (w : World) :
    Calls Try.prog 47 #[.int .u16 (s : Int), .string x, .string y] w fun e w' =>
      e = .returned (.int .u16 ((turnsL s ((wordsL (x.data.toList.take (min x.size y.size))).zip (wordsL (y.data.toList.take (min x.size y.size)))) : Nat) : Int)) ∧ Below w.heap.size w w' :=
  callsIn_wide.1 (turns_in s x y hs hx hy _ rfl w)
end Go.Proofs.Ytengegcnocdkoaa
end
section
namespace Go.Proofs.Ytengegcnocdkoaa
open Go.RowKit
/-- cells, with others from the i-th one on -/
def putFrom (cs : Array Value) (i : Nat) : List Value → Array Value
  | [] => cs
  | v :: r => putFrom (cs.setIfInBounds i v) (i + 1) r
theorem run_storeCells {P : Program} (g : Nat) (E : TypeId) : ∀ (vs : List Value) (i : Nat) (W : World) (cs : Array Value), Blk W g E cs → i + vs.length ≤ cs.size → (∀ v ∈ vs, v.oneCell' = true) →
    ∃ W', (storeCells ⟨g, 0, none⟩ vs i).run P W = .ok () W' ∧ Blk W' g E (putFrom cs i vs) ∧ (∀ g', g' ≠ g → W'.heap[g']? = W.heap[g']?) ∧ W'.heap.size = W.heap.size ∧ W'.os = W.os ∧ W'.tape = W.tape ∧ W'.output = W.output
  | [], i, W, cs, h, _, _ => ⟨W, rfl, h, fun _ _ => rfl, rfl, rfl, rfl, rfl⟩
  | v :: r, i, W, cs, h, hl, hv => by
    have ha : (⟨g, 0, none⟩ : Addr).add i = ⟨g, i, none⟩ := by simp [Addr.add]; omega
    have hi : i < cs.size := by simp at hl; omega
    have hc : W.cell? ⟨g, i, none⟩ = some cs[i] := by rw [h.cell]; simp [hi]
    have hs : (store ⟨g, i, none⟩ v).run P W = .ok () (W.setCell ⟨g, i, none⟩ v) := by
      rw [run_store P W _ v .plain (hv v List.mem_cons_self), hc, h.frozen]
      rfl
    obtain ⟨W', h1, h2, h3, h4, h5, h6, h7⟩ := run_storeCells (P := P) g E r (i + 1) _ _ (h.set_ i v) (by simp at hl ⊢; omega) (fun u hu => hv u (List.mem_cons_of_mem _ hu))
    refine ⟨W', ?_, h2, fun g' hg => (h3 g' hg).trans (Below.heap_setCell W ⟨g, i, none⟩ v g' hg), ?_, ?_, ?_, ?_⟩
    · unfold storeCells
      rw [ha, Sem.run_bind, hs]
      exact h1
    · rw [h4]; simp [World.setCell]
    · rw [h5]; rfl
    · rw [h6]; rfl
    · rw [h7]; rfl
section
variable {P : Program} {ops : Array Oper} {S : World → Prop} {R : World → World → Prop} {End : List Tmp → List Fc → Act → Prop} {rest : List Oper} {k : Nat} {T : List Tmp} {N : List Fc} {a : Act} {o : Oper}
/-- nothing below B turns; blocks that were just laid with the cells z may get the cells c -/
structure Lays (B : Nat) (E : TypeId) (z c : Array Value) (w w' : World) : Prop where
  size : w.heap.size ≤ w'.heap.size
  keep : ∀ g, Blk w g E c → Blk w' g E c
  turn : ∀ g, Blk w g E z → Blk w' g E z ∨ Blk w' g E c
end
end Go.Proofs.Ytengegcnocdkoaa
end
section
namespace Go.Proofs.Ytengegcnocdkoaa
open Go.RowKit
section
variable {P : Program} {ops : Array Oper} {S : World → Prop} {R : Nat → World → World → Prop} {U : List (Nat × (World → Prop))} {End : List Tmp → List Fc → Act → Prop} {rest : List Oper} {k : Nat} {T : List Tmp} {N : List Fc} {a : Act} {o : Oper}
/-- an operation whose slot is told by a fact, together with slots that it looks at -/
theorem flowu_rel {d : Tmp} {op : Op} {t : TypeId} {ps : String} {af : Array Edge} {g : Option (Nat × Bool)} (ys : List Tmp) (φ : List Value → World → Prop) (hst : ∀ l i w w', i ≠ k → R i w w' → φ l w → φ l w')
    (hys : (ys.all fun y => T.contains y && (Oper.looksAt ops { dst := some d, op := op, type := t, pos := ps, after := af, guard := g }).contains y) = true) (hd : ys.contains d = false)
    (hrun : ∀ w f, S w → knownW { dst := some d, op := op, type := t, pos := ps, after := af, guard := g } N f w → untilU U k w → gives P { dst := some d, op := op, type := t, pos := ps, after := af, guard := g } (fillW T f a) w fun u w' => φ (u :: ys.map f) w' ∧ S w' ∧ R k w w')
    (hg : guardW ops T { dst := some d, op := op, type := t, pos := ps, after := af, guard := g } = true) (hw : Region.wanted { dst := some d, op := op, type := t, pos := ps, after := af, guard := g } (yielded ops a.tmps) = true) (w0 : World)
    (h : ∀ K : Act → Prop, (∀ a, wpU P ops S R U End (k + 1) rest (d :: T) (⟨k, d :: ys, φ⟩ :: N) a → K a) → Oper.quiet P { dst := some d, op := .assign (.const undef), type := t, pos := "", after := #[], guard := none } a (fun _ => True) K) :
    wpU P ops S R U End k ({ dst := some d, op := op, type := t, pos := ps, after := af, guard := g } :: rest) T N a := by
  refine ⟨hg, ?_⟩
  rw [if_pos hw]
  refine .inr ⟨[(d :: ys, φ)], fun x hx => ?_, fun w f hS hN hut => ?_, on_value t h w0⟩
  · obtain rfl : x = (d :: ys, φ) := by simpa using hx
    refine ⟨fun t ht => ?_, hst⟩
    rcases List.mem_cons.1 ht with rfl | ht
    · exact .inl rfl
    · have := List.all_eq_true.1 hys t ht
      rw [Bool.and_eq_true] at this
      exact .inr ⟨by simpa using this.1, by simpa using this.2⟩
  · have := hrun w f hS hN hut
    have hmap : ∀ u, (d :: ys).map (updW f (some d) u) = u :: ys.map f := fun u => by
      rw [List.map_cons]
      congr 1
      · simp [updW]
      · refine List.map_congr_left fun y hy => ?_
        unfold updW
        rw [if_neg]
        intro e
        injection e with e
        subst e
        simp at hd
        exact hd hy
    have key : ∀ u w', φ (u :: ys.map f) w' ∧ S w' ∧ R k w w' → (∀ x ∈ [(d :: ys, φ)], x.2 (x.1.map (updW f (some d) u)) w') ∧ S w' ∧ R k w w' := fun u w' ⟨h1, h2, h3⟩ => ⟨fun x hx => by
      obtain rfl : x = (d :: ys, φ) := by simpa using hx
      show φ ((d :: ys).map (updW f (some d) u)) w'
      rw [hmap]
      exact h1, h2, h3⟩
    unfold gives at *
    generalize (execOp (fillW T f a).eval { dst := some d, op := op, type := t, pos := ps, after := af, guard := g }).run P w = r at *
    cases r with
    | ok n w' =>
      cases n <;> simp only at this ⊢
      case value u => exact key _ _ this
      case skip => exact key _ _ this
      case enter f args => exact this.mono fun e w'' ⟨v, he, hp⟩ => ⟨v, he, key _ _ hp⟩
    | halt x w' => exact this
/-- a fact of two slots, known at an operation that waits for it -/
theorem known_at2 {o : Oper} {f : Tmp → Value} {w : World} (h : knownW o N f w) (j : Nat) {i : Nat} {y z : Tmp} {ψ : List Value → World → Prop} (hj : N[j]? = some ⟨i, [y, z], ψ⟩) (hw : waitsB o i = true) : ψ [f y, f z] w := h _ (List.mem_of_getElem? hj) hw
/-- an operation whose value is told ahead, and which writes: a fact on the world behind it (and how it stood until then) -/
theorem flowu_do {d : Option Tmp} {op : Op} {t : TypeId} {ps : String} {af : Array Edge} {g : Option (Nat × Bool)} (v : Value) (ψ : List Value → World → Prop) (hst : ∀ l i w w', i ≠ k → R i w w' → ψ l w → ψ l w') (hsel : ∀ cs x, op ≠ .select cs x)
    (hp : plainW ops T { dst := d, op := op, type := t, pos := ps, after := af, guard := g } = true)
    (hrun : ∀ w, S w → untilU U k w → ∃ w', (execOp a.eval { dst := d, op := op, type := t, pos := ps, after := af, guard := g }).run P w = .ok (.value v) w' ∧ ψ [] w' ∧ S w' ∧ R k w w')
    (hg : guardW ops T { dst := d, op := op, type := t, pos := ps, after := af, guard := g } = true) (hw : Region.wanted { dst := d, op := op, type := t, pos := ps, after := af, guard := g } (yielded ops a.tmps) = true) (w0 : World)
    (h : ∀ K : Act → Prop, (∀ a, wpU P ops S R U End (k + 1) rest T (⟨k, [], ψ⟩ :: N) a → K a) → Oper.quiet P { dst := d, op := .assign (.const v), type := t, pos := "", after := #[], guard := none } a (fun _ => True) K) :
    wpU P ops S R U End k ({ dst := d, op := op, type := t, pos := ps, after := af, guard := g } :: rest) T N a :=
  flowu_stay0 v ψ hst (fun w f hS hN hut => gives_congr (exec_plain hsel hp f) (by
    obtain ⟨w', h1, h2, h3, h4⟩ := hrun w hS hut
    unfold gives
    rw [h1]
    exact ⟨⟨rfl, h2⟩, h3, h4⟩)) hg hw w0 h
/-- a call with a slot among its arguments that a fact tells; its value is the same in all that the fact tells -/
theorem flowu_callY {d : Option Tmp} {f : FuncId} {y : Tmp} {xs : Array Operand} {ts : Array TypeId} {t : TypeId} {ps : String} {af : Array Edge} {g : Option (Nat × Bool)}
    (hcf : ∀ (vals : Array Value) (w : World), (callFunc f vals).run P w = .ok (.enter f vals) w) (v : Value) (vals : Value → Array Value) (j : Nat) {i : Nat} {ψ : List Value → World → Prop} (hj : N[j]? = some ⟨i, [y], ψ⟩) (hwt : waitsB { dst := d, op := .call { callee := .value (.func f), args := xs, argTypes := ts }, type := t, pos := ps, after := af, guard := g } i = true)
    (hv : ∀ f', xs.toList.map (fillW T f' a).eval = (vals (f' y)).toList) (hc : ∀ (x : Cls S) (u : Value), ψ [u] x.w → Calls P f (vals u) x.w fun e w'' => e = .returned v ∧ S w'' ∧ R k x.w w'')
    (hg : guardW ops T { dst := d, op := .call { callee := .value (.func f), args := xs, argTypes := ts }, type := t, pos := ps, after := af, guard := g } = true)
    (hw : Region.wanted { dst := d, op := .call { callee := .value (.func f), args := xs, argTypes := ts }, type := t, pos := ps, after := af, guard := g } (yielded ops a.tmps) = true) (w0 : World)
    (h : ∀ K : Act → Prop, (∀ a, wpU P ops S R U End (k + 1) rest T N a → K a) → Oper.quiet P { dst := d, op := .assign (.const v), type := t, pos := "", after := #[], guard := none } a (fun _ => True) K) :
    wpU P ops S R U End k ({ dst := d, op := .call { callee := .value (.func f), args := xs, argTypes := ts }, type := t, pos := ps, after := af, guard := g } :: rest) T N a :=
  flowu_val v (fun w f' hS hN hut => by
    have hv' : xs.map (fillW T f' a).eval = vals (f' y) := Array.ext' (by rw [Array.toList_map]; exact hv f')
    have he : (execOp (fillW T f' a).eval { dst := d, op := .call { callee := .value (.func f), args := xs, argTypes := ts }, type := t, pos := ps, after := af, guard := g }).run P w = .ok (.enter f (vals (f' y))) w := by
      simp only [execOp, resolve, hv']
      simp [Act.eval, Deferred.ofValue, invoke, hcf]
    unfold gives
    rw [he]
    exact (hc ⟨w, hS⟩ (f' y) (known_at hN j hj hwt)).mono fun e w'' ⟨he, hs, hr⟩ => ⟨v, he, rfl, hs, hr⟩) hg hw w0 h
/-- a whole struct is loaded from a block that all worlds of the class have -/
theorem flowu_load {d : Option Tmp} {E : TypeId} {x : Operand} {t : TypeId} {ps : String} {af : Array Edge} {g : Option (Nat × Bool)} (b : Nat) (cs : Array Value) (hb : ∀ y : Cls S, Blk y.w b E cs) (hu : (P.underlying E).map TypeDesc.isRow = some true) (hi : (P.info? E).map (·.size) = some cs.size)
    (hx : a.eval x = .pointer (some ⟨b, 0, none⟩)) (hRr : ∀ i w, R i w w)
    (hp : plainW ops T { dst := d, op := .load E x, type := t, pos := ps, after := af, guard := g } = true)
    (hg : guardW ops T { dst := d, op := .load E x, type := t, pos := ps, after := af, guard := g } = true) (hw : Region.wanted { dst := d, op := .load E x, type := t, pos := ps, after := af, guard := g } (yielded ops a.tmps) = true) (w0 : World)
    (h : ∀ K : Act → Prop, (∀ a, wpU P ops S R U End (k + 1) rest T N a → K a) → Oper.quiet P { dst := d, op := .assign (.const (.agg cs)), type := t, pos := "", after := #[], guard := none } a (fun _ => True) K) :
    wpU P ops S R U End k ({ dst := d, op := .load E x, type := t, pos := ps, after := af, guard := g } :: rest) T N a :=
  flowu_val (.agg cs) (fun w f hS hN hut => gives_congr (exec_plain (fun _ _ e => by cases e) hp f) (by
    unfold gives
    simp only [execOp, Sem.run_bind]
    rw [hx, run_load_blk (hb ⟨w, hS⟩) hu hi]
    exact ⟨rfl, hS, hRr _ _⟩)) hg hw w0 h
variable {ρ : Type} (ag : ρ → Array Value) (ok : ρ → Value) (Q : ρ → World → Prop)
def tupR (r : ρ) : Value := .tuple #[.agg (ag r), ok r]
def tupQ (l : List Value) (W : World) : Prop := ∃ r, l = [tupR ag ok r] ∧ Q r W
def tupM (l : List Value) (_ : World) : Prop := ∃ r, l = [tupR ag ok r, tupR ag ok r]
def tupA (l : List Value) (_ : World) : Prop := ∃ r, l = [.agg (ag r), tupR ag ok r]
def tupO (l : List Value) (_ : World) : Prop := ∃ r, l = [ok r, tupR ag ok r]
def tupE (l : List Value) (_ : World) : Prop := ∃ r, l = [ok r, ok r]
/-- a variable that was laid: some cells in it -/
def varAny (B : Nat) (E : TypeId) (n : Nat) (l : List Value) (W : World) : Prop := ∃ g, l = [.pointer (some ⟨g, 0, none⟩)] ∧ B ≤ g ∧ ∃ cs, cs.size = n ∧ Blk W g E cs
def varIn (B : Nat) (E : TypeId) (l : List Value) (W : World) : Prop := ∃ r g, l = [.pointer (some ⟨g, 0, none⟩), .agg (ag r)] ∧ B ≤ g ∧ Blk W g E (ag r)
/-- a new block of type E turns, and nothing else -/
def TurnsNew (B : Nat) (E : TypeId) (n : Nat) (w w' : World) : Prop := ∃ g cs cs', B ≤ g ∧ cs.size = n ∧ cs'.size = n ∧ Blk w g E cs ∧ Blk w' g E cs' ∧ w.grownBy w' (some g)
/-- operation kc may write to the row, operation ks to a new block of type E, the others lay new blocks alone -/
def RVar (kc ks : Nat) (row : Option Nat) (B : Nat) (E : TypeId) (n : Nat) (i : Nat) (w w' : World) : Prop := Below w.heap.size w w' ∨ (i = kc ∧ w.grownBy w' row) ∨ (i = ks ∧ TurnsNew B E n w w')
theorem RVar.refl {kc ks : Nat} {row : Option Nat} {B : Nat} {E : TypeId} {n : Nat} (i : Nat) (w : World) : RVar kc ks row B E n i w w := .inl (Below.refl _ _)
theorem varAny.stays {kc ks : Nat} {row : Option Nat} {B : Nat} {E : TypeId} {n : Nat} (hrow : ∀ q, row = some q → q < B) (l : List Value) (i : Nat) (w w' : World) (hr : RVar kc ks row B E n i w w') (h : varAny B E n l w) : varAny B E n l w' := by
  obtain ⟨g, h1, h2, cs, h3, h4⟩ := h
  rcases hr with hr | ⟨_, hr⟩ | ⟨_, g', cs1, cs2, q1, q2, q3, q4, q5, q6⟩
  · exact ⟨g, h1, h2, cs, h3, h4.below hr h4.lt⟩
  · exact ⟨g, h1, h2, cs, h3, h4.grown hr (fun e => by have := hrow g e.symm; omega)⟩
  · by_cases e : g = g'
    · subst e; exact ⟨g, h1, h2, cs2, q3, q5⟩
    · exact ⟨g, h1, h2, cs, h3, h4.grown q6 (fun e' => e (Option.some.inj e'))⟩
theorem varIn.stays {kc ks : Nat} {row : Option Nat} {B : Nat} {E : TypeId} {n : Nat} (hrow : ∀ q, row = some q → q < B) (l : List Value) (i : Nat) (w w' : World) (hi : i ≠ ks) (hr : RVar kc ks row B E n i w w') (h : varIn ag B E l w) : varIn ag B E l w' := by
  obtain ⟨r, g, h1, h2, h4⟩ := h
  rcases hr with hr | ⟨_, hr⟩ | ⟨e, _⟩
  · exact ⟨r, g, h1, h2, h4.below hr h4.lt⟩
  · exact ⟨r, g, h1, h2, h4.grown hr (fun e => by have := hrow g e.symm; omega)⟩
  · exact absurd e hi
/-- a row that is owned stays so -/
theorem own_var {kc ks : Nat} {row : Option Nat} {B : Nat} {E : TypeId} {n : Nat} {i : Nat} {w w' : World} {base size m : Nat} {e : TypeId} {v : Value} {xs : List Value} (hi : i ≠ kc) (hE : e ≠ E) (hr : RVar kc ks row B E n i w w') (h : w.ownsRow base e size v m xs) : w'.ownsRow base e size v m xs := by
  rcases hr with hr | ⟨e, _⟩ | ⟨_, g', cs1, cs2, q1, q2, q3, q4, q5, q6⟩
  · exact h.kept (only_of_below hr none) (by cases v.ownBlock <;> simp)
  · exact absurd e hi
  · exact h.kept q6 (.inr (own_blk_ne h q4 hE))
theorem flowt_end {v1 v2 v3 v4 v5 v6 : Value} {W : World} {B : Nat} {E : TypeId} (h28 : tupQ ag ok Q [v1] W) (h29 : tupM ag ok [v2, v1] W) (h30 : tupA ag ok [v3, v2] W) (h31 : tupO ag ok [v4, v2] W) (h33 : varIn ag B E [v5, v3] W) (h34 : tupE ok [v6, v4] W) :
    ∃ r g, Q r W ∧ v1 = tupR ag ok r ∧ v2 = tupR ag ok r ∧ v3 = .agg (ag r) ∧ v4 = ok r ∧ v5 = .pointer (some ⟨g, 0, none⟩) ∧ v6 = ok r ∧ B ≤ g ∧ Blk W g E (ag r) := by
  obtain ⟨r, e1, hQ⟩ := h28
  injection e1 with e1
  obtain ⟨r2, e2⟩ := h29
  injection e2 with e2 e2'
  injection e2' with e2'
  obtain ⟨r3, e3⟩ := h30
  injection e3 with e3 e3'
  injection e3' with e3'
  obtain ⟨r4, e4⟩ := h31
  injection e4 with e4 e4'
  injection e4' with e4'
  obtain ⟨r5, g, e5, hB, hk⟩ := h33
  injection e5 with e5 e5'
  injection e5' with e5'
  obtain ⟨r6, e6⟩ := h34
  injection e6 with e6 e6'
  injection e6' with e6'
  have t2 : v2 = tupR ag ok r := by rw [e2, ← e2', e1]
  have inj : ∀ r r', tupR ag ok r = tupR ag ok r' → ag r = ag r' ∧ ok r = ok r' := by
    intro r r' h
    unfold tupR at h
    injection h with h
    injection h with h
    injection h with h1 h2
    injection h1 with h1
    injection h2 with h2
    exact ⟨h1, h2⟩
  obtain ⟨a3, _⟩ := inj r r3 (by rw [← t2, e3'])
  obtain ⟨_, a4⟩ := inj r r4 (by rw [← t2, e4'])
  have a5 : ag r5 = ag r := by rw [e3] at e5'; injection e5' with e5'; rw [← e5', a3]
  exact ⟨r, g, hQ, e1, t2, by rw [e3, a3], by rw [e4, a4], e5, by rw [e6, ← e6', e4, a4], hB, by rw [← a5]; exact hk⟩
variable {kc ks : Nat} {row : Option Nat} {B : Nat} {E : TypeId} {n : Nat}
theorem flowt_call {d : Tmp} {f : FuncId} {xs : Array Operand} {ts : Array TypeId} {t : TypeId} {ps : String} {af : Array Edge} {g : Option (Nat × Bool)} (hk : k = kc) (hQ : ∀ r i w w', i ≠ kc → RVar kc ks row B E n i w w' → Q r w → Q r w')
    (hcf : ∀ (vals : Array Value) (w : World), (callFunc f vals).run P w = .ok (.enter f vals) w) (vals : Array Value) (hv : xs.map a.eval = vals)
    (hp : plainW ops T { dst := some d, op := .call { callee := .value (.func f), args := xs, argTypes := ts }, type := t, pos := ps, after := af, guard := g } = true)
    (hc : ∀ w, S w → untilU U k w → Calls P f vals w fun e w'' => ∃ r, e = .returned (tupR ag ok r) ∧ Q r w'' ∧ S w'' ∧ RVar kc ks row B E n k w w'')
    (hg : guardW ops T { dst := some d, op := .call { callee := .value (.func f), args := xs, argTypes := ts }, type := t, pos := ps, after := af, guard := g } = true)
    (hw : Region.wanted { dst := some d, op := .call { callee := .value (.func f), args := xs, argTypes := ts }, type := t, pos := ps, after := af, guard := g } (yielded ops a.tmps) = true) (w0 : World)
    (h : ∀ K : Act → Prop, (∀ a, wpU P ops S (RVar kc ks row B E n) U End (k + 1) rest (d :: T) (⟨k, [d], tupQ ag ok Q⟩ :: N) a → K a) → Oper.quiet P { dst := some d, op := .assign (.const undef), type := t, pos := "", after := #[], guard := none } a (fun _ => True) K) :
    wpU P ops S (RVar kc ks row B E n) U End k ({ dst := some d, op := .call { callee := .value (.func f), args := xs, argTypes := ts }, type := t, pos := ps, after := af, guard := g } :: rest) T N a :=
  flowu_rel [] (tupQ ag ok Q) (fun l i w w' hi hr ⟨r, h1, h2⟩ => ⟨r, h1, hQ r i w w' (hk ▸ hi) hr h2⟩) rfl rfl (fun w f' hS hN hut => gives_congr (exec_plain (fun _ _ e => by cases e) hp f') (by
    have he : (execOp a.eval { dst := some d, op := .call { callee := .value (.func f), args := xs, argTypes := ts }, type := t, pos := ps, after := af, guard := g }).run P w = .ok (.enter f vals) w := by
      simp [execOp, resolve, Act.eval, Deferred.ofValue, invoke, hcf, ← hv]
    unfold gives
    rw [he]
    exact (hc w hS hut).mono fun e w'' ⟨r, h1, h2, h3, h4⟩ => ⟨_, h1, ⟨r, rfl, h2⟩, h3, h4⟩)) hg hw w0 h
theorem flowt_move {d y : Tmp} {op : Op} {t : TypeId} {ps : String} {af : Array Edge} {g : Option (Nat × Bool)} (hop : ∀ (ρ : Operand → Value), execOp ρ { dst := some d, op := op, type := t, pos := ps, after := af, guard := g } = pure (.value (ρ (.tmp y)))) (j : Nat) {i : Nat} (hj : N[j]? = some ⟨i, [y], tupQ ag ok Q⟩) (hwt : waitsB { dst := some d, op := op, type := t, pos := ps, after := af, guard := g } i = true)
    (hyT : T.contains y = true) (hy : y < a.tmps.size) (hRr : ∀ i w, R i w w)
    (hys : (([y] : List Tmp).all fun y => T.contains y && (Oper.looksAt ops { dst := some d, op := op, type := t, pos := ps, after := af, guard := g }).contains y) = true) (hd : ([y] : List Tmp).contains d = false)
    (hg : guardW ops T { dst := some d, op := op, type := t, pos := ps, after := af, guard := g } = true) (hw : Region.wanted { dst := some d, op := op, type := t, pos := ps, after := af, guard := g } (yielded ops a.tmps) = true) (w0 : World)
    (h : ∀ K : Act → Prop, (∀ a, wpU P ops S R U End (k + 1) rest (d :: T) (⟨k, [d, y], tupM ag ok⟩ :: N) a → K a) → Oper.quiet P { dst := some d, op := .assign (.const undef), type := t, pos := "", after := #[], guard := none } a (fun _ => True) K) :
    wpU P ops S R U End k ({ dst := some d, op := op, type := t, pos := ps, after := af, guard := g } :: rest) T N a :=
  flowu_rel [y] (tupM ag ok) (fun _ _ _ _ _ _ h => h) hys hd (fun w f hS hN hut => by
    obtain ⟨r, h1, h2⟩ := known_at hN j hj hwt
    injection h1 with h1
    unfold gives
    rw [hop]
    simp only [Sem.run_pure]
    rw [fill_eval (by simpa using hyT) hy]
    exact ⟨⟨r, by simp [h1]⟩, hS, hRr _ _⟩) hg hw w0 h
theorem flowt_first {d y z : Tmp} {t : TypeId} {ps : String} {af : Array Edge} {g : Option (Nat × Bool)} (j : Nat) {i : Nat} (hj : N[j]? = some ⟨i, [y, z], tupM ag ok⟩) (hwt : waitsB { dst := some d, op := .extract (.tmp y) 0, type := t, pos := ps, after := af, guard := g } i = true)
    (hyT : T.contains y = true) (hy : y < a.tmps.size) (hRr : ∀ i w, R i w w)
    (hys : (([y] : List Tmp).all fun y => T.contains y && (Oper.looksAt ops { dst := some d, op := .extract (.tmp y) 0, type := t, pos := ps, after := af, guard := g }).contains y) = true) (hd : ([y] : List Tmp).contains d = false)
    (hg : guardW ops T { dst := some d, op := .extract (.tmp y) 0, type := t, pos := ps, after := af, guard := g } = true) (hw : Region.wanted { dst := some d, op := .extract (.tmp y) 0, type := t, pos := ps, after := af, guard := g } (yielded ops a.tmps) = true) (w0 : World)
    (h : ∀ K : Act → Prop, (∀ a, wpU P ops S R U End (k + 1) rest (d :: T) (⟨k, [d, y], tupA ag ok⟩ :: N) a → K a) → Oper.quiet P { dst := some d, op := .assign (.const undef), type := t, pos := "", after := #[], guard := none } a (fun _ => True) K) :
    wpU P ops S R U End k ({ dst := some d, op := .extract (.tmp y) 0, type := t, pos := ps, after := af, guard := g } :: rest) T N a :=
  flowu_rel [y] (tupA ag ok) (fun _ _ _ _ _ _ h => h) hys hd (fun w f hS hN hut => by
    obtain ⟨r, h1⟩ := known_at2 hN j hj hwt
    injection h1 with h1 _
    unfold gives
    simp only [execOp, Sem.run_bind]
    rw [fill_eval (by simpa using hyT) hy, h1, show (Instr.extract (tupR ag ok r) 0).run P w = .ok (.agg (ag r)) w from rfl]
    exact ⟨⟨r, by simp [h1]⟩, hS, hRr _ _⟩) hg hw w0 h
theorem flowt_second {d y z : Tmp} {t : TypeId} {ps : String} {af : Array Edge} {g : Option (Nat × Bool)} (j : Nat) {i : Nat} (hj : N[j]? = some ⟨i, [y, z], tupM ag ok⟩) (hwt : waitsB { dst := some d, op := .extract (.tmp y) 1, type := t, pos := ps, after := af, guard := g } i = true)
    (hyT : T.contains y = true) (hy : y < a.tmps.size) (hRr : ∀ i w, R i w w)
    (hys : (([y] : List Tmp).all fun y => T.contains y && (Oper.looksAt ops { dst := some d, op := .extract (.tmp y) 1, type := t, pos := ps, after := af, guard := g }).contains y) = true) (hd : ([y] : List Tmp).contains d = false)
    (hg : guardW ops T { dst := some d, op := .extract (.tmp y) 1, type := t, pos := ps, after := af, guard := g } = true) (hw : Region.wanted { dst := some d, op := .extract (.tmp y) 1, type := t, pos := ps, after := af, guard := g } (yielded ops a.tmps) = true) (w0 : World)
    (h : ∀ K : Act → Prop, (∀ a, wpU P ops S R U End (k + 1) rest (d :: T) (⟨k, [d, y], tupO ag ok⟩ :: N) a → K a) → Oper.quiet P { dst := some d, op := .assign (.const undef), type := t, pos := "", after := #[], guard := none } a (fun _ => True) K) :
    wpU P ops S R U End k ({ dst := some d, op := .extract (.tmp y) 1, type := t, pos := ps, after := af, guard := g } :: rest) T N a :=
  flowu_rel [y] (tupO ag ok) (fun _ _ _ _ _ _ h => h) hys hd (fun w f hS hN hut => by
    obtain ⟨r, h1⟩ := known_at2 hN j hj hwt
    injection h1 with h1 _
    unfold gives
    simp only [execOp, Sem.run_bind]
    rw [fill_eval (by simpa using hyT) hy, h1, show (Instr.extract (tupR ag ok r) 1).run P w = .ok (ok r) w from rfl]
    exact ⟨⟨r, by simp [h1]⟩, hS, hRr _ _⟩) hg hw w0 h
/-- e is written -/
theorem flowt_assign {d y z : Tmp} {op : Op} {t : TypeId} {ps : String} {af : Array Edge} {g : Option (Nat × Bool)} (hop : ∀ (ρ : Operand → Value), execOp ρ { dst := some d, op := op, type := t, pos := ps, after := af, guard := g } = pure (.value (ρ (.tmp y)))) (j : Nat) {i : Nat} (hj : N[j]? = some ⟨i, [y, z], tupO ag ok⟩) (hwt : waitsB { dst := some d, op := op, type := t, pos := ps, after := af, guard := g } i = true)
    (hyT : T.contains y = true) (hy : y < a.tmps.size) (hRr : ∀ i w, R i w w)
    (hys : (([y] : List Tmp).all fun y => T.contains y && (Oper.looksAt ops { dst := some d, op := op, type := t, pos := ps, after := af, guard := g }).contains y) = true) (hd : ([y] : List Tmp).contains d = false)
    (hg : guardW ops T { dst := some d, op := op, type := t, pos := ps, after := af, guard := g } = true) (hw : Region.wanted { dst := some d, op := op, type := t, pos := ps, after := af, guard := g } (yielded ops a.tmps) = true) (w0 : World)
    (h : ∀ K : Act → Prop, (∀ a, wpU P ops S R U End (k + 1) rest (d :: T) (⟨k, [d, y], tupE ok⟩ :: N) a → K a) → Oper.quiet P { dst := some d, op := .assign (.const undef), type := t, pos := "", after := #[], guard := none } a (fun _ => True) K) :
    wpU P ops S R U End k ({ dst := some d, op := op, type := t, pos := ps, after := af, guard := g } :: rest) T N a :=
  flowu_rel [y] (tupE ok) (fun _ _ _ _ _ _ h => h) hys hd (fun w f hS hN hut => by
    obtain ⟨r, h1⟩ := known_at2 hN j hj hwt
    injection h1 with h1 _
    unfold gives
    rw [hop]
    simp only [Sem.run_pure]
    rw [fill_eval (by simpa using hyT) hy]
    exact ⟨⟨r, by simp [h1]⟩, hS, hRr _ _⟩) hg hw w0 h
/-- x is laid -/
theorem flowt_alloc (z : Array Value) {d : Nat} {t : TypeId} {ps : String} {af : Array Edge} {g : Option (Nat × Bool)}
    (hrun : ∀ w : World, (Instr.alloc E true (.tuple #[])).run P w = .ok (.pointer (some ⟨w.heap.size, 0, none⟩)) (w.alloc (.cells z E))) (hz : z.size = n)
    (hrow : ∀ q, row = some q → q < B) (hS : ∀ w w', S w → Below w.heap.size w w' → S w') (hB : ∀ w, S w → B ≤ w.heap.size)
    (hg : guardW ops T { dst := some d, op := .alloc E, type := t, pos := ps, after := af, guard := g } = true)
    (hw : Region.wanted { dst := some d, op := .alloc E, type := t, pos := ps, after := af, guard := g } (yielded ops a.tmps) = true) (w0 : World)
    (h : ∀ K : Act → Prop, (∀ a, wpU P ops S (RVar kc ks row B E n) U End (k + 1) rest (d :: T) (⟨k, [d], varAny B E n⟩ :: N) a → K a) → Oper.quiet P { dst := some d, op := .assign (.const undef), type := t, pos := "", after := #[], guard := none } a (fun _ => True) K) :
    wpU P ops S (RVar kc ks row B E n) U End k ({ dst := some d, op := .alloc E, type := t, pos := ps, after := af, guard := g } :: rest) T N a :=
  flowu_fact (varAny B E n) (varAny.stays hrow) (fun w f hs hN hut => by
    have hb : Below w.heap.size w (w.alloc (.cells z E)) := (Below.refl _ _).alloc (Nat.le_refl _) _
    unfold gives
    simp only [execOp, Sem.run_bind]
    rw [hrun]
    exact ⟨⟨_, rfl, hB w hs, z, hz, Blk.new _ _ _⟩, hS _ _ hs hb, .inl hb⟩) hg hw w0 h
/-- x is written -/
theorem flowt_store {y x z : Tmp} {t : TypeId} {ps : String} {af : Array Edge} {g : Option (Nat × Bool)} (hk : k = ks) (j j' : Nat) {i i' : Nat}
    (hj : N[j]? = some ⟨i, [y], varAny B E n⟩) (hwt : waitsB { dst := none, op := .store E (.tmp y) (.tmp x), type := t, pos := ps, after := af, guard := g } i = true) (hyT : T.contains y = true) (hy : y < a.tmps.size)
    (hj' : N[j']? = some ⟨i', [x, z], tupA ag ok⟩) (hwt' : waitsB { dst := none, op := .store E (.tmp y) (.tmp x), type := t, pos := ps, after := af, guard := g } i' = true) (hxT : T.contains x = true) (hx : x < a.tmps.size)
    (hys : (([y, x] : List Tmp).all fun y' => T.contains y' && (Oper.looksAt ops { dst := none, op := .store E (.tmp y) (.tmp x), type := t, pos := ps, after := af, guard := g }).contains y') = true)
    (hrow : ∀ q, row = some q → q < B) (hsz : ∀ w : World, (sizeOf E).run P w = .ok n w) (hn : ∀ r, (ag r).size = n) (h1 : ∀ r, ∀ v ∈ (ag r).toList, v.oneCell' = true) (hput : ∀ r (cs : Array Value), cs.size = n → putFrom cs 0 (ag r).toList = ag r)
    (hS : ∀ w w' b, S w → B ≤ b → b < w.heap.size → w.grownBy w' (some b) → S w')
    (hg : guardW ops T { dst := none, op := .store E (.tmp y) (.tmp x), type := t, pos := ps, after := af, guard := g } = true) (hw : Region.wanted { dst := none, op := .store E (.tmp y) (.tmp x), type := t, pos := ps, after := af, guard := g } (yielded ops a.tmps) = true)
    (h : wpU P ops S (RVar kc ks row B E n) U End (k + 1) rest T (⟨k, [y, x], varIn ag B E⟩ :: N) a) :
    wpU P ops S (RVar kc ks row B E n) U End k ({ dst := none, op := .store E (.tmp y) (.tmp x), type := t, pos := ps, after := af, guard := g } :: rest) T N a := by
  refine ⟨hg, ?_⟩
  rw [if_pos hw]
  refine .inr ⟨[([y, x], varIn ag B E)], fun d hd => ?_, fun w f hs hN hut => ?_, h⟩
  · obtain rfl : d = ([y, x], varIn ag B E) := by simpa using hd
    refine ⟨fun t' ht => ?_, fun l i w w' hi hr h => varIn.stays ag hrow l i w w' (hk ▸ hi) hr h⟩
    have := List.all_eq_true.1 hys t' ht
    rw [Bool.and_eq_true] at this
    exact .inr ⟨by simpa using this.1, by simpa using this.2⟩
  · obtain ⟨b, hb, hB, cs, hcs, hbk⟩ := known_at hN j hj hwt
    injection hb with hb
    obtain ⟨r, hr⟩ := known_at2 hN j' hj' hwt'
    injection hr with hr _
    obtain ⟨W', q1, q2, q3, q4, q5, q6, q7⟩ := run_storeCells (P := P) b E (ag r).toList 0 w cs hbk (by simp [hcs, hn]) (h1 r)
    rw [hput r cs hcs] at q2
    have hgr : w.grownBy W' (some b) := ⟨q5, q6, q7, by omega, fun i hi hne => q3 i (fun e => hne (by rw [e]))⟩
    have hsv : (storeVar E ⟨b, 0, none⟩ (.agg (ag r))).run P w = .ok () W' := by
      unfold storeVar
      simp only [Sem.run_bind, hsz, Result.andThen_ok, Value.cells, hn]
      simp only [ne_eq, not_true_eq_false, if_false]
      exact q1
    have hst : (Instr.storeAt E (.pointer (some ⟨b, 0, none⟩)) (.agg (ag r))).run P w = .ok () W' := by
      unfold Instr.storeAt
      simp only [Sem.run_bind]
      rw [show (Instr.sureAddr (.pointer (some ⟨b, 0, none⟩))).run P w = .ok ⟨b, 0, none⟩ w from rfl]
      exact hsv
    unfold gives
    simp only [execOp, Sem.run_bind]
    rw [fill_eval (by simpa using hyT) hy, fill_eval (by simpa using hxT) hx, hb, hr, hst]
    refine ⟨fun d hd => ?_, hS _ _ b hs hB hbk.lt hgr, .inr (.inr ⟨hk, b, cs, ag r, hB, hcs, hn r, hbk, q2, hgr⟩)⟩
    obtain rfl : d = ([y, x], varIn ag B E) := by simpa using hd
    exact ⟨r, b, by simp [updW, hb, hr], hB, q2⟩
end
end Go.Proofs.Ytengegcnocdkoaa
end
section
namespace Go.Proofs.Ytengegcnocdkoaa
open Go.RowKit Go.BigFrame
theorem setRow_new (w : World) (z c : Array Value) (E : TypeId) : (w.alloc (.cells z E)).setRow w.heap.size c = w.alloc (.cells c E) := by
  unfold World.setRow World.alloc
  congr 1
  apply Array.ext
  · simp
  · intro i h1 h2
    rw [Array.getElem_modify]
    by_cases hi : w.heap.size = i
    · subst hi
      simp
    · rw [if_neg hi]
      have hlt : i < w.heap.size := by simp at h2; omega
      simp [Array.getElem_push, hlt]
section
variable {w w' : World} {g : Nat} {E : TypeId} {cs : Array Value}
theorem Blk.row (h : Blk w g E cs) (vs : Array Value) : Blk (w.setRow g vs) g E vs := by
  unfold Blk at h ⊢
  simp [World.setRow, Array.getElem?_modify, h]
theorem heap_row (w : World) (g : Nat) (vs : Array Value) (i : Nat) (hi : i ≠ g) : (w.setRow g vs).heap[i]? = w.heap[i]? := by
  simp [World.setRow, Array.getElem?_modify, Ne.symm hi]
theorem size_row (w : World) (g : Nat) (vs : Array Value) : (w.setRow g vs).heap.size = w.heap.size := by simp [World.setRow]
theorem Blk.row_far {x : Nat} (h : Blk w g E cs) (hx : g ≠ x) (vs : Array Value) : Blk (w.setRow x vs) g E cs := (heap_row w x vs g hx).trans h
end
section
variable {P : Program} {ops : Array Oper} {rest : List Oper} {op : Oper} {a : Act} {w : World} {Q : Exit → Act → World → Prop} {g : Nat} {E : TypeId} {cs : Array Value}
theorem wpl_put (h : Blk w g E cs) (vs : Array Value) (hi : (P.info? E).map (·.size) = some vs.size) (hs : cs.size = vs.size) (h1 : vs.all (·.oneCell') = true)
    (hgd : op.guard = none) (x y : Operand) (ho : op.op = .store E x y) (hd : op.dst = none) (hx : a.eval x = .pointer (some ⟨g, 0, none⟩)) (hy : a.eval y = .agg vs) (hn : wpList P ops Q rest a (w.setRow g vs)) : wpList P ops Q (op :: rest) a w :=
  wpList_store_rowTo hgd E x y ho hd g vs hx hy E cs h hi hs h1 hn
/-- .. into the block that was just laid -/
theorem wpl_put_new {z : Array Value} {B : Nat} (hB : B = w.heap.size) (vs : Array Value) (hi : (P.info? E).map (·.size) = some vs.size) (hs : z.size = vs.size) (h1 : vs.all (·.oneCell') = true)
    (hgd : op.guard = none) (x y : Operand) (ho : op.op = .store E x y) (hd : op.dst = none) (hx : a.eval x = .pointer (some ⟨B, 0, none⟩)) (hy : a.eval y = .agg vs) (hn : wpList P ops Q rest a (w.alloc (.cells vs E))) : wpList P ops Q (op :: rest) a (w.alloc (.cells z E)) := by
  subst hB
  refine wpl_put (Blk.new w E z) vs hi hs h1 hgd x y ho hd hx hy ?_
  rw [setRow_new]
  exact hn
end
theorem ipI : (Try.prog.info? 63).map (·.size) = some 7 := by kernel_rfl
theorem tcpI : (Try.prog.info? 60).map (·.size) = some 8 := by kernel_rfl
theorem optsI : (Try.prog.info? 28).map (·.size) = some 7 := by kernel_rfl
theorem segI_ : (Try.prog.info? 30).map (·.size) = some 16 := by kernel_rfl
theorem optsU : (Try.prog.underlying 28).map TypeDesc.isRow = some true := by kernel_rfl
end Go.Proofs.Ytengegcnocdkoaa
end
