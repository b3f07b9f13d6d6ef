/- Contracts of layer 3 (sum), fourth part: Turns. -/
import Derived.Test.YtcfomapeiaobaaaSumOf
import Derived.Lib.MinMax
set_option linter.unusedVariables false
set_option linter.unusedSimpArgs false
namespace Go.Proofs.Ytcfomapeiaobaaa
open Go.RowKit Go.Shelf
attribute [local go_sem] Oper.semAt_some

theorem infoU16 : (Try.prog.info? 40).map (fun i => (i.zero, i.size, i.bytes)) = some (some (.int .u16 0), 1, 2) := by kernel_rfl
theorem catS_one (s : ByteArray) : catS [s] = s.data.toList := by simp [catS]
def encW (x : W16) : Value := .int .u16 (x.1 : Int)

theorem turn_below (a b c : Nat) (w : World) (ha : a < 65536) (hb : b < 65536) (hc : c < 65536) :
    Calls Try.prog 41 #[.int .u16 (a : Int), .int .u16 (b : Int), .int .u16 (c : Int)] w fun e w' => e = .returned (.int .u16 ((turnL a b c : Nat) : Int)) ∧ Below w.heap.size w w' :=
  (turn_any a b c w ha hb hc).mono fun e w' ⟨h1, h2⟩ => ⟨h1, by rw [h2]; exact (Below.refl _ _).alloc (Nat.le_refl _) _⟩
theorem zip_snoc : ∀ (L C : List Nat) (p : Nat) (h : C.length < L.length), L.zip (C ++ [p]) = L.zip C ++ [(L[C.length], p)]
  | [], _, _, h => absurd h (by simp)
  | a :: L, [], p, _ => by simp
  | a :: L, c :: C, p, h => by
    have := zip_snoc L C p (by simpa using h)
    simp only [List.cons_append, List.zip_cons_cons, this, List.length_cons, List.getElem_cons_succ]
theorem row_type {W : World} {base : Nat} {e : TypeId} {size k : Nat} {v : Value} {xs : List Value} (h : W.ownsRow base e size v k xs) :
    ∀ (g : Nat), v.ownBlock = some g → ∀ cs t d, W.heap[g]? = some (Obj.cells cs t d) → t = e := by
  intro g hg cs t d hc
  rcases h.2 with ⟨rfl, _⟩ | ⟨g', cap, cur, rfl, _, hgb, _⟩
  · simp [Value.ownBlock] at hg
  · obtain rfl : g' = g := by simpa [Value.ownBlock] using hg
    rw [hgb] at hc
    injection hc with hc
    injection hc with _ h2
    exact h2.symm
theorem row_base {W : World} {base : Nat} {e : TypeId} {size k : Nat} {v : Value} {xs : List Value} (h : W.ownsRow base e size v k xs) : ∀ (g : Nat), v.ownBlock = some g → base ≤ g := by
  intro g hg
  rcases h.2 with ⟨rfl, _⟩ | ⟨g', cap, cur, rfl, hb, _⟩
  · simp [Value.ownBlock] at hg
  · obtain rfl : g' = g := by simpa [Value.ownBlock] using hg
    exact hb

set_option maxRecDepth 100000 in
set_option maxHeartbeats 4000000 in
theorem turns_in (s : Nat) (x y : ByteArray) (hs : s < 65536) (hx : x.size ≤ 1099511627776) (hy : y.size ≤ 1099511627776) (n : Nat) (hn : n = min x.size y.size) (w : World) :
    CallsIn Fence.wide 3 Try.prog 43 #[.int .u16 (s : Int), .string x, .string y] w fun e w' =>
      e = .returned (.int .u16 ((turnsL s ((wordsL (x.data.toList.take n)).zip (wordsL (y.data.toList.take n))) : Nat) : Int)) ∧ Below w.heap.size w w' := by
  obtain ⟨i0, hi, hz0, hz1, hz2⟩ := info_parts infoU16
  have hnx : n ≤ x.size := by omega
  have hny : n ≤ y.size := by omega
  have hmin : min (x.size : Int) (y.size : Int) = (n : Int) := by omega
  refine callsIn_of_wp_marks Try.func43 rfl trivial ?_ rfl
  simp only [Try.ntmps43, List.size_toArray, List.length_cons, List.length_nil, Nat.reduceAdd, Nat.reduceSub, Array.replicate_succ, Array.replicate_zero, List.push_toArray, List.append_toArray, List.nil_append, List.cons_append]
  gi_wp2_with (refine ⟨trivial, ?_⟩; gi_at_call 45; refine (words_in _ _ _ _).mono ?_; rintro e w' ⟨rfl, rfl⟩)
  rw [← hn]
  clear hn hmin
  have b0 := ((Boxed.new w 40 (.int .u16 (s : Int))).alloc (.cells #[.slice none 0 0] 42)).alloc (.cells #[.string (x.extract 0 n)] 9)
  have b1 := (Boxed.new (w.alloc (.cells #[.int .u16 (s : Int)] 40)) 42 (.slice none 0 0)).alloc (.cells #[.string (x.extract 0 n)] 9)
  have b2 := Blk.new ((w.alloc (.cells #[.int .u16 (s : Int)] 40)).alloc (.cells #[.slice none 0 0] 42)) 9 #[.string (x.extract 0 n)]
  have b3 := Boxed.new (((w.alloc (.cells #[.int .u16 (s : Int)] 40)).alloc (.cells #[.slice none 0 0] 42)).alloc (.cells #[.string (x.extract 0 n)] 9)) 59 (.slice (some ⟨w.heap.size + 1 + 1, 0, none⟩) 1 1)
  have hB0 : Below w.heap.size w ((((w.alloc (.cells #[.int .u16 (s : Int)] 40)).alloc (.cells #[.slice none 0 0] 42)).alloc (.cells #[.string (x.extract 0 n)] 9)).alloc (.cells #[.slice (some ⟨w.heap.size + 1 + 1, 0, none⟩) 1 1] 59)) :=
    ((((Below.refl _ w).alloc (Nat.le_refl _) _).alloc (by simp) _).alloc (by simp; omega) _).alloc (by simp; omega) _
  have b0 := b0.alloc (.cells #[.slice (some ⟨w.heap.size + 1 + 1, 0, none⟩) 1 1] 59)
  have b1 := b1.alloc (.cells #[.slice (some ⟨w.heap.size + 1 + 1, 0, none⟩) 1 1] 59)
  have b2 := Blk.alloc b2 (.cells #[.slice (some ⟨w.heap.size + 1 + 1, 0, none⟩) 1 1] 59)
  have hsz : ((((w.alloc (.cells #[.int .u16 (s : Int)] 40)).alloc (.cells #[.slice none 0 0] 42)).alloc (.cells #[.string (x.extract 0 n)] 9)).alloc (.cells #[.slice (some ⟨w.heap.size + 1 + 1, 0, none⟩) 1 1] 59)).heap.size = w.heap.size + 4 := by simp
  simp only [World.size_alloc] at b1 b2 b3
  generalize (((w.alloc (.cells #[.int .u16 (s : Int)] 40)).alloc (.cells #[.slice none 0 0] 42)).alloc (.cells #[.string (x.extract 0 n)] 9)).alloc (.cells #[.slice (some ⟨w.heap.size + 1 + 1, 0, none⟩) 1 1] 59) = W0 at *
  have hL : catS [x.extract 0 n] = x.data.toList.take n := by rw [catS_one, ByteArray.data_extract]; simp
  refine wpIn_rangeFunc_ownG rfl (by omega) (gf := 49) (lb := #[.pointer (some ⟨w.heap.size + 1 + 1 + 1, 0, none⟩)]) rfl trivial (enters_of Try.func49 (by kernel_rfl) rfl)
    (words_stops w.heap.size (w.heap.size + 1 + 1 + 1) (some ⟨w.heap.size + 1 + 1, 0, none⟩) 1 1 [x.extract 0 n] rfl (by omega) (by simp only [maxLen]; simp; omega) _ (by omega) (by omega) b3.cell (Stable.of_blk b2)) KeepsBytes.trans (KeepsBytes.putObj (by omega)) (Below.refl _ _) (fun _ => rfl)
    (fun pre W => (∃ v, Boxed W (w.heap.size + 1) 42 v ∧ W.ownsRow (w.heap.size + 1) 40 1 v pre.length (pre.map encW) ∧ True) ∧ Boxed W w.heap.size 40 (.int .u16 (s : Int)) ∧ Below w.heap.size w W)
    (fun _ _ _ => False)
    (OwnFrom.and (Own.from (holdsRow_own (w.heap.size + 1) (w.heap.size + 1) 42 40 1 (fun pre : List W16 => pre.length) (fun pre => pre.map encW) (fun _ _ => True)) _) (OwnFrom.and (Own.from (boxed_own _ _ fun _ : List W16 => .int .u16 (s : Int)) _) (ownFrom_below (Nat.le_refl _) (by omega))))
    (fun _ _ _ _ _ hs _ _ => hs)
    ⟨⟨_, b1, World.ownsRow_nil _ _ _ _, trivial⟩, b0, hB0⟩
    (fun x1 => { tmps := #[.int .u16 (s : Int), .string x, .string y, .pointer (some ⟨w.heap.size, 0, none⟩), undef, undef, .int .u16 0, .int .i64 (n : Int), .pointer (some ⟨w.heap.size + 1, 0, none⟩), .int .u16 (x1.1 : Int), undef, undef, .string x, .int .i64 (x.size : Int), .string y, .int .i64 (y.size : Int), .int .i64 (n : Int), .string x, .int .i64 (n : Int), .string (x.extract 0 n), .slice (some ⟨w.heap.size + 1 + 1, 0, none⟩) 1 1, .func (.func 49) #[] #[.pointer (some ⟨w.heap.size + 1 + 1 + 1, 0, none⟩)], .int .u16 (x1.1 : Int), undef, undef, undef, undef, undef, undef, undef, undef, undef, undef, undef, undef, undef, undef, undef, undef, undef, undef, undef, undef], defers := [] }) ?assign ?body ?done ?stop
  case assign =>
    intro l x1 W K hK
    gi_wp2
    exact hK
  case stop =>
    rintro D c pre W _ _ h _
    exact h.elim
  case body =>
    rintro l pre x1 W ⟨⟨v, hv, hrow, _⟩, hb, hB⟩ hlt
    have hlen : pre.length < 1099511627776 := by
      rw [hL, wordsL_length] at hlt
      simp at hlt
      omega
    obtain ⟨xv, hxv⟩ := x1
    dsimp only
    have hc := hv.cell
    have hf := hv.frozen
    have hn1 : w.heap.size + 1 ≤ W.heap.size := by have := hv.lt; omega
    clear hlt hL b0 b1 b2 b3
    have HS := Lib.hid hsz
    clear hsz
    gi_wp2_with (gi_at_builtin; refine wpListIn_append_own _ rfl _ _ 42 rfl (w.heap.size + 1) 40 i0 (.int .u16 0) 1 2 Try.underlying42 hi hz0 hz1 hz2 rfl (by decide) _ _ _ rfl (hrow.alloc _) ⟨W.heap.size, 0, none⟩ 1 1 [encW ⟨xv, hxv⟩] rfl rfl (cell_one_new _ _ _) (by simp [Value.oneCell', encW]) (by simp only [maxLen]; omega) (by omega) (by simp; omega) ?_; intro v' w1 hown' hgrow _; obtain ⟨g', cap', rfl⟩ := ownsRow_succ hown'; obtain ⟨hv1, hv2, hr2, hk2, hb2⟩ := hv.appended (by decide) hrow hn1 (Nat.le_refl _) hown' hgrow; have hc1 := hv1.cell; have hf1 := hv1.frozen)
    have hne : some w.heap.size ≠ v.ownBlock := fun e => by have := row_base hrow _ e.symm; omega
    have hkb : KeepsBytes w.heap.size W (w1.setCell ⟨w.heap.size + 1, 0, none⟩ (.slice (some ⟨g', 0, none⟩) (pre.length + 1) cap')) := by
      refine (KeepsBytes.of_below (by omega) ((Below.refl _ W).alloc (Nat.le_refl _) (.cells #[.int .u16 (xv : Int)] 40))).trans ((KeepsBytes.of_grown ?_ hgrow ?_).trans (KeepsBytes.of_grown ((Below.refl _ w1).setCell (p := ⟨w.heap.size + 1, 0, none⟩) (by simp) _) (grownBy_setCell' _ _ _) ?_))
      · exact (Below.refl _ _).grown hgrow (by simp; omega) (fun j ej => by have := row_base hrow _ ej; omega)
      · intro g hg cs t d ht hcs
        have := row_type (hrow.alloc _) g hg cs t d hcs
        rcases ht with rfl | rfl <;> cases this
      · intro g hg cs t d ht hcs
        cases hg
        rw [show w1.heap[w.heap.size + 1]? = _ from hv1] at hcs
        rcases ht with rfl | rfl <;> cases hcs
    exact ⟨hk2.from _, hkb, ⟨⟨_, hv2, by simpa using hr2, trivial⟩, ((hb.alloc _).kept hgrow hne).other (by omega) _, hB.trans (hb2.mono (by omega))⟩⟩
  case done =>
    rintro D xs W hD hS ⟨⟨v, hv, hrow, _⟩, hb, hB⟩ hK
    clear b0 b1 b2 b3
    gi_wp2_with (refine ⟨trivial, ?_⟩; gi_at_call 45; refine (words_in _ _ _ _).mono ?_; rintro e w' ⟨rfl, rfl⟩)
    have hDlt : D < W.heap.size := (Array.getElem?_eq_some_iff.1 hK).1
    have hn1 : w.heap.size + 1 < W.heap.size := by have := hv.lt; omega
    have c0 := ((hb.alloc (.cells #[.int .i64 0] 3)).alloc (.cells #[.string (y.extract 0 n)] 9)).alloc (.cells #[.slice (some ⟨W.heap.size + 1, 0, none⟩) 1 1] 59)
    have c1 := ((hv.alloc (.cells #[.int .i64 0] 3)).alloc (.cells #[.string (y.extract 0 n)] 9)).alloc (.cells #[.slice (some ⟨W.heap.size + 1, 0, none⟩) 1 1] 59)
    have cr := ((hrow.alloc (.cells #[.int .i64 0] 3)).alloc (.cells #[.string (y.extract 0 n)] 9)).alloc (.cells #[.slice (some ⟨W.heap.size + 1, 0, none⟩) 1 1] 59)
    have c2 := ((Boxed.new W 3 (.int .i64 0)).alloc (.cells #[.string (y.extract 0 n)] 9)).alloc (.cells #[.slice (some ⟨W.heap.size + 1, 0, none⟩) 1 1] 59)
    have c3 := Blk.alloc (Blk.new (W.alloc (.cells #[.int .i64 0] 3)) 9 #[.string (y.extract 0 n)]) (.cells #[.slice (some ⟨W.heap.size + 1, 0, none⟩) 1 1] 59)
    have c4 := Boxed.new ((W.alloc (.cells #[.int .i64 0] 3)).alloc (.cells #[.string (y.extract 0 n)] 9)) 59 (.slice (some ⟨W.heap.size + 1, 0, none⟩) 1 1)
    have cB : Below W.heap.size W (((W.alloc (.cells #[.int .i64 0] 3)).alloc (.cells #[.string (y.extract 0 n)] 9)).alloc (.cells #[.slice (some ⟨W.heap.size + 1, 0, none⟩) 1 1] 59)) :=
      (((Below.refl _ W).alloc (Nat.le_refl _) _).alloc (by simp) _).alloc (by simp; omega) _
    have csz : (((W.alloc (.cells #[.int .i64 0] 3)).alloc (.cells #[.string (y.extract 0 n)] 9)).alloc (.cells #[.slice (some ⟨W.heap.size + 1, 0, none⟩) 1 1] 59)).heap.size = W.heap.size + 3 := by simp
    simp only [World.size_alloc] at c3 c4
    have hB1 := hB.trans (cB.mono (by omega))
    have hK1 := (cB.block D hDlt).trans hK
    generalize ((W.alloc (.cells #[.int .i64 0] 3)).alloc (.cells #[.string (y.extract 0 n)] 9)).alloc (.cells #[.slice (some ⟨W.heap.size + 1, 0, none⟩) 1 1] 59) = W2 at *
    have hL2 : catS [y.extract 0 n] = y.data.toList.take n := by rw [catS_one, ByteArray.data_extract]; simp
    have hlx : xs.length = (n + 1) / 2 := by
      have := congrArg List.length hS
      rw [hL, wordsL_length] at this
      simp at this
      omega
    refine wpIn_rangeFunc_ownG rfl (by omega) (gf := 49) (lb := #[.pointer (some ⟨W.heap.size + 1 + 1, 0, none⟩)]) rfl trivial (enters_of Try.func49 (by kernel_rfl) rfl)
      (words_stops w.heap.size (W.heap.size + 1 + 1) (some ⟨W.heap.size + 1, 0, none⟩) 1 1 [y.extract 0 n] rfl (by omega) (by simp only [maxLen]; simp; omega) _ (by omega) (by omega) c4.cell (Stable.of_blk c3)) KeepsBytes.trans (KeepsBytes.putObj (by omega)) (Below.refl _ _) (fun _ => rfl)
      (fun pre Z => (∃ v', Boxed Z (w.heap.size + 1) 42 v' ∧ Z.ownsRow (w.heap.size + 1) 40 1 v' xs.length (xs.map encW) ∧ v' = v) ∧ Boxed Z w.heap.size 40 (.int .u16 ((turnsL s ((xs.map (·.1)).zip (pre.map (·.1))) : Nat) : Int)) ∧ Boxed Z W.heap.size 3 (.int .i64 (pre.length : Int)) ∧ Z.heap[D]? = some (.deferred (some [])) ∧ Below w.heap.size w Z)
      (fun _ _ _ => False)
      (OwnFrom.and (Own.from (holdsRow_own (w.heap.size + 1) (w.heap.size + 1) 42 40 1 (fun _ : List W16 => xs.length) (fun _ => xs.map encW) (fun _ v' => v' = v)) _)
        (OwnFrom.and (Own.from (boxed_own _ _ fun pre : List W16 => .int .u16 ((turnsL s ((xs.map (·.1)).zip (pre.map (·.1))) : Nat) : Int)) _)
          (OwnFrom.and (Own.from (boxed_own _ _ fun pre : List W16 => .int .i64 (pre.length : Int)) _)
            (OwnFrom.and (fun _ X Y row hs hg hr => (hg.block D (Array.getElem?_eq_some_iff.1 hs).1 (fun e => by have := (hr D e.symm).1; omega)).trans hs) (ownFrom_below (Nat.le_refl _) (by omega))))))
      (fun _ _ _ _ _ hs _ _ => hs)
      ⟨⟨v, c1, cr, rfl⟩, by simpa [turnsL] using c0, c2, hK1, hB1⟩
      (fun x1 => { tmps := #[.int .u16 (s : Int), .string x, .string y, .pointer (some ⟨w.heap.size, 0, none⟩), undef, undef, .int .u16 0, .int .i64 (n : Int), .pointer (some ⟨w.heap.size + 1, 0, none⟩), undef, .pointer (some ⟨W.heap.size, 0, none⟩), .int .u16 (x1.1 : Int), .string x, .int .i64 (x.size : Int), .string y, .int .i64 (y.size : Int), .int .i64 (n : Int), .string x, .int .i64 (n : Int), .string (x.extract 0 n), .slice (some ⟨w.heap.size + 1 + 1, 0, none⟩) 1 1, .func (.func 49) #[] #[.pointer (some ⟨w.heap.size + 1 + 1 + 1, 0, none⟩)], undef, undef, undef, undef, undef, .string y, .int .i64 (n : Int), .string (y.extract 0 n), .slice (some ⟨W.heap.size + 1, 0, none⟩) 1 1, .func (.func 49) #[] #[.pointer (some ⟨W.heap.size + 1 + 1, 0, none⟩)], .int .u16 (x1.1 : Int), undef, undef, undef, undef, undef, undef, undef, undef, undef, undef], defers := [] }) ?assign2 ?body2 ?done2 ?stop2
    case assign2 =>
      intro l x1 Z K hK
      gi_wp2
      exact hK
    case stop2 =>
      rintro D2 c pre Z _ _ h _
      exact h.elim
    case body2 =>
      rintro l pre x1 Z ⟨⟨v', hv', hrow', rfl⟩, hb', hi', hK', hB'⟩ hlt
      rw [hL2, wordsL_length] at hlt
      have hkx : pre.length < xs.length := by rw [hlx]; simp at hlt; omega
      obtain ⟨A, c, rfl, hrd⟩ := own_slice hrow'
      obtain ⟨ad, u, rfl, hadl, hu, hcl⟩ := hrd.at_ hkx
      rw [List.getElem?_map, List.getElem?_eq_getElem hkx] at hu
      simp only [Option.map_some, Option.some.injEq, encW] at hu
      subst hu
      have hzip : (xs.map (·.1)).zip ((pre ++ [x1]).map (·.1)) = (xs.map (·.1)).zip (pre.map (·.1)) ++ [(xs[pre.length].1, x1.1)] := by
        have := zip_snoc (xs.map (·.1)) (pre.map (·.1)) x1.1 (by simpa using hkx)
        simp only [List.map_append, List.map_cons, List.map_nil]
        rw [this]
        simp
      have ht := turnsL_snoc s ((xs.map (·.1)).zip (pre.map (·.1))) (xs[pre.length].1, x1.1)
      rw [← hzip] at ht
      have hq := turnsL_le (s := s) (by omega) ((xs.map (·.1)).zip (pre.map (·.1)))
      have hy16 := xs[pre.length].2
      obtain ⟨xv, hxv⟩ := x1
      dsimp only at ht ⊢
      generalize xs[pre.length].1 = yv at *
      generalize turnsL s ((xs.map (·.1)).zip (pre.map (·.1))) = q at *
      have hlx2 : xs.length < 1099511627776 := by omega
      have HS2 := Lib.hid hD
      rw [hsz] at HS2
      clear hlt hL hL2 hzip hlx hS c0 c1 c2 c3 c4 cr hrd hrow hv hb hK hB
      have HT := Lib.hid ht
      clear ht
      have z0 := hb'.cell
      have z0f := hb'.frozen
      have z1 := hv'.cell
      have z2 := hi'.cell
      have z2f := hi'.frozen
      have hmx : Try.prog.follows .mixedOrders = true := by kernel_rfl
      have hd : 1 ≤ 3 - 1 - 1 := by omega
      gi_wp2
      gi_region_with_o (refine ⟨trivial, ?_⟩; gi_at_call 41; refine (CallsIn.inRound l (callsIn_wide.2 (turn_below q yv xv _ (by omega) hy16 hxv))).mono ?_; rintro e w' ⟨rfl, hbw⟩; have y0 := (Boxed.kept (W := Z.drew) (W' := w') hb' (only_of_below hbw none) (by simp)).cell; have y0f := (Boxed.kept (W := Z.drew) (W' := w') hb' (only_of_below hbw none) (by simp)).frozen)
      all_goals
        have hDb : w.heap.size + 4 ≤ D := by have := HS2.out; omega
        have hnr : (Value.slice (some ad) xs.length c).ownBlock ≠ some w.heap.size := fun e => by have := row_base hrow' _ e; omega
        have g0 : Z.drew.grownBy (w'.setCell ⟨w.heap.size, 0, none⟩ (.int .u16 ((turnL q yv xv : Nat) : Int))) (some w.heap.size) := only_set (only_of_below hbw (some w.heap.size)) 0 _
        have e0 : Boxed (w'.setCell ⟨w.heap.size, 0, none⟩ (.int .u16 ((turnL q yv xv : Nat) : Int))) w.heap.size 40 (.int .u16 ((turnL q yv xv : Nat) : Int)) := (Boxed.kept (W := Z.drew) hb' (only_of_below hbw none) (by simp)).set _
        have e1 : Boxed (w'.setCell ⟨w.heap.size, 0, none⟩ (.int .u16 ((turnL q yv xv : Nat) : Int))) (w.heap.size + 1) 42 (.slice (some ad) xs.length c) := Boxed.kept (W := Z.drew) hv' g0 (by simp)
        have e2 : Boxed (w'.setCell ⟨w.heap.size, 0, none⟩ (.int .u16 ((turnL q yv xv : Nat) : Int))) W.heap.size 3 (.int .i64 (pre.length : Int)) := Boxed.kept (W := Z.drew) hi' g0 (by simp; omega)
        have er : (w'.setCell ⟨w.heap.size, 0, none⟩ (.int .u16 ((turnL q yv xv : Nat) : Int))).ownsRow (w.heap.size + 1) 40 1 (.slice (some ad) xs.length c) xs.length (xs.map encW) := World.ownsRow.kept (w := Z.drew) hrow' g0 (.inr hnr)
        have eK := (g0.block D (Array.getElem?_eq_some_iff.1 hK').1 (by simp; omega)).trans hK'
        have eB : Below w.heap.size Z (w'.setCell ⟨w.heap.size, 0, none⟩ (.int .u16 ((turnL q yv xv : Nat) : Int))) := (Below.drew (Below.refl w.heap.size Z)).trans ((hbw.mono hB'.size).setCell (p := ⟨w.heap.size, 0, none⟩) (Nat.le_refl _) _)
        have ko : KeepsOthers Z (w'.setCell ⟨w.heap.size, 0, none⟩ (.int .u16 ((turnL q yv xv : Nat) : Int))) := (KeepsOthers.drew Z).trans ((KeepsOthers.of_grownBy (only_of_below hbw none) (by simp)).trans (KeepsOthers.setCell _ _ _))
        have kbz : KeepsBytes w.heap.size Z.drew (w'.setCell ⟨w.heap.size, 0, none⟩ (.int .u16 ((turnL q yv xv : Nat) : Int))) := KeepsBytes.of_grown (A := Z.drew) ((hbw.mono hB'.size).setCell (p := ⟨w.heap.size, 0, none⟩) (Nat.le_refl _) _) g0 (by
          intro g hg cs t d ht hcs
          cases hg
          rw [show Z.drew.heap[w.heap.size]? = _ from hb'] at hcs
          rcases ht with rfl | rfl <;> cases hcs)
        have kb : KeepsBytes w.heap.size Z (w'.setCell ⟨w.heap.size, 0, none⟩ (.int .u16 ((turnL q yv xv : Nat) : Int))) := ⟨eB, fun i cs t d ht e => kbz.2 i cs t d ht e⟩
        clear kbz
        have e2c := e2.cell
        have e2f := e2.frozen
        clear y0 y0f hbw z0 z0f z1 z2 z2f hcl g0
        generalize w'.setCell ⟨w.heap.size, 0, none⟩ (.int .u16 ((turnL q yv xv : Nat) : Int)) = Y at *
        gi_wp2
        have f2 := e2.set (.int .i64 ((pre.length : Int) + 1))
        have bl : Below w.heap.size Y (Y.setCell ⟨W.heap.size, 0, none⟩ (.int .i64 ((pre.length : Int) + 1))) := (Below.refl _ Y).setCell (p := ⟨W.heap.size, 0, none⟩) (by simp; omega) _
        exact ⟨(ko.trans (KeepsOthers.setCell _ _ _)).from _, kb.trans (KeepsBytes.of_grown bl (grownBy_setCell' _ _ _) (by
            intro g hg cs t d ht hcs
            cases hg
            rw [show Y.heap[W.heap.size]? = _ from e2] at hcs
            rcases ht with rfl | rfl <;> cases hcs)),
          ⟨_, e1.other (by omega) _, er.kept (grownBy_setCell' _ _ _) (.inr (e2.not_row (by decide) er).symm), rfl⟩, by rw [HT.out]; exact e0.other (by omega) _, by simpa using f2,
          ((grownBy_setCell' Y W.heap.size _).block D (Array.getElem?_eq_some_iff.1 eK).1 (by simp; omega)).trans eK, hB'.trans (eB.trans bl)⟩
    case done2 =>
      rintro D2 zs Z hD2 hS2 ⟨⟨v', hv', hrow', rfl⟩, hb', hi', hK', hB'⟩ hK2
      have hq := turnsL_le (s := s) (by omega) ((xs.map (·.1)).zip (zs.map (·.1)))
      rw [hS, hS2, hL, hL2] at hq hb'
      obtain ⟨q, hqe⟩ : ∃ q, turnsL s ((wordsL (x.data.toList.take n)).zip (wordsL (y.data.toList.take n))) = q := ⟨_, rfl⟩
      rw [hqe] at hq hb'
      have HQ := Lib.hid hqe
      clear hqe
      have hc := hb'.cell
      clear hS hS2 hL hL2 hlx cr c0 c1 c2 c3 c4
      gi_wp2
      have hK3 : (Z.putObj D2 (.deferred none)).heap[D]? = some (.deferred (some [])) := (World.putObj_heap_other (by omega)).trans hK'
      refine ⟨by simp, .inl ⟨_, _, rfl, run_takeDeferred hK2, ?_⟩⟩
      refine ⟨by simp, .inl ⟨_, _, rfl, run_takeDeferred hK3, ?_⟩⟩
      refine ⟨_, results_tmp rfl _ _ _, ?_, ?_⟩
      · exact ret_nat HQ.out.symm
      have hDw : w.heap.size ≤ D := by omega
      have hDw2 : w.heap.size ≤ D2 := by omega
      exact hB'.trans ((belowK_b (w := w) (Nat.le_refl _) Z D2 _ _ hDw2 hK2 rfl rfl).trans (belowK_b (w := w) (Nat.le_refl _) _ D _ _ hDw hK3 rfl rfl))
theorem turns_any (s : Nat) (x y : ByteArray) (hs : s < 65536) (hx : x.size ≤ 1099511627776) (hy : y.size ≤ 1099511627776) (w : World) :
    Calls Try.prog 43 #[.int .u16 (s : Int), .string x, .string y] w fun e w' =>
      e = .returned (.int .u16 ((turnsL s ((wordsL (x.data.toList.take (min x.size y.size))).zip (wordsL (y.data.toList.take (min x.size y.size)))) : Nat) : Int)) ∧ Below w.heap.size w w' :=
  callsIn_wide.1 (turns_in s x y hs hx hy _ rfl w)
end Go.Proofs.Ytcfomapeiaobaaa
