/- slices.AppendSeq, Collect, Sorted over maps.Keys of a map with keys uint64. -/
import Derived.Test.YtlikngepcbmhdaaSqKeys
set_option linter.unusedVariables false
set_option linter.unusedSimpArgs false
namespace Go.Proofs.Ytlikngepcbmhdaa.S64
open Go.RowKit Go.Shelf Go.Maps
attribute [local go_sem] Oper.semAt_some

theorem infoK : (Try.prog.info? 26).map (fun i => (i.zero, i.size, i.bytes)) = some (some (.int .u64 0), 1, 8) := by kernel_rfl
theorem rows_type {W : World} {base : Nat} {e : TypeId} {size k : Nat} {v : Value} {xs : List Value} (h : W.ownsRow base e size v k xs) :
    ∀ (g : Nat), v.ownBlock = some g → ∀ o, W.heap[g]? = some o → o.isWalk = false := by
  intro g hg o ho
  rcases h.2 with ⟨rfl, _⟩ | ⟨g', cap, cur, rfl, _, hgb, _⟩
  · simp [Value.ownBlock] at hg
  · have : g' = g := by simpa [Value.ownBlock] using hg
    subst this
    rw [hgb] at ho
    cases ho; rfl
theorem rows_base {W : World} {base : Nat} {e : TypeId} {size k : Nat} {v : Value} {xs : List Value} (h : W.ownsRow base e size v k xs) : ∀ (g : Nat), v.ownBlock = some g → base ≤ g := by
  intro g hg
  rcases h.2 with ⟨rfl, _⟩ | ⟨g', cap, cur, rfl, hb, hgb, _⟩
  · simp [Value.ownBlock] at hg
  · have : g' = g := by simpa [Value.ownBlock] using hg
    omega
set_option maxRecDepth 100000 in
set_option maxHeartbeats 4000000 in
theorem app_in (Bm b n : Nat) (M : Lit → Option Value) (w : World) (hBm : Bm < w.heap.size) (hm : w.cell? ⟨Bm, 0, none⟩ = some (.map (some b))) (hM : MapIs Try.prog 26 w b n M) (hn : n ≤ 1000000) :
    CallsIn Fence.wide 3 Try.prog 38 #[.slice none 0 0, .func (.func 37) #[] #[.pointer (some ⟨Bm, 0, none⟩)]] w fun e w' =>
      ∃ (v : Value) (ss : List Int), e = .returned v ∧ KeysAre M n ss ∧ w'.ownsRow w.heap.size 26 1 v n (ss.map keyV) ∧ Below w.heap.size w w' := by
  obtain ⟨i0, hi, hz0, hz1, hz2⟩ := info_parts infoK
  refine callsIn_of_wp_marks Try.func38 rfl trivial ?_ rfl
  simp only [Try.ntmps38, List.size_toArray, List.length_cons, List.length_nil, Nat.reduceAdd, Nat.reduceSub, Array.replicate_succ, Array.replicate_zero, List.push_toArray, List.append_toArray, List.nil_append, List.cons_append]
  gi_wp2
  have b1 := Boxed.new w 52 (.slice none 0 0)
  have hB0 : Below w.heap.size w (w.alloc (.cells #[.slice none 0 0] 52)) := (Below.refl _ w).alloc (Nat.le_refl _) _
  have hsz : (w.alloc (.cells #[.slice none 0 0] 52)).heap.size = w.heap.size + 1 := by simp
  have st := keys_stops Bm b n M (w.alloc (.cells #[.slice none 0 0] 52)) (by omega) ((hB0.cell (p := ⟨Bm, 0, none⟩) hBm).trans hm) (hM.alloc _)
  generalize w.alloc (.cells #[.slice none 0 0] 52) = W0 at *
  refine wpIn_rangeFunc_ownG rfl (by omega) (gf := 37) (lb := #[.pointer (some ⟨Bm, 0, none⟩)]) rfl trivial (enters_of Try.func37 (by kernel_rfl) rfl)
    st KeepsWalks.trans (fun W l o o' _ ho _ hw => KeepsWalks.putObj o' ho hw) (Below.refl _ _) (fun _ => rfl)
    (fun pre W => (∃ v, Boxed W w.heap.size 52 v ∧ W.ownsRow w.heap.size 26 1 v pre.length (pre.map keyV) ∧ True) ∧ Below w.heap.size w W)
    (fun _ _ _ => False)
    (OwnFrom.and (Own.from (holdsRow_own w.heap.size w.heap.size 52 26 1 (fun pre : List Int => pre.length) (fun pre => pre.map keyV) (fun _ _ => True)) _) (ownFrom_below (Nat.le_refl _) (by omega)))
    (fun _ _ _ _ _ hs _ _ => hs)
    ⟨⟨_, b1, World.ownsRow_nil _ _ _ _, trivial⟩, hB0⟩
    (fun x => { tmps := #[.slice none 0 0, .func (.func 37) #[] #[.pointer (some ⟨Bm, 0, none⟩)], .pointer (some ⟨w.heap.size, 0, none⟩), undef, .slice none 0 0, keyV x, .func (.func 37) #[] #[.pointer (some ⟨Bm, 0, none⟩)], keyV x, undef, undef, undef, undef, undef], defers := [] }) ?assign ?body ?done ?stop
  case assign =>
    intro l x W K hK
    gi_wp2
    exact hK
  case stop =>
    rintro D c pre W _ _ h _
    exact h.elim
  case body =>
    rintro l pre x W ⟨⟨v, hv, hrow, _⟩, hB⟩ hlt
    have hc := hv.cell
    have hf := hv.frozen
    have hn1 : w.heap.size ≤ W.heap.size := hB.size
    have HS := Lib.hid hsz
    clear hsz
    gi_wp2_with (gi_at_builtin; refine wpListIn_append_own _ rfl _ _ 52 rfl w.heap.size 26 i0 (.int .u64 0) 1 8 Try.underlying52 hi hz0 hz1 hz2 rfl (by decide) _ _ _ rfl (hrow.alloc _) ⟨W.heap.size, 0, none⟩ 1 1 [keyV x] rfl rfl (cell_one_new _ _ _) (by simp [Value.oneCell', keyV]) (by simp only [maxLen]; omega) (by omega) (by simp; omega) ?_; intro v' w1 hown' hgrow _; obtain ⟨g', cap', rfl⟩ := ownsRow_succ hown'; obtain ⟨hv1, hv2, hr2, hk2, hb2⟩ := hv.appended (by decide) hrow hn1 (Nat.le_refl _) hown' hgrow; have hc1 := hv1.cell; have hf1 := hv1.frozen)
    have hgrow2 : (W.alloc (.cells #[keyV x] 26)).grownBy w1 v.ownBlock := hgrow
    have hkw : KeepsWalks W (w1.setCell ⟨w.heap.size, 0, none⟩ (.slice (some ⟨g', 0, none⟩) (pre.length + 1) cap')) :=
      ((KeepsWalks.alloc _ _).trans (KeepsWalks.of_grownBy hgrow2 (fun j o ej ho => rows_type (hrow.alloc _) j (by first | exact ej | exact ej.symm) o ho))).trans (KeepsWalks.setCell _ _ _)
    exact ⟨hk2.from _, hkw, ⟨⟨_, hv2, by simpa using hr2, trivial⟩, hB.trans hb2⟩⟩
  case done =>
    rintro D xs W hD hS ⟨⟨v, hv, hrow, _⟩, hB⟩ hK
    have hc := hv.cell
    have hlen := hS.2.1
    rw [hlen] at hrow
    clear hsz hlen
    gi_wp2
    refine ⟨by simp, .inl ⟨_, _, rfl, run_takeDeferred hK, ?_⟩⟩
    refine ⟨_, results_tmp rfl _ _ _, v, xs, rfl, hS, ownsRow_putObj hrow _ hK rfl, ?_⟩
    exact hB.trans (belowK_b (w := w) (Nat.le_refl _) W D _ _ (by have := hB0.size; omega) hK rfl rfl)
theorem app_any (Bm b n : Nat) (M : Lit → Option Value) (w : World) (hBm : Bm < w.heap.size) (hm : w.cell? ⟨Bm, 0, none⟩ = some (.map (some b))) (hM : MapIs Try.prog 26 w b n M) (hn : n ≤ 1000000) :
    Calls Try.prog 38 #[.slice none 0 0, .func (.func 37) #[] #[.pointer (some ⟨Bm, 0, none⟩)]] w fun e w' =>
      ∃ (v : Value) (ss : List Int), e = .returned v ∧ KeysAre M n ss ∧ w'.ownsRow w.heap.size 26 1 v n (ss.map keyV) ∧ Below w.heap.size w w' := callsIn_wide.1 (app_in Bm b n M w hBm hm hM hn)
theorem keys_any (mb : Option Nat) (w : World) :
    Calls Try.prog 33 #[.map mb] w fun e w' => e = .returned (.func (.func 37) #[] #[.pointer (some ⟨w.heap.size, 0, none⟩)]) ∧ w' = w.alloc (.cells #[.map mb] 64) := callsIn_wide.1 (keys_in mb 0 w)
theorem coll_any (Bm b n : Nat) (M : Lit → Option Value) (w : World) (hBm : Bm < w.heap.size) (hm : w.cell? ⟨Bm, 0, none⟩ = some (.map (some b))) (hM : MapIs Try.prog 26 w b n M) (hn : n ≤ 1000000) :
    Calls Try.prog 35 #[.func (.func 37) #[] #[.pointer (some ⟨Bm, 0, none⟩)]] w fun e w' =>
      ∃ (v : Value) (ss : List Int), e = .returned v ∧ KeysAre M n ss ∧ w'.ownsRow w.heap.size 26 1 v n (ss.map keyV) ∧ Below w.heap.size w w' := by
  have c1 := app_any Bm b n M w hBm hm hM hn
  go_enter Try.func35, Try.ntmps35
  go_wp2_with (go_at_call 38; with_reducible refine c1.mono ?_; rintro e w1 ⟨v, ss, rfl, h1⟩)
  go_ret
  exact ⟨v, ss, rfl, h1⟩
theorem RowK.of_row {W : World} {g n : Nat} {cur : Array Value} {ss : List Int} (hb : W.heap[g]? = some (.cells cur 26 (0, 0))) (hl : ss.length = n) (ht : cur.toList.take n = ss.map keyV) : RowK W g 0 ss.toArray := by
  subst hl
  have hlen := congrArg List.length ht
  rw [List.length_take, List.length_map] at hlen
  refine ⟨cur, hb, by simp at hlen ⊢; omega, fun j hj => ?_⟩
  have hj' : j < ss.length := by simpa using hj
  have h1 : (cur.toList.take ss.length)[j]? = (ss.map keyV)[j]? := by rw [ht]
  rw [List.getElem?_take_of_lt hj'] at h1
  rw [Nat.zero_add, ← Array.getElem?_toList, h1]
  simp [hj']
/-- what slices.Sorted(maps.Keys(m)) hands back: the keys, in order -/
def SortedIs (w w' : World) (n : Nat) (ss : List Int) (v : Value) : Prop := ∃ (A : Option Addr) (cap : Nat), v = .slice A n cap ∧ ((A = none ∧ n = 0) ∨ ∃ g, A = some ⟨g, 0, none⟩ ∧ w.heap.size ≤ g ∧ RowK w' g 0 (ordered ss).toArray)
set_option maxHeartbeats 1000000 in
theorem sorted_any (Bm b n : Nat) (M : Lit → Option Value) (w : World) (hBm : Bm < w.heap.size) (hm : w.cell? ⟨Bm, 0, none⟩ = some (.map (some b))) (hM : MapIs Try.prog 26 w b n M) (hn : n ≤ 1000000) :
    Calls Try.prog 32 #[.func (.func 37) #[] #[.pointer (some ⟨Bm, 0, none⟩)]] w fun e w' =>
      ∃ (v : Value) (ss : List Int), e = .returned v ∧ KeysAre M n ss ∧ SortedIs w w' n ss v ∧ Below w.heap.size w w' := by
  have c1 := coll_any Bm b n M w hBm hm hM hn
  have HW : Hid (Bm < w.heap.size) := Lib.hid hBm
  clear hBm hm hM
  go_enter Try.func32, Try.ntmps32
  go_wp2_with (go_at_call 35; with_reducible refine c1.mono ?_; rintro e w1 ⟨v, ss, rfl, hS, hrow, hB⟩)
  clear c1
  rcases hrow.2 with ⟨rfl, hz⟩ | ⟨gb, cap, cur, rfl, hbase, hgb, r1, r2, r3, r4⟩
  · subst hz
    go_wp2_with (go_at_call 36; refine (sort_nil none 0 w1).mono ?_; rintro e w' ⟨rfl, rfl⟩)
    go_ret
    exact ⟨.slice none 0 0, ss, rfl, hS, ⟨none, 0, rfl, .inl ⟨rfl, rfl⟩⟩, hB⟩
  · have hR := RowK.of_row hgb hS.2.1 (by simpa using r4)
    have cS := sort_any gb 0 cap ss w1 hR (by rw [hS.2.1]; exact hn)
    rw [hS.2.1] at cS
    clear hrow hgb r1 r2 r3 r4 hR
    have HS := Lib.hid hS
    clear hS
    have HB := Lib.hid hB
    clear hB
    go_wp2_with (go_at_call 36; refine cS.mono ?_; rintro e w' ⟨rfl, hR2, hG⟩)
    go_ret
    exact ⟨_, ss, rfl, HS.out, ⟨_, _, rfl, .inr ⟨gb, rfl, hbase, hR2⟩⟩, HB.out.grown hG HB.out.size (fun j hj => by cases hj; exact hbase)⟩
end Go.Proofs.Ytlikngepcbmhdaa.S64
