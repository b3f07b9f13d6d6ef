/- slices.Values, AppendSeq, Collect, SortedStableFunc at spans; span.sorted: a new row, the same spans, in order of their beginnings. -/
import Derived.Test.YtnnpahjopfkchaaSpStab
import Derived.RangeFuncNested
import Derived.RangeFuncBound
import Derived.RangeFuncCalls
import Derived.RangeFuncLeaves
import Derived.RangeFuncBox
import Derived.Shelf.Abstract
import Derived.Shelf.RegionOpen
import Derived.OwnWalkIn
import Derived.TacticsInMore
import Derived.LoopNIn
import Derived.LoopIn
import Derived.RegionIn
set_option linter.unusedVariables false
set_option linter.unusedSimpArgs false
namespace Go.Proofs.Ytnnpahjopfkchaa
open Go.RowKit Go.BigFrame Go.Shelf
attribute [local go_sem] Oper.semAt_some

/-- a slice at A has the spans l; it lies below n₀ -/
def SpAt (n₀ : Nat) (W : World) (A : Option Addr) (l : List Sp) : Prop := l = [] ∨ ∃ b off, A = some ⟨b, off, none⟩ ∧ b < n₀ ∧ ∀ j (hj : j < l.length), W.cell? ⟨b, off + j * 2, none⟩ = some (.int .u64 (l[j].1 : Int)) ∧ W.cell? ⟨b, off + j * 2 + 1, none⟩ = some (.int .u64 (l[j].2 : Int))
def spC (x : Sp) : List Value := [.int .u64 (x.1 : Int), .int .u64 (x.2 : Int)]
section
variable {n₀ n₁ : Nat} {W W' : World} {A : Option Addr} {l : List Sp}
theorem SpAt.below (h : SpAt n₀ W A l) (hb : Below n₀ W W') : SpAt n₀ W' A l := h.imp id fun ⟨b, off, e, h1, h2⟩ => ⟨b, off, e, h1, fun j hj => ⟨(hb.cell (p := ⟨b, off + j * 2, none⟩) h1).trans (h2 j hj).1, (hb.cell (p := ⟨b, off + j * 2 + 1, none⟩) h1).trans (h2 j hj).2⟩⟩
theorem SpAt.mono (h : SpAt n₀ W A l) (hn : n₀ ≤ n₁) : SpAt n₁ W A l := h.imp id fun ⟨b, off, e, h1, h2⟩ => ⟨b, off, e, by omega, h2⟩
theorem SpAt.at_ (h : SpAt n₀ W A l) {j : Nat} (hj : j < l.length) : ∃ b off, A = some ⟨b, off, none⟩ ∧ b < n₀ ∧ W.cell? ⟨b, off + j * 2, none⟩ = some (.int .u64 (l[j].1 : Int)) ∧ W.cell? ⟨b, off + j * 2 + 1, none⟩ = some (.int .u64 (l[j].2 : Int)) := by
  rcases h with rfl | ⟨b, off, e, h1, h2⟩
  · simp at hj
  · exact ⟨b, off, e, h1, h2 j hj⟩
end
set_option maxRecDepth 100000 in
set_option maxHeartbeats 4000000 in
theorem vals_in (n₀ Bs : Nat) (A : Option Addr) (cap : Nat) (l : List Sp) (hm : l.length ≤ 1000000) (lp : Nat) (J Jx : List Sp → World → Prop)
    (W : World) (hW : n₀ ≤ W.heap.size) (hJ : AbidesFrom W.heap.size J)
    (hY : ∀ pre x W1, J pre W1 → pre.length < l.length → YieldAt Fence.wide 1 Try.prog lp #[spV x] W1 fun e W' =>
      (e = .returned (.bool true) ∧ J (pre ++ [x]) W' ∧ Below n₀ W1 W') ∨ (e = .returned (.bool false) ∧ Jx (pre ++ [x]) W'))
    (hBs : W.cell? ⟨Bs, 0, none⟩ = some (.slice A l.length cap)) (hI : SpAt n₀ W A l) (h0 : J [] W) :
    CallsIn Fence.wide 2 Try.prog 40 #[.func (.yield lp) #[] #[], .pointer (some ⟨Bs, 0, none⟩)] W fun e W' => (∃ v, e = .returned v) ∧
      ((∃ ys : List Sp, ys = l ∧ J ys W') ∨ (∃ pre, Jx pre W')) := by
  refine callsIn_of_wp Try.func40 rfl trivial ?_ rfl
  simp only [Try.ntmps40, List.size_toArray, List.length_cons, List.length_nil, Nat.reduceAdd, Nat.reduceSub, Array.replicate_succ, Array.replicate_zero, List.push_toArray, List.append_toArray, List.nil_append, List.cons_append]
  have lm : (l.length : Int) ≤ 1000000 := by omega
  gi_wp2
  gi_loopw [7] (fun i wr => ∃ k : Nat, i = .int .i64 k ∧ k ≤ l.length ∧ Hid (J (l.take k) wr ∧ Below n₀ W wr)) (fun i _ => l.length - (intOf i).toNat)
  case atStart => exact ⟨0, rfl, Nat.zero_le _, Lib.hid ⟨h0, Below.refl _ _⟩⟩
  case round =>
    obtain ⟨k, rfl, hk, HI⟩ := hrel
    by_cases h1 : k < l.length
    · have h1z : (k : Int) < (l.length : Int) := by omega
      have k0 : (0 : Int) ≤ (k : Int) := by omega
      obtain ⟨b, off, rfl, hb, r1, r2⟩ := (hI.below HI.out.2).at_ h1
      have hj1 : J (l.take k) (wr.alloc (.cells #[.int .u64 (l[k].1 : Int), .int .u64 (l[k].2 : Int)] 25)) := hJ _ _ _ none HI.out.1 (only_of_below ((Below.refl _ _).alloc (Nat.le_refl _) _) none) (by simp)
      have hB1 : Below n₀ W (wr.alloc (.cells #[.int .u64 (l[k].1 : Int), .int .u64 (l[k].2 : Int)] 25)) := HI.out.2.alloc (by have := HI.out.2.size; omega) _
      have hpl : (l.take k).length < l.length := by rw [List.length_take]; omega
      obtain ⟨fn, tmps, assign, body, hy, hR⟩ := hY (l.take k) l[k] _ hj1 hpl
      have htk : l.take k ++ [l[k]] = l.take (k + 1) := List.take_append_getElem h1
      rw [htk] at hR
      unfold spV at hy
      generalize l[k] = x at *
      have HB1 := Lib.hid hB1
      clear hj1 hB1 htk hpl HI
      gi_wp2
      refine hR.mono ?_
      rintro e W3 (⟨rfl, hJ3, hk3⟩ | ⟨rfl, hJx3⟩)
      · have HK := Lib.hid (And.intro hJ3 (HB1.out.trans hk3))
        clear hy hR hJ3 hk3 r1 r2
        gi_wp2
        go_roundw
        case rel => exact ⟨k + 1, by go_num, h1, HK⟩
        case measure => simp [intOf]; omega
      · clear hy hR r1 r2
        gi_wp2
        first | go_end0 | refine bodyPost_ret (results_none rfl _ _ _) rfl ?_
        exact ⟨⟨_, rfl⟩, .inr ⟨_, hJx3⟩⟩
    · obtain rfl : k = l.length := by omega
      have h1z : ¬ (l.length : Int) < (l.length : Int) := by omega
      have HK := Lib.hid HI.out.1
      clear HI hY
      gi_wp2
      first | go_end0 | refine bodyPost_ret (results_none rfl _ _ _) rfl ?_
      have hk := HK.out
      rw [List.take_length] at hk
      first | exact ⟨⟨_, rfl⟩, .inl ⟨_, rfl, hk⟩⟩ | exact ⟨⟨_, rfl⟩, .inl hk⟩
theorem vals_stops (n₀ Bs : Nat) (A : Option Addr) (cap : Nat) (l : List Sp) (hm : l.length ≤ 1000000) (w : World) (hw : n₀ ≤ w.heap.size) (hB : Bs < w.heap.size) (hBs : w.cell? ⟨Bs, 0, none⟩ = some (.slice A l.length cap)) (hI : SpAt n₀ w A l) :
    SeqStopsK Fence.wide 2 Try.prog 40 #[.pointer (some ⟨Bs, 0, none⟩)] (fun x : Sp => #[spV x]) (Below n₀) (fun ys => ys = l) (fun _ => True) l.length w :=
  fun lp J Jx W hW hJ _ hY h0 => by
    refine (vals_in n₀ Bs A cap l hm lp J Jx W (Nat.le_trans hw hW.size) hJ hY ((hW.cell (p := ⟨Bs, 0, none⟩) hB).trans hBs) (hI.below (hW.mono hw)) h0).mono ?_
    rintro e W' ⟨he, h | ⟨pre, hx⟩⟩
    · exact ⟨he, .inl h⟩
    · exact ⟨he, .inr ⟨pre, trivial, hx⟩⟩
theorem infoSp : (Try.prog.info? 25).map (fun i => (i.zero, i.size, i.bytes)) = some (some (.agg #[.int .u64 0, .int .u64 0]), 2, 16) := by kernel_rfl
theorem infoSp_parts : ∃ i, Try.prog.info? 25 = some i ∧ i.zero = some (.agg #[.int .u64 0, .int .u64 0]) ∧ i.size = 2 ∧ i.bytes = 16 := by
  obtain ⟨i, h, e⟩ := Option.map_eq_some_iff.1 infoSp
  exact ⟨i, h, congrArg Prod.fst e, congrArg (·.2.1) e, congrArg (·.2.2) e⟩
theorem below_put {B : Nat} {W : World} {l : Nat} (h : B ≤ l) (o : Obj) : Below B W (W.putObj l o) :=
  ⟨rfl, rfl, rfl, by simp [World.putObj], fun i hi => World.putObj_heap_other (by omega)⟩
def AxS (B : Nat) (seq : Value) (x : Sp) (a' : Act) (W : World) : Prop := ∃ gx, B < gx ∧ a' = { tmps := #[.slice none 0 0, seq, .pointer (some ⟨B, 0, none⟩), undef, .slice none 0 0, .pointer (some ⟨gx, 0, none⟩), seq, spV x, undef, undef, undef, undef, undef], defers := [] } ∧ Blk W gx 25 #[.int .u64 (x.1 : Int), .int .u64 (x.2 : Int)]
theorem axS_own (B n : Nat) (seq : Value) (x : Sp) (a' : Act) : OwnFrom n (fun (_ : Unit) W => AxS B seq x a' W) := by
  rintro _ W W' row ⟨gx, h0, h1, h2⟩ hg hr
  refine ⟨gx, h0, h1, h2.grown hg fun e => ?_⟩
  obtain ⟨_, o, ho, hc⟩ := hr gx e.symm
  unfold Blk at h2
  rw [h2] at ho
  injection ho with ho
  subst ho
  cases hc
theorem ownsRow_succ2 {W : World} {base : Nat} {e : TypeId} {size n : Nat} {v : Value} {xs : List Value} (h : W.ownsRow base e size v (n + 1) xs) : ∃ g cap, v = .slice (some ⟨g, 0, none⟩) (n + 1) cap := by
  rcases h.2 with ⟨_, h⟩ | ⟨g, cap, _, e, _⟩
  · omega
  · exact ⟨g, cap, e⟩
theorem rows_type2 {W : World} {base : Nat} {e : TypeId} {size k : Nat} {v : Value} {xs : List Value} (h : W.ownsRow base e size v k xs) :
    ∀ (g : Nat), v.ownBlock = some g → ∀ o, W.heap[g]? = some o → o.isWalk = false := by
  intro g hg o ho
  rcases h.2 with ⟨rfl, _⟩ | ⟨g', cap, cur, rfl, _, hgb, _⟩
  · simp [Value.ownBlock] at hg
  · have : g' = g := by simpa [Value.ownBlock] using hg
    subst this
    rw [hgb] at ho
    cases ho; rfl
theorem flat2_len (l : List Sp) : (l.flatMap spC).length = l.length * 2 := by
  induction l with
  | nil => rfl
  | cons x l ih => rw [List.flatMap_cons, List.length_append, ih, List.length_cons]; show 2 + _ = _; omega
set_option maxRecDepth 100000 in
set_option maxHeartbeats 4000000 in
theorem app_in (Bs : Nat) (A : Option Addr) (cap : Nat) (l : List Sp) (hm : l.length ≤ 1000000) (w : World) (hB : Bs < w.heap.size) (hBs : w.cell? ⟨Bs, 0, none⟩ = some (.slice A l.length cap)) (hI : SpAt w.heap.size w A l) :
    CallsIn Fence.wide 3 Try.prog 43 #[.slice none 0 0, .func (.func 40) #[] #[.pointer (some ⟨Bs, 0, none⟩)]] w fun e w' =>
      ∃ (v : Value), e = .returned v ∧ w'.ownsRow w.heap.size 25 2 v l.length (l.flatMap spC) ∧ Below w.heap.size w w' := by
  obtain ⟨i0, hi, hz0, hz1, hz2⟩ := infoSp_parts
  refine callsIn_of_wp_marks Try.func43 rfl trivial ?_ rfl
  simp only [Try.ntmps43, List.size_toArray, List.length_cons, List.length_nil, Nat.reduceAdd, Nat.reduceSub, Array.replicate_succ, Array.replicate_zero, List.push_toArray, List.append_toArray, List.nil_append, List.cons_append]
  gi_wp2
  have b1 := Boxed.new w 22 (.slice none 0 0)
  have hB0 : Below w.heap.size w (w.alloc (.cells #[.slice none 0 0] 22)) := (Below.refl _ w).alloc (Nat.le_refl _) _
  have hsz : (w.alloc (.cells #[.slice none 0 0] 22)).heap.size = w.heap.size + 1 := by simp
  have st := vals_stops w.heap.size Bs A cap l hm (w.alloc (.cells #[.slice none 0 0] 22)) (by omega) (by omega) ((hB0.cell (p := ⟨Bs, 0, none⟩) hB).trans hBs) (hI.below hB0)
  generalize w.alloc (.cells #[.slice none 0 0] 22) = W0 at *
  obtain ⟨seq, hseq⟩ : ∃ seq, seq = Value.func (.func 40) #[] #[.pointer (some ⟨Bs, 0, none⟩)] := ⟨_, rfl⟩
  refine wpIn_rangeFunc_ownH rfl (by omega) (gf := 40) (lb := #[.pointer (some ⟨Bs, 0, none⟩)]) rfl trivial (enters_of Try.func40 (by kernel_rfl) rfl)
    st (fun h k => Below.trans h k) (fun W l o o' hl _ _ _ => below_put (by omega) o') (Below.refl _ _) (fun _ => rfl)
    (fun pre W => (∃ v, Boxed W w.heap.size 22 v ∧ W.ownsRow w.heap.size 25 2 v pre.length (pre.flatMap spC) ∧ True) ∧ Below w.heap.size w W)
    (fun _ _ _ => False)
    (OwnFrom.and (Own.from (holdsRow_own w.heap.size w.heap.size 22 25 2 (fun pre : List Sp => pre.length) (fun pre => pre.flatMap spC) (fun _ _ => True)) _) (ownFrom_below (Nat.le_refl _) (by omega)))
    (fun _ _ _ _ _ hs _ _ => hs)
    ⟨⟨_, b1, World.ownsRow_nil _ _ _ _, trivial⟩, hB0⟩
    (AxS w.heap.size seq) (fun x a' => axS_own _ _ _ _ _) ?assign ?body ?done ?stop
  case assign =>
    intro l pre x W K hI2 hK
    have hle : w.heap.size < W.heap.size := by
      obtain ⟨⟨v, hv, _⟩, _⟩ := hI2
      exact Blk.lt hv
    have hk1 : KeepsFrom W0.heap.size W (W.alloc (.cells #[.int .u64 (x.1 : Int), .int .u64 (x.2 : Int)] 25)) := (KeepsOthers.alloc W _).from _
    have hb1 : Below w.heap.size W (W.alloc (.cells #[.int .u64 (x.1 : Int), .int .u64 (x.2 : Int)] 25)) := (Below.refl _ _).alloc (by omega) _
    have hi1 := OwnFrom.alloc (B := W0.heap.size) (I := fun (pre : List Sp) W => (∃ v, Boxed W w.heap.size 22 v ∧ W.ownsRow w.heap.size 25 2 v pre.length (pre.flatMap spC) ∧ True) ∧ Below w.heap.size w W)
      (OwnFrom.and (Own.from (holdsRow_own w.heap.size w.heap.size 22 25 2 (fun pre : List Sp => pre.length) (fun pre => pre.flatMap spC) (fun _ _ => True)) _) (ownFrom_below (Nat.le_refl _) (by omega))) (.cells #[.int .u64 (x.1 : Int), .int .u64 (x.2 : Int)] 25) hI2
    have hA : ∀ a', a' = ({ tmps := #[.slice none 0 0, seq, .pointer (some ⟨w.heap.size, 0, none⟩), undef, .slice none 0 0, .pointer (some ⟨W.heap.size, 0, none⟩), seq, spV x, undef, undef, undef, undef, undef], defers := [] } : Act) → AxS w.heap.size seq x a' (W.alloc (.cells #[.int .u64 (x.1 : Int), .int .u64 (x.2 : Int)] 25)) := fun a' ha => ⟨W.heap.size, hle, ha, Blk.new _ _ _⟩
    have hK2 := fun a' ha => hK a' _ hk1 hb1 hi1 (hA a' ha)
    have HK2 := Lib.hid hK2
    clear hK hk1 hb1 hi1 hA hK2 hI2
    unfold spV at HK2 ⊢
    rw [hseq] at HK2
    gi_wp2
    exact HK2.out _ rfl
  case stop =>
    rintro D c pre W _ _ h _
    exact h.elim
  case body =>
    rintro l pre x a' W _ _ ⟨⟨v, hv, hrow, _⟩, hB⟩ ⟨gx, hgx0, rfl, hgx⟩ hlt
    have hc := hv.cell
    have hf := hv.frozen
    have hn1 : w.heap.size ≤ W.heap.size := hB.size
    have z0 := hgx.cell 0
    have z1 := hgx.cell 1
    simp only [List.getElem?_toArray, List.getElem?_cons_zero, List.getElem?_cons_succ] at z0 z1
    have hcn : ∀ j u, (spC x)[j]? = some u → (W.alloc (.cells #[.int .u64 (x.1 : Int), .int .u64 (x.2 : Int)] 25)).cell? ((⟨W.heap.size, 0, none⟩ : Addr).add j) = some u := fun j u hu => by
      have : (⟨W.heap.size, 0, none⟩ : Addr).add j = ⟨W.heap.size, j, none⟩ := by unfold Addr.add; split <;> simp_all
      rw [this, (Blk.new W 25 #[.int .u64 (x.1 : Int), .int .u64 (x.2 : Int)]).cell j, ← hu]
      simp [spC]
    have hone : ∀ u ∈ spC x, u.oneCell' = true := by
      intro u hu
      simp only [spC, List.mem_cons, List.not_mem_nil, or_false] at hu
      rcases hu with rfl | rfl <;> rfl
    have HS := Lib.hid hsz
    clear hsz
    gi_wp2_with (gi_at_builtin; refine wpListIn_append_own _ rfl _ _ 22 rfl w.heap.size 25 i0 _ 2 16 Try.underlying22 hi hz0 hz1 hz2 rfl (by decide) _ _ _ rfl (hrow.alloc _) ⟨W.heap.size, 0, none⟩ 1 1 (spC x) rfl rfl hcn hone (by simp only [maxLen]; omega) (by omega) (by simp; omega) ?_; intro v' w1 hown' hgrow _; obtain ⟨g', cap', rfl⟩ := ownsRow_succ2 hown'; obtain ⟨hv1, hv2, hr2, hk2, hb2⟩ := hv.appended (by decide) hrow hn1 (Nat.le_refl _) hown' hgrow; have hc1 := hv1.cell; have hf1 := hv1.frozen)
    exact ⟨hk2.from _, hb2, ⟨⟨_, hv2, by simpa using hr2, trivial⟩, hB.trans hb2⟩⟩
  case done =>
    rintro D xs W hD rfl ⟨⟨v, hv, hrow, _⟩, hB⟩ hK
    have hc := hv.cell
    clear hsz
    gi_wp2
    refine ⟨by simp, .inl ⟨_, _, rfl, run_takeDeferred hK, ?_⟩⟩
    refine ⟨_, results_tmp rfl _ _ _, v, rfl, ownsRow_putObj hrow _ hK rfl, ?_⟩
    exact hB.trans (belowK_b (w := w) (Nat.le_refl _) W D _ _ (by have := hB0.size; omega) hK rfl rfl)
end Go.Proofs.Ytnnpahjopfkchaa
