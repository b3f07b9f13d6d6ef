/- maps.Keys over a map with keys uint64: its iterator's contract; slices.AppendSeq, Collect, Sorted of it. -/
import Derived.Test.YtlikngepcbmhdaaSqAll
import Derived.Test.YtlikngepcbmhdaaMap
import Derived.Sort.MapsRangeIn
import Derived.Sort.KeysCollected
import Derived.RangeFuncNested
import Derived.RangeFuncBound
import Derived.RangeFuncCalls
import Derived.RangeFuncLeaves
import Derived.RangeFuncBox
import Derived.Shelf.Abstract
import Derived.Shelf.RegionOpen
import Derived.OwnWalkIn
import Derived.TacticsInMore
import Derived.LoopNIn
import Derived.LoopIn
import Derived.RegionIn
set_option linter.unusedVariables false
set_option linter.unusedSimpArgs false
namespace Go.Proofs.Ytlikngepcbmhdaa.S64
open Go.RowKit Go.Shelf Go.Maps

/-- a key -/
abbrev keyV (x : Int) : Value := .int .u64 x
/-- the numbers that are keys -/
def isKey (x : Int) : Prop := (Lit.int .u64 x).wf = true
/-- the loop's word: no key twice; a key is on the list where the map has it and it is no longer to come -/
def Got (D0 : DataW Value) (left : Lit → Bool) (ss : List Int) : Prop := ss.Nodup ∧ ∀ x, x ∈ ss ↔ (has D0 (.int .u64 x) = true ∧ left (.int .u64 x) = false)
section
variable {D0 : DataW Value} {left : Lit → Bool} {ss : List Int}
theorem Got.start (D0 : DataW Value) : Got D0 (has D0) [] := ⟨List.nodup_nil, fun x => by cases has D0 (.int .u64 x) <;> simp⟩
theorem Got.step (h : Got D0 left ss) {x : Int} {y : DataW Value} (hlk : left (.int .u64 x) = true) (hat : ∀ zd, D0.atKey (.int .u64 x) zd = y) : Got D0 (fun z => left z && !z.sameKey (.int .u64 x)) (ss ++ [x]) := by
  have hhas : has D0 (.int .u64 x) = true := has_true_of_atKey hat
  have hnew : x ∉ ss := fun hx => by have := ((h.2 x).1 hx).2; rw [hlk] at this; cases this
  refine ⟨List.nodup_append.2 ⟨h.1, by simp, fun a ha b hb => by simp at hb; subst hb; exact fun e => hnew (e ▸ ha)⟩, fun y => ?_⟩
  by_cases hy : y = x
  · subst hy; simp [hhas, Lit.sameKey]
  · simp [h.2 y, hy, Lit.sameKey]
end
/-- ss: the keys of M, n of them -/
def KeysAre (M : Lit → Option Value) (n : Nat) (ss : List Int) : Prop := ss.Nodup ∧ ss.length = n ∧ (∀ x ∈ ss, isKey x) ∧ ∀ x, isKey x → (x ∈ ss ↔ (M (.int .u64 x)).isSome = true)
theorem Got.keys {P : Program} {k : TypeId} {w : World} {b n : Nat} {D0 : DataW Value} {left : Lit → Bool} {ss : List Int} {M : Lit → Option Value} (h : Got D0 left ss) (hk : P.underlying k = some (.int .u64))
    (hown : w.ownsMap P k asHeld b n D0) (hn : Maps.size D0 = n) (hM : ∀ kl, WideAt.IsKeyLit kl → ((M kl = none ∧ Maps.has D0 kl = false) ∨ ∃ v, M kl = some v ∧ Maps.has D0 kl = true ∧ ∀ z, D0.atKey kl z = .held v)) (hl : ∀ kl, left kl = false) : KeysAre M n ss := by
  have K : Keyed P k := int_keyed hk
  obtain ⟨es, hD, hpw, hlit⟩ := hown.entries K
  obtain ⟨es', hD', hko⟩ := hown.keysOf
  obtain rfl : es = es' := by rw [hD] at hD'; simpa using hD'
  have hint : ∀ p ∈ es, ∃ x, p.1 = .int .u64 x ∧ isKey x := fun p hp => by
    obtain ⟨v, hv⟩ := hko p hp
    obtain ⟨x, _, hx, hw⟩ := Maps.keyOf_int_inv hk hv
    exact ⟨x, hx, hw⟩
  have hmem : ∀ x, x ∈ ss ↔ ∃ p ∈ es, p.1 = .int .u64 x := fun x => by
    rw [h.2 x, hl, hD, has_eq, List.any_eq_true]
    constructor
    · rintro ⟨⟨p, hp, hs⟩, _⟩
      obtain ⟨a, ha, _⟩ := hint p hp
      refine ⟨p, hp, ?_⟩
      rw [ha] at hs ⊢
      have : a = x := by simpa [Lit.sameKey] using hs
      rw [this]
    · rintro ⟨p, hp, e⟩
      exact ⟨⟨p, hp, by rw [e]; simp [Lit.sameKey]⟩, rfl⟩
  have hperm : (ss.map fun x => Lit.int .u64 x).Perm (es.map fun p => p.1) := by
    refine (List.perm_ext_iff_of_nodup ?_ ?_).2 fun l => ?_
    · exact List.pairwise_map.2 (h.1.imp fun hne e => hne (by simpa using e))
    · exact List.pairwise_map.2 hpw
    · rw [List.mem_map, List.mem_map]
      constructor
      · rintro ⟨x, hx, rfl⟩
        obtain ⟨p, hp, e⟩ := (hmem x).1 hx
        exact ⟨p, hp, e⟩
      · rintro ⟨p, hp, rfl⟩
        obtain ⟨x, hx, _⟩ := hint p hp
        exact ⟨x, (hmem x).2 ⟨p, hp, hx⟩, hx.symm⟩
  refine ⟨h.1, ?_, fun x hx => ?_, fun x hx => ?_⟩
  · have := hperm.length_eq
    rw [List.length_map, List.length_map] at this
    rw [this, ← hn, hD]; rfl
  · obtain ⟨p, hp, e⟩ := (hmem x).1 hx
    obtain ⟨y, hy, hw⟩ := hint p hp
    rw [e] at hy
    have : x = y := by simpa using hy
    rw [this]; exact hw
  · have hkey : keyOf P k (.int .u64 x) = some (.int .u64 x) := by
      have hx' : (Lit.int .u64 x).wf = true := hx
      simp [keyOf, hk, mapKey, hx']
    rcases hM (.int .u64 x) (K.key hkey) with ⟨e1, e2⟩ | ⟨u, e1, e2, _⟩
    · rw [h.2 x, e1, e2]; simp
    · rw [h.2 x, e1, e2, hl]; simp
set_option maxRecDepth 100000 in
set_option maxHeartbeats 1000000 in
theorem keys1_in (l Bm b n : Nat) (M : Lit → Option Value) (J Jx : List Int → World → Prop) (W : World) (hJ : AbidesFrom W.heap.size J)
    (hY : ∀ pre x W1, J pre W1 → pre.length < n → YieldAt Fence.wide 1 Try.prog l #[keyV x] W1 fun e W' =>
      (e = .returned (.bool true) ∧ J (pre ++ [x]) W' ∧ KeepsWalks W1 W') ∨ (e = .returned (.bool false) ∧ Jx (pre ++ [x]) W'))
    (hm : W.cell? ⟨Bm, 0, none⟩ = some (.map (some b))) (hM : MapIs Try.prog 26 W b n M) (h0 : J [] W) :
    CallsIn Fence.wide 2 Try.prog 37 #[.func (.yield l) #[] #[], .pointer (some ⟨Bm, 0, none⟩)] W fun e W' => (∃ v, e = .returned v) ∧ ((∃ ss, KeysAre M n ss ∧ J ss W') ∨ (∃ pre, Jx pre W')) := by
  obtain ⟨D0, hown, hsz, hmm⟩ := hM
  have HM := Lib.hid (And.intro hsz hmm)
  clear hmm
  have K : Keyed Try.prog 26 := int_keyed Try.underlying26
  refine callsIn_of_wp Try.func37 rfl trivial ?_ rfl
  simp only [Try.ntmps37, List.size_toArray, List.length_cons, List.length_nil, Nat.reduceAdd, Nat.reduceSub, Array.replicate_succ, Array.replicate_zero, List.push_toArray, List.append_toArray, List.nil_append, List.cons_append]
  gi_wp2_with (gi_at_range; refine wpListIn_range_own _ rfl _ 64 rfl 26 68 K Try.underlying64 _ b n _ rfl hown ?_; intro w0 hrg0 hg0 hs0)
  go_frame
  gi_loopw [3] (fun _ wr => ∃ (left : Lit → Bool) (cnt : Nat) (ss : List Int), wr.ranges Try.prog 26 asHeld b W.heap.size n D0 left cnt ∧ ss.length + cnt ≤ Maps.size D0 ∧ Got D0 left ss ∧ J ss wr)
    (fun _ wr => wr.rangeLeft b W.heap.size)
  case atStart =>
    exact ⟨_, _, [], hrg0, by simp, Got.start D0, hJ [] W w0 none h0 hg0 (fun r e => by cases e)⟩
  case round =>
    obtain ⟨left, cnt, ss, hrg, hcs, hC, hJs⟩ := hrel
    have HN := Lib.hid hcs
    clear hcs hsz
    gi_wp2_with (gi_at_next; refine wpListIn_next_ranges _ rfl _ rfl 26 K asHeld keyV id (fun key kl hk => by obtain ⟨x, hx, _⟩ := Maps.keyOf_int_inv Try.underlying26 hk; exact ⟨x, hx⟩) (fun v _ _ => ⟨v, rfl⟩) b W.heap.size n _ _ _ rfl hrg ?_ ?_)
    · intro hc0 hl0
      gi_wp2
      go_end0
      exact ⟨⟨_, rfl⟩, .inl ⟨ss, hC.keys Try.underlying26 hown HM.out.1 HM.out.2 hl0, hJs⟩⟩
    · intro x c kl yd yp w2 cnt2 hkey hlk hv hat hrg2 hlt hg2 hs2 hen
      obtain ⟨x', ex, rfl, _⟩ := Maps.keyOf_int_inv Try.underlying26 hkey
      obtain rfl : x = x' := by simpa using ex
      have hJ2 : J ss w2 := hJ ss wr w2 (some W.heap.size) hJs hg2 (fun r e => by cases e; exact ⟨Nat.le_refl _, hrg.iter_walk⟩)
      obtain ⟨fn, tmps, assign, body, hy, hR⟩ := hY ss x w2 hJ2 (by have := HN.out; have := HM.out.1; omega)
      clear hs2
      gi_wp2
      refine hR.mono ?_
      have hC2 := hC.step hlk hat
      rintro e W3 (⟨rfl, hJ3, hk3⟩ | ⟨rfl, hJx3⟩)
      · gi_wp2
        have hrg3 := hrg2.of_walks hk3
        go_roundw
        case rel => exact ⟨_, cnt2, ss ++ [x], hrg3, by have := HN.out; simp; omega, hC2, hJ3⟩
        case measure => rw [hrg3.left_eq, hrg.left_eq]; exact hlt
      · gi_wp2
        refine bodyPost_ret (results_none rfl _ _ _) rfl ?_
        exact ⟨⟨_, rfl⟩, .inr ⟨ss ++ [x], hJx3⟩⟩
/-- maps.Keys(m) hands back a value that 'SeqStopsK' -/
theorem keys_stops (Bm b n : Nat) (M : Lit → Option Value) (w : World) (hBm : Bm < w.heap.size) (hm : w.cell? ⟨Bm, 0, none⟩ = some (.map (some b))) (hM : MapIs Try.prog 26 w b n M) :
    SeqStopsK Fence.wide 2 Try.prog 37 #[.pointer (some ⟨Bm, 0, none⟩)] (fun x : Int => #[keyV x]) KeepsWalks (KeysAre M n) (fun _ => True) n w :=
  fun l J Jx W hW hJ _ hY h0 => by
    refine (keys1_in l Bm b n M J Jx W hJ hY ((hW.cell (p := ⟨Bm, 0, none⟩) hBm).trans hm) (hM.below hW hM.lt) h0).mono ?_
    rintro e W' ⟨he, h | ⟨pre, hx⟩⟩
    · exact ⟨he, .inl h⟩
    · exact ⟨he, .inr ⟨pre, trivial, hx⟩⟩
set_option maxHeartbeats 1000000 in
theorem keys_in (mb : Option Nat) (n : Nat) (w : World) :
    CallsIn Fence.wide n Try.prog 33 #[.map mb] w fun e w' => e = .returned (.func (.func 37) #[] #[.pointer (some ⟨w.heap.size, 0, none⟩)]) ∧ w' = w.alloc (.cells #[.map mb] 64) := by
  refine callsIn_of_wp Try.func33 rfl trivial ?_ rfl
  simp only [Try.ntmps33, List.size_toArray, List.length_cons, List.length_nil, Nat.reduceAdd, Nat.reduceSub, Array.replicate_succ, Array.replicate_zero, List.push_toArray, List.append_toArray, List.nil_append, List.cons_append]
  gi_wp2
  go_ret
  exact ⟨rfl, rfl⟩
end Go.Proofs.Ytlikngepcbmhdaa.S64
