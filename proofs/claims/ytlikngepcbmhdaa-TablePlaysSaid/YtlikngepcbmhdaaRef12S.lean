/- Layer 12's reference: Set, Bind. -/
import Derived.Test.YtlikngepcbmhdaaRef12P
set_option linter.unusedVariables false
set_option linter.unusedSimpArgs false
namespace Go.Proofs.Ytlikngepcbmhdaa
open Go.ChangeShapes Go.WideShapes Go.ChangeAt Go.RowKit Go.Maps

theorem blk_setCells {g : Nat} {t : TypeId} : ∀ (vs : List Value) (o : Nat) (w : World) (cs : Array Value), Blk w g t cs → o + vs.length ≤ cs.size →
    ∃ cs' : Array Value, Blk (w.setCells g o vs) g t cs' ∧ cs'.size = cs.size ∧ ∀ i, cs'[i]? = if o ≤ i ∧ i < o + vs.length then vs[i - o]? else cs[i]?
  | [], o, w, cs, h, _ => ⟨cs, h, rfl, fun i => by rw [if_neg (by simp)]⟩
  | v :: vs, o, w, cs, h, hl => by
    simp only [List.length_cons] at hl
    obtain ⟨cs', h1, h2, h3⟩ := blk_setCells vs (o + 1) (w.setCell ⟨g, o, none⟩ v) (cs.setIfInBounds o v) (h.set_ o v) (by simp; omega)
    refine ⟨cs', h1, by rw [h2]; simp, fun i => ?_⟩
    rw [h3 i]
    by_cases hi : i = o
    · subst hi
      rw [if_neg (by omega), if_pos (by simp)]
      simp only [Nat.sub_self, List.getElem?_cons_zero]
      rw [Array.getElem?_setIfInBounds_self_of_lt (by omega)]
    · by_cases h4 : o + 1 ≤ i ∧ i < o + 1 + vs.length
      · rw [if_pos h4, if_pos (by simp; omega), show i - o = (i - (o + 1)) + 1 by omega]
        simp
      · rw [if_neg h4, if_neg (by simp; omega)]
        exact Array.getElem?_setIfInBounds_ne (Ne.symm hi)
theorem setCells_grown {g : Nat} : ∀ (vs : List Value) (o : Nat) (w W : World), w.grownBy W (some g) → w.grownBy (W.setCells g o vs) (some g)
  | [], _, _, _, h => h
  | v :: vs, o, w, W, h => setCells_grown vs (o + 1) w _ (only_set h o v)
section
variable {base b most last c : Nat} {w : World} {l a r : List PE} {x x' : PE} {A : Option Addr} {p : Pr}
theorem RefAt.swap (h : RefAt base w b most last (a ++ x :: r) A c) {g : Nat} (hA : A = some ⟨g, 0, none⟩) : RefAt base (w.setCells g (a.length * 11) (peC x')) b most last (a ++ x' :: r) A c := by
  subst hA
  have hne := h.ne (g := g) rfl
  have hlen : (a ++ x' :: r).length = (a ++ x :: r).length := by simp
  have hg := setCells_grown (g := g) (peC x') (a.length * 11) w w (World.grownBy.refl _ _)
  refine ⟨?_, ?_⟩
  · rw [hlen]
    exact h.blk.grown hg (fun e => hne (Option.some.inj e).symm)
  · rw [hlen]
    rcases h.row.2 with ⟨e, _⟩ | ⟨g', cap, cur, e, q1, q2, q3, q4, q5, q6⟩
    · cases e
    · have hgg : g = g' ∧ c = cap := by injection e with e1 _ e2; injection e1 with e1; injection e1 with e1; exact ⟨e1, e2⟩
      obtain ⟨rfl, rfl⟩ := hgg
      have hsz : a.length * 11 + 11 ≤ cur.size := by
        have : (a ++ x :: r).length = a.length + (r.length + 1) := by simp
        rw [this] at q3
        omega
      obtain ⟨cs', k1, k2, k3⟩ := blk_setCells (peC x') (a.length * 11) w cur q2 hsz
      refine ⟨by rw [peflat_len]; simp, .inr ⟨g, c, cs', rfl, q1, k1, q3, q4, by rw [k2, q5], ?_⟩⟩
      apply List.ext_getElem?
      intro i
      rw [List.getElem?_take]
      by_cases hi : i < (a ++ x :: r).length * 11
      · rw [if_pos hi, Array.getElem?_toList, k3 i]
        obtain ⟨j, m, hm, rfl⟩ : ∃ j m, m < 11 ∧ i = j * 11 + m := ⟨i / 11, i % 11, Nat.mod_lt _ (by omega), by omega⟩
        have hj : j < (a ++ x :: r).length := by omega
        rw [peflat_get _ j m (by omega) hm, peC_len]
        by_cases h1 : j = a.length
        · subst h1
          rw [if_pos (by omega)]
          simp
        · rw [if_neg (by omega)]
          have e2 := peflat_get (a ++ x :: r) j m hj hm
          rw [← q6, List.getElem?_take_of_lt (by omega), Array.getElem?_toList] at e2
          rw [e2]
          by_cases h2 : j < a.length
          · simp [List.getElem_append_left h2]
          · rw [List.getElem_append_right (by omega), List.getElem_append_right (by omega)]
            obtain ⟨q, hq⟩ : ∃ q, j - a.length = q + 1 := ⟨j - a.length - 1, by omega⟩
            simp only [hq, List.getElem_cons_succ]
      · rw [if_neg hi, List.getElem?_eq_none (by rw [peflat_len]; simp at hi ⊢; omega)]
end
/-- behind a call that changes an entry of the reference's table -/
def RPostS (base b most last : Nat) (l : List PE) (A : Option Addr) (c : Nat) (w : World) (v : Value) (e : Ending) (w' : World) : Prop :=
  e = .returned v ∧ RefAt base w' b most last l A c ∧ Out (ROwn b A) w w'
section
variable {base b most last c : Nat} {w : World} {l a r : List PE} {x x' : PE} {A : Option Addr} {p : Pr}
theorem entI : (Try.prog.info? 55).map (·.size) = some 11 := by kernel_rfl
theorem entU : (Try.prog.underlying 55).map TypeDesc.isRow = some true := by kernel_rfl
/-- At, where the entry is there -/
theorem rat_some (h : RefAt base w b most last (a ++ x :: r) A c) (hm : (a ++ x :: r).length ≤ 1000000) (hs : (a ++ x :: r).Pairwise (fun a b => a.id < b.id)) :
    Calls Try.prog 24 #[.pointer (some ⟨b, 0, none⟩), .int .u64 (x.id : Int)] w fun e w' => e = .returned (.int .i64 (a.length : Int)) ∧ w = w' := by
  obtain ⟨q1, q2⟩ := split_ids hs
  refine (rat_any h hm x.id a.length (by simp) ?_ (fun _ => by simp)).mono ?_
  · intro j hj hja
    have : (a ++ x :: r)[j] = a[j] := List.getElem_append_left hja
    rw [this]
    have := q1 a[j] (List.getElem_mem hja)
    omega
  · rintro e w' ⟨rfl, rfl⟩
    rw [if_pos (by simp)]
    exact ⟨rfl, rfl⟩
theorem rat_none {id : Nat} (h : RefAt base w b most last l A c) (hm : l.length ≤ 1000000) (hn : ∀ x ∈ l, x.id ≠ id) :
    Calls Try.prog 24 #[.pointer (some ⟨b, 0, none⟩), .int .u64 (id : Int)] w fun e w' => e = .returned (.int .i64 (-1)) ∧ w = w' := by
  refine (rat_any h hm id l.length (Nat.le_refl _) (fun j hj _ => hn _ (List.getElem_mem hj)) (fun hj => absurd hj (by omega))).mono ?_
  rintro e w' ⟨rfl, rfl⟩
  rw [if_neg (by omega)]
  exact ⟨rfl, rfl⟩
set_option maxRecDepth 100000 in
set_option maxHeartbeats 1000000 in
theorem rset_no {id : Nat} (v : Int) (h : RefAt base w b most last l A c) (hm : l.length ≤ 1000000) (hn : ∀ x ∈ l, x.id ≠ id) :
    Calls Try.prog 17 #[.pointer (some ⟨b, 0, none⟩), .int .u64 (id : Int), .int .i64 v] w fun e w' => e = .returned (.int .i64 5) ∧ w = w' := by
  have c1 := rat_none h hm hn
  clear h
  go_enter Try.func17, Try.ntmps17
  go_wp2_with (go_at_call 24; with_reducible refine c1.mono ?_; rintro e w1 ⟨rfl, rfl⟩)
  go_ret
  exact ⟨rfl, rfl⟩
set_option maxRecDepth 100000 in
set_option maxHeartbeats 4000000 in
theorem rset_ok (v : Int) (h : RefAt base w b most last (a ++ x :: r) A c) (hm : (a ++ x :: r).length ≤ 1000000) (hs : (a ++ x :: r).Pairwise (fun a b => a.id < b.id)) :
    Calls Try.prog 17 #[.pointer (some ⟨b, 0, none⟩), .int .u64 (x.id : Int), .int .i64 v] w (RPostS base b most last (a ++ x.set v :: r) A c w (.int .i64 0)) := by
  have c1 := rat_some h hm hs
  have hlen : (a ++ x :: r).length = a.length + (r.length + 1) := by simp
  have hj : a.length < (a ++ x :: r).length := by omega
  have hjz : (a.length : Int) < ((a ++ x :: r).length : Int) := by omega
  have hj0 : (0 : Int) ≤ a.length := by omega
  have hj1 : ¬ (a.length : Int) < 0 := by omega
  obtain ⟨g, cap, cur, rfl, hg, _, _, _, _, _, hr, ht⟩ := h.cells hj
  have hx : (a ++ x :: r)[a.length] = x := by simp
  rw [hx] at hr
  have q0 := hr 0 _ rfl
  have q1 := hr 1 _ rfl
  have q2 := hr 2 _ rfl
  have q3 := hr 3 _ rfl
  have q4 := hr 4 _ rfl
  have q5 := hr 5 _ rfl
  have q6 := hr 6 _ rfl
  have q7 := hr 7 _ rfl
  have q8 := hr 8 _ rfl
  have q9 := hr 9 _ rfl
  have q10 := hr 10 _ rfl
  simp only [Nat.add_zero] at q0
  have c2 := h.blk.cell 2
  simp only [List.getElem?_toArray, List.getElem?_cons_zero, List.getElem?_cons_succ] at c2
  have HX := Lib.hid (And.intro h (And.intro ht hr))
  have hbl := h.blk.lt
  clear h ht hr hx
  generalize hL : (a ++ x :: r).length = L at *
  have HL := Lib.hid hL
  clear hL hlen
  go_enter Try.func17, Try.ntmps17
  go_upto_region 6 with (go_at_call 24; with_reducible refine c1.mono ?_; rintro e w1 ⟨rfl, hw⟩; rw [← hw]; clear hw)
  obtain ⟨W2, hW2⟩ : ∃ W2, W2 = w.alloc (.cells #[.int .u64 (x.id : Int), .int .i64 v, .int .u32 x.near.a, .int .u16 x.near.b, .int .u32 x.near.c, .int .u16 x.near.d, .int .u32 x.far.a, .int .u16 x.far.b, .int .u32 x.far.c, .int .u16 x.far.d, .bool x.bound] 55) := ⟨_, rfl⟩
  obtain ⟨gx, hgx⟩ : ∃ gx, gx = w.heap.size := ⟨_, rfl⟩
  have hB : Below w.heap.size w W2 := by rw [hW2]; exact (Below.refl _ _).alloc (Nat.le_refl _) _
  have hxb : Blk W2 gx 55 #[.int .u64 (x.id : Int), .int .i64 v, .int .u32 x.near.a, .int .u16 x.near.b, .int .u32 x.near.c, .int .u16 x.near.d, .int .u32 x.far.a, .int .u16 x.far.b, .int .u32 x.far.c, .int .u16 x.far.d, .bool x.bound] := by rw [hW2, hgx]; exact Blk.new _ _ _
  rw [← hW2, ← hgx]
  clear hW2 c1 q0 q1 q2 q3 q4 q5 q6 q7 q8 q9 q10
  have c2' : W2.cell? ⟨b, 2, none⟩ = some (.slice (some ⟨g, 0, none⟩) L c) := (hB.cell (p := ⟨b, 2, none⟩) hbl).trans c2
  have x0 := hxb.cell 0
  have x1 := hxb.cell 1
  have x2 := hxb.cell 2
  have x3 := hxb.cell 3
  have x4 := hxb.cell 4
  have x5 := hxb.cell 5
  have x6 := hxb.cell 6
  have x7 := hxb.cell 7
  have x8 := hxb.cell 8
  have x9 := hxb.cell 9
  have x10 := hxb.cell 10
  simp only [List.getElem?_toArray, List.getElem?_cons_zero, List.getElem?_cons_succ] at x0 x1 x2 x3 x4 x5 x6 x7 x8 x9 x10
  have hth : W2.drew.there g (a.length * 11) 11 := by
    obtain ⟨h, ht, _⟩ := HX.out
    intro i hi
    obtain ⟨e1, e2⟩ := ht i hi
    refine ⟨?_, ?_⟩
    · show (W2.cell? _).isSome = true
      rw [hB.cell (p := ⟨g, a.length * 11 + i, none⟩) hg]
      exact e1
    · show W2.frozen? _ = false
      unfold World.frozen? at e2 ⊢
      rw [hB.block g hg]
      exact e2
  have hfin : RPostS base b most last (a ++ x.set v :: r) (some ⟨g, 0, none⟩) c w (.int .i64 0) (.returned (.int .i64 0)) (W2.drew.setCells g (a.length * 11) #[.int .u64 (x.id : Int), .int .i64 v, .int .u32 x.near.a, .int .u16 x.near.b, .int .u32 x.near.c, .int .u16 x.near.d, .int .u32 x.far.a, .int .u16 x.far.b, .int .u32 x.far.c, .int .u16 x.far.d, .bool x.bound].toList) := by
    obtain ⟨h, _, _⟩ := HX.out
    have h2 := (h.below hB).below (Below.drew (Below.refl _ _))
    refine ⟨rfl, h2.swap (x' := x.set v) rfl, ?_⟩
    exact Out.trans (Out.of_below (hB.trans (Below.drew (Below.refl _ _)))) (Out.grown (O := ROwn b (some ⟨g, 0, none⟩)) (setCells_grown _ _ _ _ (World.grownBy.refl _ _)) (.inr rfl)) (fun _ _ e => e)
  have hone : (#[.int .u64 (x.id : Int), .int .i64 v, .int .u32 x.near.a, .int .u16 x.near.b, .int .u32 x.near.c, .int .u16 x.near.d, .int .u32 x.far.a, .int .u16 x.far.b, .int .u32 x.far.c, .int .u16 x.far.d, .bool x.bound] : Array Value).all (·.oneCell') = true := by kernel_rfl
  have HF := Lib.hid (And.intro hfin (And.intro hth hone))
  clear hfin hth hone hB hxb hgx c2 HX
  go_still_tail 7, (by kernel_rfl)
  change wpList _ _ _ _ _ W2.drew
  clear c2' x0 x1 x2 x3 x4 x5 x6 x7 x8 x9 x10
  generalize W2.drew = W3 at *
  refine wpList_store_mid rfl 55 _ _ rfl g (a.length * 11) #[.int .u64 (x.id : Int), .int .i64 v, .int .u32 x.near.a, .int .u16 x.near.b, .int .u32 x.near.c, .int .u16 x.near.d, .int .u32 x.far.a, .int .u16 x.far.b, .int .u32 x.far.c, .int .u16 x.far.d, .bool x.bound] rfl rfl HF.out.2.1 entI HF.out.2.2 ?_
  generalize W3.setCells _ _ _ = W4 at *
  go_wp2
  go_ret
  exact HF.out.1
set_option maxRecDepth 100000 in
set_option maxHeartbeats 1000000 in
theorem rbind_no {id : Nat} (h : RefAt base w b most last l A c) (hm : l.length ≤ 1000000) (hn : ∀ x ∈ l, x.id ≠ id) :
    Calls Try.prog 15 #[.pointer (some ⟨b, 0, none⟩), .int .u64 (id : Int), .agg #[.int .u32 p.a, .int .u16 p.b, .int .u32 p.c, .int .u16 p.d]] w fun e w' => e = .returned (.int .i64 5) ∧ Below w.heap.size w w' := by
  have hB : Below w.heap.size w (w.alloc (.cells #[.int .u32 p.a, .int .u16 p.b, .int .u32 p.c, .int .u16 p.d] 34)) := (Below.refl _ _).alloc (Nat.le_refl _) _
  have c1 := rat_none (h.below hB) hm hn
  have HB := Lib.hid hB
  clear hB
  clear h
  go_enter Try.func15, Try.ntmps15
  go_wp2_with (go_at_call 24; with_reducible refine c1.mono ?_; rintro e w1 ⟨rfl, hw⟩; rw [← hw]; clear hw)
  go_ret
  exact ⟨rfl, HB.out⟩
set_option maxRecDepth 100000 in
set_option maxHeartbeats 4000000 in
theorem rbind_state (h : RefAt base w b most last (a ++ x :: r) A c) (hm : (a ++ x :: r).length ≤ 1000000) (hs : (a ++ x :: r).Pairwise (fun a b => a.id < b.id)) (hxb : x.bound = true) :
    Calls Try.prog 15 #[.pointer (some ⟨b, 0, none⟩), .int .u64 (x.id : Int), .agg #[.int .u32 p.a, .int .u16 p.b, .int .u32 p.c, .int .u16 p.d]] w fun e w' => e = .returned (.int .i64 3) ∧ Below w.heap.size w w' := by
  have hB : Below w.heap.size w (w.alloc (.cells #[.int .u32 p.a, .int .u16 p.b, .int .u32 p.c, .int .u16 p.d] 34)) := (Below.refl _ _).alloc (Nat.le_refl _) _
  have h2 := h.below hB
  have c1 := rat_some h2 hm hs
  have hlen : (a ++ x :: r).length = a.length + (r.length + 1) := by simp
  have hj : a.length < (a ++ x :: r).length := by omega
  have hjz : (a.length : Int) < ((a ++ x :: r).length : Int) := by omega
  have hj0 : (0 : Int) ≤ a.length := by omega
  have hj1 : ¬ (a.length : Int) < 0 := by omega
  obtain ⟨g, cap, cur, rfl, hg, _, _, _, _, _, hr, ht⟩ := h2.cells hj
  have hx : (a ++ x :: r)[a.length] = x := by simp
  rw [hx] at hr
  have q0 := hr 0 _ rfl
  have q1 := hr 1 _ rfl
  have q2 := hr 2 _ rfl
  have q3 := hr 3 _ rfl
  have q4 := hr 4 _ rfl
  have q5 := hr 5 _ rfl
  have q6 := hr 6 _ rfl
  have q7 := hr 7 _ rfl
  have q8 := hr 8 _ rfl
  have q9 := hr 9 _ rfl
  have q10 := hr 10 _ rfl
  simp only [Nat.add_zero] at q0
  have c2 := h2.blk.cell 2
  simp only [List.getElem?_toArray, List.getElem?_cons_zero, List.getElem?_cons_succ] at c2
  have hbl := h.blk.lt
  rw [hxb] at q10
  have HX := Lib.hid (And.intro h (And.intro h2 (And.intro ht hr)))
  clear h h2 ht hr hx hbl hg
  generalize hL : (a ++ x :: r).length = L at *
  clear hL hlen
  have HB := Lib.hid hB
  clear hB
  have Hs := Lib.hid hs
  clear hs
  have Hm := Lib.hid hm
  clear hm
  go_enter Try.func15, Try.ntmps15
  go_wp2_with (go_at_call 24; with_reducible refine c1.mono ?_; rintro e w1 ⟨rfl, hw⟩; rw [← hw]; clear hw)
  go_ret
  exact ⟨rfl, HB.out.alloc HB.out.size _⟩
set_option maxRecDepth 100000 in
set_option maxHeartbeats 4000000 in
theorem rbind_there {N id side : Nat} (h : RefAt base w b most last (a ++ x :: r) A c) (hm : (a ++ x :: r).length ≤ 1000000) (hs : (a ++ x :: r).Pairwise (fun a b => a.id < b.id)) (hxb : x.bound = false) (hF : FindR (a ++ x :: r) p N id side) (hN : N < (a ++ x :: r).length) :
    Calls Try.prog 15 #[.pointer (some ⟨b, 0, none⟩), .int .u64 (x.id : Int), .agg #[.int .u32 p.a, .int .u16 p.b, .int .u32 p.c, .int .u16 p.d]] w fun e w' => e = .returned (.int .i64 7) ∧ Below w.heap.size w w' := by
  have hsd : ¬ (side : Int) = 0 := by
    rcases (hF.here hN).1 with ⟨_, h⟩ | ⟨_, _, _, h⟩ <;> omega
  have hsb : ((side : Int) == 0) = false := by simp only [beq_eq_false_iff_ne, ne_eq]; exact hsd
  have hB : Below w.heap.size w (w.alloc (.cells #[.int .u32 p.a, .int .u16 p.b, .int .u32 p.c, .int .u16 p.d] 34)) := (Below.refl _ _).alloc (Nat.le_refl _) _
  have h2 := h.below hB
  have c1 := rat_some h2 hm hs
  have hB2 : Below w.heap.size w ((w.alloc (.cells #[.int .u32 p.a, .int .u16 p.b, .int .u32 p.c, .int .u16 p.d] 34)).alloc (.cells #[.int .u64 (x.id : Int), .int .i64 x.v, .int .u32 x.near.a, .int .u16 x.near.b, .int .u32 x.near.c, .int .u16 x.near.d, .int .u32 x.far.a, .int .u16 x.far.b, .int .u32 x.far.c, .int .u16 x.far.d, .bool false] 55)) := hB.alloc hB.size _
  have cf := rfind_any (h.below hB2) hm hF
  have hlen : (a ++ x :: r).length = a.length + (r.length + 1) := by simp
  have hj : a.length < (a ++ x :: r).length := by omega
  have hjz : (a.length : Int) < ((a ++ x :: r).length : Int) := by omega
  have hj0 : (0 : Int) ≤ a.length := by omega
  have hj1 : ¬ (a.length : Int) < 0 := by omega
  obtain ⟨g, cap, cur, rfl, hg, _, _, _, _, _, hr, ht⟩ := h2.cells hj
  have hx : (a ++ x :: r)[a.length] = x := by simp
  rw [hx] at hr
  have q0 := hr 0 _ rfl
  have q1 := hr 1 _ rfl
  have q2 := hr 2 _ rfl
  have q3 := hr 3 _ rfl
  have q4 := hr 4 _ rfl
  have q5 := hr 5 _ rfl
  have q6 := hr 6 _ rfl
  have q7 := hr 7 _ rfl
  have q8 := hr 8 _ rfl
  have q9 := hr 9 _ rfl
  have q10 := hr 10 _ rfl
  simp only [Nat.add_zero] at q0
  have c2 := h2.blk.cell 2
  simp only [List.getElem?_toArray, List.getElem?_cons_zero, List.getElem?_cons_succ] at c2
  have hbl := h.blk.lt
  rw [hxb] at q10
  have HX := Lib.hid (And.intro h (And.intro h2 (And.intro ht hr)))
  clear h h2 ht hr hx hbl hg hN hF
  generalize hL : (a ++ x :: r).length = L at *
  clear hL hlen
  have HB := Lib.hid hB
  clear hB
  have HB2 := Lib.hid hB2
  clear hB2
  have Hs := Lib.hid hs
  clear hs
  have Hm := Lib.hid hm
  clear hm
  go_enter Try.func15, Try.ntmps15
  go_wp2_with (first
    | (go_at_call 24; with_reducible refine c1.mono ?_; rintro e w1 ⟨rfl, hw⟩; rw [← hw]; clear hw)
    | (go_at_call 20; with_reducible refine cf.mono ?_; rintro e w2 ⟨rfl, hb⟩))
  go_ret
  exact ⟨rfl, HB2.out.trans (hb.mono HB2.out.size)⟩
set_option maxRecDepth 100000 in
set_option maxHeartbeats 4000000 in
theorem rbind_ok {N : Nat} (h : RefAt base w b most last (a ++ x :: r) A c) (hm : (a ++ x :: r).length ≤ 1000000) (hs : (a ++ x :: r).Pairwise (fun a b => a.id < b.id)) (hxb : x.bound = false) (hF : FindR (a ++ x :: r) p N 0 0) :
    Calls Try.prog 15 #[.pointer (some ⟨b, 0, none⟩), .int .u64 (x.id : Int), .agg #[.int .u32 p.a, .int .u16 p.b, .int .u32 p.c, .int .u16 p.d]] w (RPostS base b most last (a ++ x.bind p :: r) A c w (.int .i64 0)) := by
  have hB : Below w.heap.size w (w.alloc (.cells #[.int .u32 p.a, .int .u16 p.b, .int .u32 p.c, .int .u16 p.d] 34)) := (Below.refl _ _).alloc (Nat.le_refl _) _
  have h2 := h.below hB
  have c1 := rat_some h2 hm hs
  have hB2 : Below w.heap.size w ((w.alloc (.cells #[.int .u32 p.a, .int .u16 p.b, .int .u32 p.c, .int .u16 p.d] 34)).alloc (.cells #[.int .u64 (x.id : Int), .int .i64 x.v, .int .u32 x.near.a, .int .u16 x.near.b, .int .u32 x.near.c, .int .u16 x.near.d, .int .u32 x.far.a, .int .u16 x.far.b, .int .u32 x.far.c, .int .u16 x.far.d, .bool false] 55)) := hB.alloc hB.size _
  have cf := rfind_any (h.below hB2) hm hF
  have hlen : (a ++ x :: r).length = a.length + (r.length + 1) := by simp
  have hj : a.length < (a ++ x :: r).length := by omega
  have hjz : (a.length : Int) < ((a ++ x :: r).length : Int) := by omega
  have hj0 : (0 : Int) ≤ a.length := by omega
  have hj1 : ¬ (a.length : Int) < 0 := by omega
  obtain ⟨g, cap, cur, rfl, hg, _, _, _, _, _, hr, ht⟩ := h2.cells hj
  have hx : (a ++ x :: r)[a.length] = x := by simp
  rw [hx] at hr
  have q0 := hr 0 _ rfl
  have q1 := hr 1 _ rfl
  have q2 := hr 2 _ rfl
  have q3 := hr 3 _ rfl
  have q4 := hr 4 _ rfl
  have q5 := hr 5 _ rfl
  have q6 := hr 6 _ rfl
  have q7 := hr 7 _ rfl
  have q8 := hr 8 _ rfl
  have q9 := hr 9 _ rfl
  have q10 := hr 10 _ rfl
  simp only [Nat.add_zero] at q0
  have c2 := h2.blk.cell 2
  simp only [List.getElem?_toArray, List.getElem?_cons_zero, List.getElem?_cons_succ] at c2
  have hbl := h.blk.lt
  rw [hxb] at q10
  have HX := Lib.hid (And.intro h (And.intro ht hr))
  clear h h2 ht hr hx hF
  generalize hL : (a ++ x :: r).length = L at *
  have HL := Lib.hid hL
  clear hL hlen
  have HB := Lib.hid hB
  clear hB
  have HB2 := Lib.hid hB2
  clear hB2
  have Hs := Lib.hid hs
  clear hs
  have Hm := Lib.hid hm
  clear hm
  have Hg := Lib.hid hg
  clear hg
  have Hbl := Lib.hid hbl
  clear hbl
  go_enter Try.func15, Try.ntmps15
  go_upto_region 7 with (go_at_call 24; with_reducible refine c1.mono ?_; rintro e w1 ⟨rfl, hw⟩; rw [← hw]; clear hw)
  have hbp := (Blk.new w 34 #[.int .u32 p.a, .int .u16 p.b, .int .u32 p.c, .int .u16 p.d]).alloc (.cells #[.int .u64 (x.id : Int), .int .i64 x.v, .int .u32 x.near.a, .int .u16 x.near.b, .int .u32 x.near.c, .int .u16 x.near.d, .int .u32 x.far.a, .int .u16 x.far.b, .int .u32 x.far.c, .int .u16 x.far.d, .bool false] 55)
  have hbx : Blk ((w.alloc (.cells #[.int .u32 p.a, .int .u16 p.b, .int .u32 p.c, .int .u16 p.d] 34)).alloc (.cells #[.int .u64 (x.id : Int), .int .i64 x.v, .int .u32 x.near.a, .int .u16 x.near.b, .int .u32 x.near.c, .int .u16 x.near.d, .int .u32 x.far.a, .int .u16 x.far.b, .int .u32 x.far.c, .int .u16 x.far.d, .bool false] 55)) (w.heap.size + 1) 55 #[.int .u64 (x.id : Int), .int .i64 x.v, .int .u32 x.near.a, .int .u16 x.near.b, .int .u32 x.near.c, .int .u16 x.near.d, .int .u32 x.far.a, .int .u16 x.far.b, .int .u32 x.far.c, .int .u16 x.far.d, .bool false] := by
    have := Blk.new (w.alloc (.cells #[.int .u32 p.a, .int .u16 p.b, .int .u32 p.c, .int .u16 p.d] 34)) 55 #[.int .u64 (x.id : Int), .int .i64 x.v, .int .u32 x.near.a, .int .u16 x.near.b, .int .u32 x.near.c, .int .u16 x.near.d, .int .u32 x.far.a, .int .u16 x.far.b, .int .u32 x.far.c, .int .u16 x.far.d, .bool false]
    rwa [show (w.alloc (.cells #[.int .u32 p.a, .int .u16 p.b, .int .u32 p.c, .int .u16 p.d] 34)).heap.size = w.heap.size + 1 by simp] at this
  obtain ⟨gx, ex⟩ : ∃ gx, gx = w.heap.size + 1 := ⟨_, rfl⟩
  obtain ⟨gp, ep⟩ : ∃ gp, gp = w.heap.size := ⟨_, rfl⟩
  rw [← ex] at hbx ⊢
  rw [← ep] at hbp ⊢
  have hne : gp ≠ gx := by omega
  have hgx : w.heap.size ≤ gx := by omega
  clear ex ep q0 q1 q2 q3 q4 q5 q6 q7 q8 q9 q10 c1
  generalize (w.alloc _).alloc _ = W1 at *
  have HBP := Lib.hid hbp
  have HBX := Lib.hid hbx
  have z0 := hbp.cell 0
  have z1 := hbp.cell 1
  have z2 := hbp.cell 2
  have z3 := hbp.cell 3
  simp only [List.getElem?_toArray, List.getElem?_cons_zero, List.getElem?_cons_succ] at z0 z1 z2 z3
  clear hbp hbx
  have Hne := Lib.hid hne
  clear hne
  have Hgx := Lib.hid hgx
  clear hgx
  go_upto_region 10 with (go_at_call 20; with_reducible refine cf.mono ?_; rintro e w2 ⟨rfl, hb⟩)
  clear z0 z1 z2 z3 cf
  have hbp := HBP.out.below hb HBP.out.lt
  have hbx := HBX.out.below hb HBX.out.lt
  have hB3 : Below w.heap.size w w2 := HB2.out.trans (hb.mono HB2.out.size)
  have z0 := hbp.cell 0
  have z1 := hbp.cell 1
  have z2 := hbp.cell 2
  have z3 := hbp.cell 3
  have y0 := hbx.cell 0
  have y1 := hbx.cell 1
  have y2 := hbx.cell 2
  have y3 := hbx.cell 3
  have y4 := hbx.cell 4
  have y5 := hbx.cell 5
  have y6 := hbx.cell 6
  have y7 := hbx.cell 7
  have y8 := hbx.cell 8
  have y9 := hbx.cell 9
  have y10 := hbx.cell 10
  have fx := hbx.frozen
  simp only [List.getElem?_toArray, List.getElem?_cons_zero, List.getElem?_cons_succ] at z0 z1 z2 z3 y0 y1 y2 y3 y4 y5 y6 y7 y8 y9 y10
  have HH := Lib.hid (And.intro hbx hB3)
  clear hbp hbx hB3 HBP HBX HB2 HB hb c2
  go_upto_region 12 with fail
  clear z0 z1 z2 z3 y0 y1 y2 y3 y4 y5 y6 y7 y8 y9 y10 fx
  obtain ⟨hbx, hB3⟩ := HH.out
  obtain ⟨W2, hW2⟩ : ∃ W2, W2 = ((((w2.setCell ⟨gx, 6, none⟩ (.int .u32 p.a)).setCell ⟨gx, 7, none⟩ (.int .u16 p.b)).setCell ⟨gx, 8, none⟩ (.int .u32 p.c)).setCell ⟨gx, 9, none⟩ (.int .u16 p.d)).setCell ⟨gx, 10, none⟩ (.bool true) := ⟨_, rfl⟩
  rw [← hW2]
  have hB : Below w.heap.size w W2 := by
    rw [hW2]
    exact ((((hB3.setCell Hgx.out _).setCell Hgx.out _).setCell Hgx.out _).setCell Hgx.out _).setCell Hgx.out _
  have hxb2 : Blk W2 gx 55 #[.int .u64 (x.id : Int), .int .i64 x.v, .int .u32 x.near.a, .int .u16 x.near.b, .int .u32 x.near.c, .int .u16 x.near.d, .int .u32 p.a, .int .u16 p.b, .int .u32 p.c, .int .u16 p.d, .bool true] := by
    rw [hW2]
    have := ((((hbx.set_ 6 (.int .u32 p.a)).set_ 7 (.int .u16 p.b)).set_ 8 (.int .u32 p.c)).set_ 9 (.int .u16 p.d)).set_ 10 (.bool true)
    simpa using this
  clear hW2 hbx hB3 HH
  have c2' : W2.cell? ⟨b, 2, none⟩ = some (.slice (some ⟨g, 0, none⟩) L c) := by
    obtain ⟨h, _, _⟩ := HX.out
    have := (h.below hB).blk.cell 2
    rw [← HL.out]
    simpa using this
  have hg : g < w.heap.size := by
    have := HX.out.1.row.lt g rfl
    exact this.2
  have x0 := hxb2.cell 0
  have x1 := hxb2.cell 1
  have x2 := hxb2.cell 2
  have x3 := hxb2.cell 3
  have x4 := hxb2.cell 4
  have x5 := hxb2.cell 5
  have x6 := hxb2.cell 6
  have x7 := hxb2.cell 7
  have x8 := hxb2.cell 8
  have x9 := hxb2.cell 9
  have x10 := hxb2.cell 10
  simp only [List.getElem?_toArray, List.getElem?_cons_zero, List.getElem?_cons_succ] at x0 x1 x2 x3 x4 x5 x6 x7 x8 x9 x10
  have hth : W2.drew.there g (a.length * 11) 11 := by
    have hlen : (a ++ x :: r).length = a.length + (r.length + 1) := by simp
    obtain ⟨g', _, _, e, _, _, _, _, _, _, _, ht⟩ := ((HX.out.1.below hB).below (Below.drew (Below.refl _ _))).cells (j := a.length) (by omega)
    injection e with e
    injection e with e
    subst e
    exact ht
  have hfin : RPostS base b most last (a ++ x.bind p :: r) (some ⟨g, 0, none⟩) c w (.int .i64 0) (.returned (.int .i64 0)) (W2.drew.setCells g (a.length * 11) #[.int .u64 (x.id : Int), .int .i64 x.v, .int .u32 x.near.a, .int .u16 x.near.b, .int .u32 x.near.c, .int .u16 x.near.d, .int .u32 p.a, .int .u16 p.b, .int .u32 p.c, .int .u16 p.d, .bool true].toList) := by
    obtain ⟨h, _, _⟩ := HX.out
    have h2 := (h.below hB).below (Below.drew (Below.refl _ _))
    refine ⟨rfl, h2.swap (x' := x.bind p) rfl, ?_⟩
    exact Out.trans (Out.of_below (hB.trans ((Below.drew (Below.refl _ _)).mono hB.size))) (Out.grown (O := ROwn b (some ⟨g, 0, none⟩)) (setCells_grown _ _ _ _ (World.grownBy.refl _ _)) (.inr rfl)) (fun _ _ e => e)
  have hone : (#[.int .u64 (x.id : Int), .int .i64 x.v, .int .u32 x.near.a, .int .u16 x.near.b, .int .u32 x.near.c, .int .u16 x.near.d, .int .u32 p.a, .int .u16 p.b, .int .u32 p.c, .int .u16 p.d, .bool true] : Array Value).all (·.oneCell') = true := by kernel_rfl
  have HF := Lib.hid (And.intro hfin (And.intro hth hone))
  clear hfin hth hone hB hxb2 HX hg
  go_still_tail 7, (by kernel_rfl)
  change wpList _ _ _ _ _ W2.drew
  clear c2' x0 x1 x2 x3 x4 x5 x6 x7 x8 x9 x10
  generalize W2.drew = W3 at *
  refine wpList_store_mid rfl 55 _ _ rfl g (a.length * 11) #[.int .u64 (x.id : Int), .int .i64 x.v, .int .u32 x.near.a, .int .u16 x.near.b, .int .u32 x.near.c, .int .u16 x.near.d, .int .u32 p.a, .int .u16 p.b, .int .u32 p.c, .int .u16 p.d, .bool true] rfl rfl HF.out.2.1 entI HF.out.2.2 ?_
  generalize W3.setCells _ _ _ = W4 at *
  go_wp2
  go_ret
  exact HF.out.1
end
end Go.Proofs.Ytlikngepcbmhdaa
