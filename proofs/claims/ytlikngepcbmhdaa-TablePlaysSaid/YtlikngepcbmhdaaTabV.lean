/- The law TablePlays: the table and the reference, side by side: what each step does to both. -/
import Derived.Test.YtlikngepcbmhdaaTabT
import Derived.Test.YtlikngepcbmhdaaTabO
import Derived.Test.YtlikngepcbmhdaaStep12
set_option linter.unusedVariables false
set_option linter.unusedSimpArgs false
namespace Go.Proofs.Ytlikngepcbmhdaa
open Go.ChangeShapes Go.WideShapes Go.ChangeAt Go.RowKit Go.Maps

section
variable {s : Tab} {l : List PE} {w W W' : World} {t : Nat} {p : Pr}
theorem rel_ent (h : Rel s l) (ht : TabAt TI W t s) {x : PE} (hx : x ∈ l) : ∃ en, s.E x.id = some en ∧ x.of en ∧ 1 ≤ x.id ∧ x.id ≤ s.last ∧ x.near.wf ∧ x.far.wf ∧ s.by_ x.near = x.id ∧ (x.bound = true → s.by_ x.far = x.id ∧ x.near ≠ x.far) := by
  obtain ⟨en, he, ho⟩ := h.from_ x hx
  obtain ⟨q1, q2, _, q3, q4⟩ := ht.ents _ _ he
  obtain ⟨r1, r2⟩ := ht.led _ _ he
  obtain ⟨o1, o2, o3, o4⟩ := id ho
  rw [o2] at q3 r1 r2
  rw [o3] at q4 r2
  rw [o4] at r2
  exact ⟨en, he, ho, q1, q2, q3, q4, r1, r2⟩
theorem rel_by (h : Rel s l) (ht : TabAt TI W t s) {x : PE} (hx : x ∈ l) (hq : x.near = p ∨ x.bound = true ∧ x.far = p) : s.by_ p = x.id ∧ 1 ≤ x.id := by
  obtain ⟨_, _, _, q, _, _, _, b1, b2⟩ := rel_ent h ht hx
  rcases hq with hh | ⟨hb, hh⟩
  · rw [← hh]; exact ⟨b1, q⟩
  · rw [← hh]; exact ⟨(b2 hb).1, q⟩
theorem find_no (h : Rel s l) (ht : TabAt TI W t s) (hby : s.by_ p = 0) : FindR l p l.length 0 0 := by
  refine ⟨Nat.le_refl _, fun j hj _ => ?_, fun hj => absurd hj (by omega), fun _ => ⟨rfl, rfl⟩⟩
  constructor
  · intro e
    have := rel_by h ht (List.getElem_mem hj) (.inl e)
    omega
  · intro e
    have := rel_by h ht (List.getElem_mem hj) (.inr e)
    omega
theorem find_yes (h : Rel s l) (ht : TabAt TI W t s) (hp : p.wf) (hby : s.by_ p ≠ 0) : ∃ N e, s.E (s.by_ p) = some e ∧ FindR l p N (s.by_ p) (if e.near = p then 1 else 2) ∧ N < l.length := by
  obtain ⟨e, he, hh⟩ := ht.leads p hp hby
  obtain ⟨x, hx, hi, ho⟩ := h.to_ _ _ he
  obtain ⟨N, hN, rfl⟩ := List.mem_iff_getElem.1 hx
  refine ⟨N, e, he, ⟨Nat.le_of_lt hN, fun j hj hjN => ?_, fun _ => ⟨?_, hi.symm⟩, fun e => by omega⟩, hN⟩
  · have hlt := List.pairwise_iff_getElem.1 h.sorted j N hj hN hjN
    constructor
    · intro e
      have := rel_by h ht (List.getElem_mem hj) (.inl e)
      omega
    · intro e
      have := rel_by h ht (List.getElem_mem hj) (.inr e)
      omega
  · by_cases hn : e.near = p
    · rw [if_pos hn]
      exact .inl ⟨by rw [← ho.2.1]; exact hn, rfl⟩
    · rw [if_neg hn]
      rcases hh with hh | ⟨h1, h2⟩
      · exact absurd hh hn
      · exact .inr ⟨by rw [← ho.2.1]; exact hn, by rw [← ho.2.2.2]; exact h1, by rw [← ho.2.2.1]; exact h2, rfl⟩
theorem own_typed (h : TabAt TI W t s) {g : Nat} {T : TypeId} {cs : Array Value} (hk : Blk W g T cs) (h1 : T ≠ TI.tab) (h2 : T ≠ TI.ent) : ¬ Own t s g := by
  rintro (rfl | rfl | rfl | ⟨i, e, he, rfl⟩)
  · exact Blk.ne_ h.blk hk (Ne.symm h1) rfl
  · obtain ⟨es, c, q1, _⟩ := h.all_.size; unfold Blk at hk; rw [q1] at hk; injection hk with hk; injection hk
  · obtain ⟨M2, q, _⟩ := h.by_; obtain ⟨es, c, q1, _⟩ := q.size; unfold Blk at hk; rw [q1] at hk; injection hk with hk; injection hk
  · exact Blk.ne_ (h.ents i e he).2.2.1 hk (Ne.symm h2) rfl
theorem own_set (id : Nat) (v : Value) {i : Nat} (h : Own t (setT s id v) i) : Own t s i := by
  rcases h with h | h | h | ⟨j, e, h1, h2⟩
  · exact .inl h
  · exact .inr (.inl h)
  · exact .inr (.inr (.inl h))
  · obtain ⟨e0, q1, q2, _⟩ := set_some h1
    exact .inr (.inr (.inr ⟨j, e0, q1, by rw [← q2]; exact h2⟩))
theorem own_bind {id : Nat} {en : Ent} (he : s.E id = some en) {i : Nat} (h : Own t (bindT s id en p) i) : Own t s i := by
  rcases h with h | h | h | ⟨j, e, h1, h2⟩
  · exact .inl h
  · exact .inr (.inl h)
  · exact .inr (.inr (.inl h))
  · simp only [bindT] at h1
    split at h1
    · rename_i hj
      injection h1 with h1
      subst h1
      exact .inr (.inr (.inr ⟨id, en, he, h2⟩))
    · exact .inr (.inr (.inr ⟨j, e, h1, h2⟩))
end
structure PT (w : World) (t b gs most : Nat) (st : St12) (k : Nat) (s : Tab) (l lr : List PE) (last : Nat) (A : Option Addr) (c : Nat) (W : World) : Prop where
  has : Has TI w W t s
  rel : Rel s l
  ref : RefAt w.heap.size W b most last lr A c
  step : Blk W gs 46 st.cells.toArray
  hm : s.most = most
  le : s.last ≤ k
  lrl : lr.length ≤ 1000
  hb : w.heap.size ≤ b
section
variable {w W W' : World} {t b gs most k last c : Nat} {st : St12} {s s' : Tab} {l l' lr lr' : List PE} {A A' : Option Addr}
theorem PT.row (h : PT w t b gs most st k s l lr last A c W) {g : Nat} (hg : rowR A = some g) : w.heap.size ≤ g ∧ ∃ cs, Blk W g 55 cs := by
  rcases h.ref.row.2 with ⟨e, _⟩ | ⟨g', cap, cur, e, q1, q2, _⟩
  · injection e with e
    subst e
    cases hg
  · injection e with e
    subst e
    simp [rowR] at hg
    subst hg
    exact ⟨q1, cur, q2⟩
theorem PT.apart (h : PT w t b gs most st k s l lr last A c W) (i : Nat) (ho : Own t s i) : ¬ ROwn b A i := by
  rintro (rfl | hr)
  · exact own_typed h.has.tab h.ref.blk (by decide) (by decide) ho
  · obtain ⟨_, cs, hk⟩ := h.row hr
    exact own_typed h.has.tab hk (by decide) (by decide) ho
theorem PT.gs1 (h : PT w t b gs most st k s l lr last A c W) : ¬ Own t s gs := own_typed h.has.tab h.step (by decide) (by decide)
theorem PT.gs2 (h : PT w t b gs most st k s l lr last A c W) : ¬ ROwn b A gs := by
  rintro (e | hr)
  · exact Blk.ne_ h.ref.blk h.step (by decide) e.symm
  · obtain ⟨_, cs, hk⟩ := h.row hr
    exact Blk.ne_ hk h.step (by decide) rfl
theorem PT.old (h : PT w t b gs most st k s l lr last A c W) (i : Nat) (hi : i < w.heap.size) : ¬ ROwn b A i := by
  rintro (rfl | hr)
  · have := h.hb; omega
  · have := (h.row hr).1; omega
theorem PT.below (h : PT w t b gs most st k s l lr last A c W) (hb : Below W.heap.size W W') : PT w t b gs most st k s l lr last A c W' :=
  ⟨h.has.step hb, h.rel, h.ref.below hb, h.step.below hb h.step.lt, h.hm, h.le, h.lrl, h.hb⟩
theorem PT.tab_ (h : PT w t b gs most st k s l lr last A c W) (ho : Out (Own t s) W W') (ht : Has TI w W' t s') (hr : Rel s' l') (hm : s'.most = most) {k' : Nat} (hl : s'.last ≤ k') : PT w t b gs most st k' s' l' lr last A c W' :=
  ⟨ht, hr, h.ref.out ho (fun e => h.apart _ e (.inl rfl)) (fun g hg e => h.apart _ e (.inr hg)), (ho.block _ h.step.lt h.gs1).trans h.step, hm, hl, h.lrl, h.hb⟩
theorem PT.has_ref (h : PT w t b gs most st k s l lr last A c W) {W1 : World} (h1 : Has TI w W1 t s) (ho : Out (ROwn b A) W1 W') : Has TI w W' t s :=
  ⟨h1.tab.keep fun i hi hw => ho.block i hi (h.apart i hw), h1.own, h1.below.trans (ho.below h1.below.size h.old)⟩
theorem PT.ref_ (h : PT w t b gs most st k s l lr last A c W) (ho : Out (ROwn b A) W W') {last' c' : Nat} (hr : RefAt w.heap.size W' b most last' lr' A' c') (hl : lr'.length ≤ 1000) : PT w t b gs most st k s l lr' last' A' c' W' :=
  ⟨h.has_ref h.has ho, h.rel, hr, (ho.block _ h.step.lt h.gs2).trans h.step, h.hm, h.le, hl, h.hb⟩
theorem PT.more (h : PT w t b gs most st k s l lr last A c W) : PT w t b gs most st (k + 1) s l lr last A c W :=
  ⟨h.has, h.rel, h.ref, h.step, h.hm, by have := h.le; omega, h.lrl, h.hb⟩
theorem PT.len (h : PT w t b gs most st k s l lr last A c W) : l.length ≤ k := by
  rw [h.rel.len]
  exact Nat.le_trans h.has.tab.n_le h.le
end
/-- the two are alike -/
def Good (w : World) (t b gs most : Nat) (st : St12) (k : Nat) (W : World) : Prop := ∃ s l A c, PT w t b gs most st k s l l s.last A c W
/-- the table is ahead by one step -/
def Mid (w : World) (t b gs most : Nat) (st : St12) (k : Nat) (l' : List PE) (last' : Nat) (lr : List PE) (last : Nat) (A : Option Addr) (c : Nat) (W : World) : Prop := ∃ s, PT w t b gs most st k s l' lr last A c W ∧ s.last = last'
section
variable {w W W' : World} {t b gs most k c : Nat} {st : St12} {s s' : Tab} {l l' lr lr' : List PE} {A A' : Option Addr} {p : Pr}
theorem p_put (h : PT w t b gs most st k s l l s.last A c W) (hk : k < 300) (hp : p.wf) (v : Int) (vw : (Lit.int .i64 v).wf = true) :
    ∃ (a er : Int) (l' : List PE) (last' : Nat), (Calls Try.prog 8 #[.pointer (some ⟨t, 0, none⟩), .agg #[.int .u32 p.a, .int .u16 p.b, .int .u32 p.c, .int .u16 p.d], .int .i64 v] W fun e W1 => e = .returned (.tuple #[.int .u64 a, .int .i64 er]) ∧ Mid w t b gs most st (k + 1) l' last' l s.last A c W1) ∧
      ∀ W1, Mid w t b gs most st (k + 1) l' last' l s.last A c W1 → Calls Try.prog 13 #[.pointer (some ⟨b, 0, none⟩), .agg #[.int .u32 p.a, .int .u16 p.b, .int .u32 p.c, .int .u16 p.d], .int .i64 v] W1 fun e W2 => e = .returned (.tuple #[.int .u64 a, .int .i64 er]) ∧ Good w t b gs most st (k + 1) W2 := by
  have hle := h.le
  have hll := h.len
  by_cases hby : s.by_ p = 0
  · have hF := find_no h.rel h.has.tab hby
    by_cases hn : s.n < s.most
    · refine ⟨(s.last : Int) + 1, 0, l ++ [⟨s.last + 1, v, p, pr0, false⟩], s.last + 1, ?_, ?_⟩
      · refine (put_ok_i W t s p v h.has.tab hp hby hn (by omega)).mono ?_
        rintro e W1 ⟨rfl, g, h1, h2, h3⟩
        refine ⟨rfl, _, h.tab_ h3 (h.has.out h2 h3 fun b hb => ?_) (h.rel.put h.has.tab g v p) h.hm (by simp only [putT]; omega), rfl⟩
        rcases hb.put with h4 | h4
        · exact .inl h4
        · exact .inr (by omega)
      · rintro W1 ⟨s1, h1, e1⟩
        refine (rput_ok v h1.ref h1.has.below.size (by omega) hF (by rw [h.rel.len, ← h.hm]; exact hn) (by omega) vw).mono ?_
        rintro e W2 ⟨rfl, A', c', r1, r2, r3⟩
        refine ⟨rfl, s1, l ++ [⟨s.last + 1, v, p, pr0, false⟩], A', c', ?_⟩
        rw [e1]
        exact h1.ref_ r2 r1 (by simp; omega)
    · refine ⟨0, 6, l, s.last, ?_, ?_⟩
      · refine (put_full_i W t s p v h.has.tab hp hby (by omega)).mono ?_
        rintro e W1 ⟨rfl, hb⟩
        exact ⟨rfl, s, (h.below hb).more, rfl⟩
      · rintro W1 ⟨s1, h1, e1⟩
        refine (rput_full v h1.ref (by omega) hF (by rw [h.rel.len, ← h.hm]; omega)).mono ?_
        rintro e W2 ⟨rfl, hb⟩
        exact ⟨rfl, s1, l, A, c, by rw [e1]; exact h1.below hb⟩
  · obtain ⟨N, en, he, hF, hN⟩ := find_yes h.rel h.has.tab hp hby
    refine ⟨0, 7, l, s.last, ?_, ?_⟩
    · refine (put_there_i W t s p v h.has.tab hp hby).mono ?_
      rintro e W1 ⟨rfl, hb⟩
      exact ⟨rfl, s, (h.below hb).more, rfl⟩
    · rintro W1 ⟨s1, h1, e1⟩
      refine (rput_there v h1.ref (by omega) hF hN).mono ?_
      rintro e W2 ⟨rfl, hb⟩
      exact ⟨rfl, s1, l, A, c, by rw [e1]; exact h1.below hb⟩
/-- what a step of both does that may come in a drawn region -/
structure Step2 (w : World) (t b gs most : Nat) (st : St12) (k : Nat) (s : Tab) (l : List PE) (A : Option Addr) (c : Nat) (f g : FuncId) (vt vr : Array Value) (er : Int) (s' : Tab) (l' : List PE) : Prop where
  one : ∀ W, Has TI w W t s → Calls Try.prog f vt W fun e W' => e = .returned (.int .i64 er) ∧ Has TI w W' t s' ∧ Out (Own t s) W W'
  two : ∀ W, RefAt w.heap.size W b most s.last l A c → Calls Try.prog g vr W fun e W' => e = .returned (.int .i64 er) ∧ RefAt w.heap.size W' b most s.last l' A c ∧ Out (ROwn b A) W W'
  rel : Rel s' l'
  most_ : s'.most = s.most
  last_ : s'.last = s.last
  own : ∀ i, Own t s' i → Own t s i
  len : l'.length = l.length
theorem p_bind (h : PT w t b gs most st k s l l s.last A c W) (hk : k < 300) (hp : p.wf) {id : Nat} (hid : id < 18446744073709551616) :
    ∃ er s' l', Step2 w t b gs most st k s l A c 14 15 #[.pointer (some ⟨t, 0, none⟩), .int .u64 (id : Int), .agg #[.int .u32 p.a, .int .u16 p.b, .int .u32 p.c, .int .u16 p.d]] #[.pointer (some ⟨b, 0, none⟩), .int .u64 (id : Int), .agg #[.int .u32 p.a, .int .u16 p.b, .int .u32 p.c, .int .u16 p.d]] er s' l' := by
  have hle := h.le
  have hll := h.len
  have hlm : l.length ≤ 1000000 := by omega
  cases he : s.E id with
  | none =>
    refine ⟨5, s, l, fun W hW => (bind_none_i p hW.tab hid he).mono fun e W' ⟨q1, q2⟩ => ⟨q1, hW.step q2, Out.of_below q2⟩, fun W hW => (rbind_no hW hlm (h.rel.no he)).mono fun e W' ⟨q1, q2⟩ => ⟨q1, hW.below q2, Out.of_below q2⟩, h.rel, rfl, rfl, fun _ h => h, rfl⟩
  | some en =>
    obtain ⟨a, x, r, rfl, rfl, hx⟩ := h.rel.split he
    cases hb : en.bound with
    | true =>
      have hxb : x.bound = true := by rw [← hx.2.2.2]; exact hb
      exact ⟨3, s, _, fun W hW => (bind_state_i p hW.tab hid he hb).mono fun e W' ⟨q1, q2⟩ => ⟨q1, hW.step q2, Out.of_below q2⟩, fun W hW => (rbind_state hW hlm h.rel.sorted hxb).mono fun e W' ⟨q1, q2⟩ => ⟨q1, hW.below q2, Out.of_below q2⟩, h.rel, rfl, rfl, fun _ h => h, rfl⟩
    | false =>
      have hxb : x.bound = false := by rw [← hx.2.2.2]; exact hb
      by_cases hby : s.by_ p = 0
      · obtain ⟨q1, q2⟩ := h.rel.bind he hx hb p
        have hnl := h.has.tab.n_le
        refine ⟨0, _, _, fun W hW => (bind_ok_i W t x.id s p en x.v hW.tab hp he hb hx.1 hby (by omega)).mono ?_, fun W hW => (rbind_ok hW hlm h.rel.sorted hxb (find_no h.rel h.has.tab hby)).mono fun e W' ⟨q1, q2, q3⟩ => ⟨q1, q2, q3⟩, q1, rfl, rfl, fun i hi => own_bind he hi, by simp⟩
        rintro e W' ⟨h1, h2, h3⟩
        exact ⟨h1, hW.out h2 h3 fun b hb => .inl (hb.bind he), h3⟩
      · obtain ⟨N, e2, he2, hF, hN⟩ := find_yes h.rel h.has.tab hp hby
        exact ⟨7, s, _, fun W hW => (bind_there_i W t x.id s p en hW.tab hp he hb hby).mono fun e W' ⟨q1, q2⟩ => ⟨q1, hW.step q2, Out.of_below q2⟩, fun W hW => (rbind_there hW hlm h.rel.sorted hxb hF hN).mono fun e W' ⟨q1, q2⟩ => ⟨q1, hW.below q2, Out.of_below q2⟩, h.rel, rfl, rfl, fun _ h => h, rfl⟩
theorem p_set (h : PT w t b gs most st k s l l s.last A c W) (hk : k < 300) (v : Int) {id : Nat} (hid : id < 18446744073709551616) :
    ∃ er s' l', Step2 w t b gs most st k s l A c 16 17 #[.pointer (some ⟨t, 0, none⟩), .int .u64 (id : Int), .int .i64 v] #[.pointer (some ⟨b, 0, none⟩), .int .u64 (id : Int), .int .i64 v] er s' l' := by
  have hle := h.le
  have hll := h.len
  have hlm : l.length ≤ 1000000 := by omega
  cases he : s.E id with
  | none =>
    exact ⟨5, s, l, fun W hW => (set_no_i v hW.tab hid he).mono fun e W' ⟨q1, q2⟩ => by subst q2; exact ⟨q1, hW, Out.refl _ _⟩, fun W hW => (rset_no v hW hlm (h.rel.no he)).mono fun e W' ⟨q1, q2⟩ => by subst q2; exact ⟨q1, hW, Out.refl _ _⟩, h.rel, rfl, rfl, fun _ h => h, rfl⟩
  | some en =>
    obtain ⟨a, x, r, rfl, rfl, hx⟩ := h.rel.split he
    refine ⟨0, _, _, fun W hW => (set_i v hW.tab hid he).mono ?_, fun W hW => (rset_ok v hW hlm h.rel.sorted).mono fun e W' ⟨q1, q2, q3⟩ => ⟨q1, q2, q3⟩, h.rel.set he hx v, rfl, rfl, fun i hi => own_set x.id _ hi, by simp⟩
    rintro e W' ⟨h1, h2, h3⟩
    have h4 : Out (Own t s) W W' := h3.mono fun i _ e => .inr (.inr (.inr ⟨x.id, en, he, e.symm⟩))
    exact ⟨h1, hW.out h2 h4 fun b hb => .inl (own_set x.id _ hb), h4⟩
theorem drop_one (h : Rel s l) (id : Nat) : ∃ l', Rel (dropT s id) l' ∧ ((hasN s id = 0 ∧ l' = l ∧ ∀ x ∈ l, x.id ≠ id) ∨ (hasN s id = 1 ∧ ∃ a x r, l = a ++ x :: r ∧ x.id = id ∧ l' = a ++ r)) := by
  cases he : s.E id with
  | none => exact ⟨l, by rw [drop_no he]; exact h, .inl ⟨by simp [hasN, he], rfl, h.no he⟩⟩
  | some en =>
    obtain ⟨a, x, r, rfl, rfl, hx⟩ := h.split he
    exact ⟨a ++ r, h.drop he hx, .inr ⟨by simp [hasN, he], a, x, r, rfl, rfl, rfl⟩⟩
theorem r_drop {last : Nat} {s0 : Tab} {l0 : List PE} (h : PT w t b gs most st k s0 l0 l last A c W) (hs : Rel s l) (id : Nat) (hl : (hasN s id = 0 ∧ l' = l ∧ ∀ x ∈ l, x.id ≠ id) ∨ (hasN s id = 1 ∧ ∃ a x r, l = a ++ x :: r ∧ x.id = id ∧ l' = a ++ r)) :
    Calls Try.prog 18 #[.pointer (some ⟨b, 0, none⟩), .int .u64 (id : Int)] W fun e W' => e = .returned (.int .i64 (hasN s id : Int)) ∧ ∃ A' c', PT w t b gs most st k s0 l0 l' last A' c' W' := by
  have hlm := h.lrl
  rcases hl with ⟨h0, rfl, hno⟩ | ⟨h1, a, x, r, rfl, rfl, rfl⟩
  · rw [h0]
    refine (rdrop_no h.ref (by omega) hno).mono ?_
    rintro e W' ⟨rfl, rfl⟩
    exact ⟨rfl, A, c, h⟩
  · rw [h1]
    refine (rdrop_ok h.ref h.has.below.size (by omega) hs.sorted).mono ?_
    rintro e W' ⟨rfl, A', c', r1, r2, r3⟩
    exact ⟨rfl, A', c', h.ref_ r2 r1 (by simp at hlm ⊢; omega)⟩
end
end Go.Proofs.Ytlikngepcbmhdaa
