/- The table against a plain list of entries, by rising numbers. -/
import Derived.Test.YtlikngepcbmhdaaTabN
set_option linter.unusedVariables false
set_option linter.unusedSimpArgs false
namespace Go.Proofs.Ytlikngepcbmhdaa
open Go.ChangeShapes Go.WideShapes Go.ChangeAt Go.RowKit Go.Maps

/-- an entry, as the law and the reference know it -/
structure PE where
  id : Nat
  v : Int
  near : Pr
  far : Pr
  bound : Bool
def PE.of (x : PE) (e : Ent) : Prop := e.v = .int .i64 x.v ∧ e.near = x.near ∧ e.far = x.far ∧ e.bound = x.bound
def PE.bind (x : PE) (p : Pr) : PE := { x with far := p, bound := true }
def PE.set (x : PE) (v : Int) : PE := { x with v := v }
def bcount (l : List PE) : Nat := (l.filter (fun x => x.bound)).length
theorem bcount_append (a b : List PE) : bcount (a ++ b) = bcount a + bcount b := by simp [bcount]
theorem bcount_cons (x : PE) (b : List PE) : bcount (x :: b) = (if x.bound = true then 1 else 0) + bcount b := by
  unfold bcount
  rw [List.filter_cons]
  split <;> simp <;> omega
theorem bcount_le (l : List PE) : bcount l ≤ l.length := List.length_filter_le _ _
structure Rel (s : Tab) (l : List PE) : Prop where
  sorted : l.Pairwise (fun a b => a.id < b.id)
  len : l.length = s.n
  cnt : s.m = s.n + bcount l
  to_ : ∀ i e, s.E i = some e → ∃ x ∈ l, x.id = i ∧ x.of e
  from_ : ∀ x ∈ l, ∃ e, s.E x.id = some e ∧ x.of e
section
variable {s : Tab} {l a b : List PE} {x : PE}
theorem sorted_unique (h : l.Pairwise (fun a b => a.id < b.id)) {x y : PE} (hx : x ∈ l) (hy : y ∈ l) (he : x.id = y.id) : x = y := by
  induction l with
  | nil => cases hx
  | cons z l ih =>
    rw [List.pairwise_cons] at h
    rcases List.mem_cons.1 hx with e1 | hx'
    · rcases List.mem_cons.1 hy with e2 | hy'
      · rw [e1, e2]
      · have := h.1 y hy'; rw [e1] at he; omega
    · rcases List.mem_cons.1 hy with e2 | hy'
      · have := h.1 x hx'; rw [e2] at he; omega
      · exact ih h.2 hx' hy'
theorem Rel.new (most ba bb : Nat) : Rel (newT most ba bb) [] := ⟨List.Pairwise.nil, rfl, rfl, fun i e h => by simp [newT] at h, fun x h => by cases h⟩
theorem Rel.split (h : Rel s l) {i : Nat} {e : Ent} (he : s.E i = some e) : ∃ a x b, l = a ++ x :: b ∧ x.id = i ∧ x.of e := by
  obtain ⟨x, hx, h1, h2⟩ := h.to_ i e he
  obtain ⟨a, b, rfl⟩ := List.append_of_mem hx
  exact ⟨a, x, b, rfl, h1, h2⟩
theorem Rel.no (h : Rel s l) {i : Nat} (he : s.E i = none) : ∀ x ∈ l, x.id ≠ i := fun x hx e => by
  obtain ⟨f, hf, _⟩ := h.from_ x hx
  rw [e, he] at hf
  cases hf
theorem split_ids (h : (a ++ x :: b).Pairwise (fun a b => a.id < b.id)) : (∀ y ∈ a, y.id < x.id) ∧ (∀ y ∈ b, x.id < y.id) := by
  rw [List.pairwise_append, List.pairwise_cons] at h
  exact ⟨fun y hy => h.2.2 y hy x List.mem_cons_self, h.2.1.1⟩
theorem sorted_swap {x' : PE} (h : (a ++ x :: b).Pairwise (fun a b => a.id < b.id)) (hi : x'.id = x.id) : (a ++ x' :: b).Pairwise (fun a b => a.id < b.id) := by
  rw [List.pairwise_append, List.pairwise_cons] at h ⊢
  refine ⟨h.1, ⟨fun y hy => by rw [hi]; exact h.2.1.1 y hy, h.2.1.2⟩, fun y hy z hz => ?_⟩
  rcases List.mem_cons.1 hz with rfl | hz
  · rw [hi]; exact h.2.2 y hy x List.mem_cons_self
  · exact h.2.2 y hy z (List.mem_cons_of_mem _ hz)
theorem sorted_drop (h : (a ++ x :: b).Pairwise (fun a b => a.id < b.id)) : (a ++ b).Pairwise (fun a b => a.id < b.id) :=
  h.sublist (List.Sublist.append (List.Sublist.refl a) (List.sublist_cons_self x b))
theorem Rel.put {T : TT} {W : World} {t : Nat} (h : Rel s l) (ht : TabAt T W t s) (g : Nat) (v : Int) (p : Pr) : Rel (putT s g (.int .i64 v) p) (l ++ [⟨s.last + 1, v, p, pr0, false⟩]) := by
  have hid : ∀ x ∈ l, x.id ≤ s.last := fun x hx => by
    obtain ⟨e, he, _⟩ := h.from_ x hx
    exact (ht.ents _ e he).2.1
  refine ⟨?_, ?_, ?_, ?_, ?_⟩
  · rw [List.pairwise_append]
    refine ⟨h.sorted, by simp, fun y hy z hz => ?_⟩
    obtain rfl := List.mem_singleton.1 hz
    have := hid y hy
    show y.id < s.last + 1
    omega
  · rw [List.length_append, h.len]
    rfl
  · rw [bcount_append]
    have := h.cnt
    show s.m + 1 = s.n + 1 + (_ + bcount [_])
    simp [bcount] at this ⊢
    omega
  · intro i e he
    simp only [putT] at he
    split at he
    · rename_i hi
      injection he with he
      subst he
      exact ⟨_, List.mem_append_right _ (List.mem_singleton.2 rfl), hi.symm, rfl, rfl, rfl, rfl⟩
    · obtain ⟨x, hx, h1⟩ := h.to_ i e he
      exact ⟨x, List.mem_append_left _ hx, h1⟩
  · intro x hx
    rcases List.mem_append.1 hx with hx | hx
    · obtain ⟨e, he, h1⟩ := h.from_ x hx
      have := hid x hx
      refine ⟨e, ?_, h1⟩
      simp only [putT]
      rw [if_neg (by omega)]
      exact he
    · obtain rfl := List.mem_singleton.1 hx
      exact ⟨⟨g, .int .i64 v, p, pr0, false⟩, by simp [putT], rfl, rfl, rfl, rfl⟩
/-- one entry becomes another one of the same number -/
theorem Rel.swap {s' : Tab} {x' : PE} {e' : Ent} (h : Rel s (a ++ x :: b)) (hi : x'.id = x.id) (hE : ∀ i, s'.E i = if i = x.id then some e' else s.E i) (ho : x'.of e') (hn : s'.n = s.n) (hm : s'.m = s'.n + bcount (a ++ x' :: b)) : Rel s' (a ++ x' :: b) := by
  obtain ⟨q1, q2⟩ := split_ids h.sorted
  refine ⟨sorted_swap h.sorted hi, ?_, hm, ?_, ?_⟩
  · have := h.len
    simp at this ⊢
    omega
  · intro i e he
    rw [hE] at he
    split at he
    · injection he with he
      subst he
      exact ⟨x', by simp, by omega, ho⟩
    · rename_i hne
      obtain ⟨y, hy, h1, h2⟩ := h.to_ i e he
      refine ⟨y, ?_, h1, h2⟩
      rcases List.mem_append.1 hy with hy | hy
      · exact List.mem_append_left _ hy
      · rcases List.mem_cons.1 hy with rfl | hy
        · exact absurd h1.symm hne
        · exact List.mem_append_right _ (List.mem_cons_of_mem _ hy)
  · intro y hy
    have hy' : y = x' ∨ (y ∈ a ++ x :: b ∧ y.id ≠ x.id) := by
      rcases List.mem_append.1 hy with hy | hy
      · have := q1 y hy
        exact .inr ⟨List.mem_append_left _ hy, by omega⟩
      · rcases List.mem_cons.1 hy with rfl | hy
        · exact .inl rfl
        · have := q2 y hy
          exact .inr ⟨List.mem_append_right _ (List.mem_cons_of_mem _ hy), by omega⟩
    rcases hy' with rfl | ⟨hy, hne⟩
    · exact ⟨e', by rw [hE, if_pos hi], ho⟩
    · obtain ⟨e, he, h1⟩ := h.from_ y hy
      exact ⟨e, by rw [hE, if_neg hne]; exact he, h1⟩
theorem Rel.bind {e : Ent} (h : Rel s (a ++ x :: b)) (he : s.E x.id = some e) (hx : x.of e) (hnb : e.bound = false) (p : Pr) : Rel (bindT s x.id e p) (a ++ x.bind p :: b) ∧ s.m + 1 ≤ 2 * s.n := by
  have hc := h.cnt
  have hl := h.len
  have hxb : x.bound = false := by rw [← hx.2.2.2]; exact hnb
  rw [bcount_append, bcount_cons, if_neg (by rw [hxb]; decide)] at hc
  refine ⟨h.swap rfl (fun i => rfl) (e' := bEnt e p) ⟨hx.1, hx.2.1, rfl, rfl⟩ rfl ?_, ?_⟩
  · rw [bcount_append, bcount_cons, if_pos (show (x.bind p).bound = true from rfl)]
    show s.m + 1 = s.n + _
    omega
  · have h1 := bcount_le a
    have h2 := bcount_le b
    simp at hl
    omega
theorem Rel.set {e : Ent} (h : Rel s (a ++ x :: b)) (he : s.E x.id = some e) (hx : x.of e) (v : Int) : Rel (setT s x.id (.int .i64 v)) (a ++ x.set v :: b) := by
  have hc := h.cnt
  refine h.swap rfl (e' := { e with v := .int .i64 v }) (fun i => ?_) ⟨rfl, hx.2.1, hx.2.2.1, hx.2.2.2⟩ rfl ?_
  · rw [set_E]
    by_cases hi : i = x.id
    · subst hi
      rw [if_pos rfl, if_pos rfl, he]
      rfl
    · rw [if_neg hi, if_neg hi]
  · rw [bcount_append, bcount_cons] at hc ⊢
    exact hc
theorem Rel.drop {e : Ent} (h : Rel s (a ++ x :: b)) (he : s.E x.id = some e) (hx : x.of e) : Rel (dropT s x.id) (a ++ b) := by
  have hc := h.cnt
  have hl := h.len
  obtain ⟨q1, q2⟩ := split_ids h.sorted
  have hd : dropT s x.id = { s with n := s.n - 1, m := if e.bound then s.m - 1 - 1 else s.m - 1, E := fun j => if j = x.id then none else s.E j, by_ := fun y => if y = e.near then 0 else if e.bound = true ∧ y = e.far then 0 else s.by_ y } := by
    unfold dropT
    rw [he]
  rw [hd]
  rw [bcount_append, bcount_cons] at hc
  simp at hl
  refine ⟨sorted_drop h.sorted, ?_, ?_, ?_, ?_⟩
  · simp
    omega
  · rw [bcount_append]
    rw [← hx.2.2.2] at hc
    simp only
    cases hb : e.bound
    · rw [hb] at hc
      simp at hc ⊢
      omega
    · rw [hb] at hc
      simp at hc ⊢
      omega
  · intro i f hf
    simp only at hf
    split at hf
    · cases hf
    · rename_i hne
      obtain ⟨y, hy, h1, h2⟩ := h.to_ i f hf
      refine ⟨y, ?_, h1, h2⟩
      rcases List.mem_append.1 hy with hy | hy
      · exact List.mem_append_left _ hy
      · rcases List.mem_cons.1 hy with rfl | hy
        · exact absurd h1.symm hne
        · exact List.mem_append_right _ hy
  · intro y hy
    have hy' : y ∈ a ++ x :: b ∧ y.id ≠ x.id := by
      rcases List.mem_append.1 hy with hy | hy
      · have := q1 y hy
        exact ⟨List.mem_append_left _ hy, by omega⟩
      · have := q2 y hy
        exact ⟨List.mem_append_right _ (List.mem_cons_of_mem _ hy), by omega⟩
    obtain ⟨f, hf, h1⟩ := h.from_ y hy'.1
    refine ⟨f, ?_, h1⟩
    simp only
    rw [if_neg hy'.2]
    exact hf
theorem drop_no {id : Nat} (he : s.E id = none) : dropT s id = s := by
  unfold dropT
  rw [he]
theorem dropN_one (id : Nat) : dropN s [id] = hasN s id := by simp [dropN]
/-- the numbers that All tells -/
theorem Rel.all {W : World} {t : Nat} {ss : List Int} (h : Rel s l) (ht : TabAt TI W t s) (hk : S64.KeysAre (allM s.E) s.n ss) : S64.ordered ss = l.map fun x => (x.id : Int) := by
  obtain ⟨k1, k2, k3, k4⟩ := hk
  have hlt : ∀ x ∈ l, x.id ≤ s.last := fun x hx => by
    obtain ⟨e, he, _⟩ := h.from_ x hx
    exact (ht.ents _ e he).2.1
  have hll := ht.last_le
  have hp : (S64.ordered ss).Perm (l.map fun x => (x.id : Int)) := by
    refine (S64.ordered_perm ss).trans ?_
    refine (List.perm_ext_iff_of_nodup k1 ?_).2 fun i => ?_
    · refine (List.pairwise_map.2 ?_ : List.Pairwise _ _)
      exact h.sorted.imp fun h => by omega
    · constructor
      · intro hi
        have hw := k3 i hi
        have := (k4 i hw).1 hi
        simp only [allM, Option.isSome_map] at this
        obtain ⟨e, he⟩ := Option.isSome_iff_exists.1 this
        obtain ⟨x, hx, h1, _⟩ := h.to_ _ e he
        have h0 : 0 ≤ i := (bounds_u64 hw).1
        exact List.mem_map.2 ⟨x, hx, by omega⟩
      · intro hi
        obtain ⟨x, hx, rfl⟩ := List.mem_map.1 hi
        obtain ⟨e, he, _⟩ := h.from_ x hx
        have hw : S64.isKey (x.id : Int) := by
          have := hlt x hx
          simp [S64.isKey, Lit.wf, IntKind.min, IntKind.max, IntKind.signed, IntKind.bits]
          omega
        rw [k4 _ hw]
        simp only [allM, Int.toNat_natCast, he]
        rfl
  refine hp.eq_of_pairwise (le := fun x y : Int => x ≤ y) (fun a b _ _ h1 h2 => Int.le_antisymm h1 h2) (S64.ordered_sorted ss) ?_
  refine List.pairwise_map.2 ?_
  exact h.sorted.imp fun h => by omega
end
end Go.Proofs.Ytlikngepcbmhdaa
