/- The calls of TableOne's script: each leaves a table that is told by a list of entries. -/
import Derived.Test.YtlikngepcbmhdaaTabR
set_option linter.unusedVariables false
set_option linter.unusedSimpArgs false
namespace Go.Proofs.Ytlikngepcbmhdaa
open Go.ChangeShapes Go.WideShapes Go.ChangeAt Go.RowKit Go.Maps

/-- the table of the law, behind k steps: its last number is told too -/
def S12 (w : World) (t most k last : Nat) (W : World) : Prop := ∃ s l, Has TI w W t s ∧ Rel s l ∧ s.most = most ∧ s.n ≤ most ∧ s.last = last ∧ last ≤ k
section
variable {w W W' : World} {t most k last : Nat}
theorem S12.step (h : S12 w t most k last W) (hb : Below W.heap.size W W') : S12 w t most k last W' := by
  obtain ⟨s, l, h1, h2⟩ := h
  exact ⟨s, l, h1.step hb, h2⟩
theorem S12.more (h : S12 w t most k last W) : S12 w t most (k + 1) last W := by
  obtain ⟨s, l, h1, h2, h3, h4, h5, h6⟩ := h
  exact ⟨s, l, h1, h2, h3, h4, h5, by omega⟩
theorem S12.below (h : S12 w t most k last W) : Below w.heap.size w W := by
  obtain ⟨s, l, h1, _⟩ := h
  exact h1.below
theorem o_put (h : S12 w t most k last W) (hk : k < 300) {p : Pr} (hp : p.wf) (v : Int) :
    Calls Try.prog 8 #[.pointer (some ⟨t, 0, none⟩), .agg #[.int .u32 p.a, .int .u16 p.b, .int .u32 p.c, .int .u16 p.d], .int .i64 v] W fun e W' =>
      (e = .returned (.tuple #[.int .u64 ((last : Int) + 1), .int .i64 0]) ∧ S12 w t most (k + 1) (last + 1) W') ∨ (∃ er : Int, e = .returned (.tuple #[.int .u64 0, .int .i64 er]) ∧ er ≠ 0 ∧ S12 w t most (k + 1) last W') := by
  obtain ⟨s, l, h1, h2, h3, h4, h5, h6⟩ := h
  subst h5
  by_cases hby : s.by_ p = 0
  · by_cases hn : s.n < s.most
    · refine (hput_i p v _ h1 hp hby hn (by omega) rfl).mono ?_
      rintro e W' ⟨g, rfl, hH⟩
      exact .inl ⟨rfl, _, _, hH, h2.put h1.tab g v p, h3, by simp only [putT]; omega, rfl, by omega⟩
    · refine (hfull_i p v h1 hp hby (by omega)).mono ?_
      rintro e W' ⟨rfl, hH⟩
      exact .inr ⟨6, rfl, by decide, s, l, hH, h2, h3, h4, rfl, by omega⟩
  · refine (hthere_i p v h1 hp hby).mono ?_
    rintro e W' ⟨rfl, hH⟩
    exact .inr ⟨7, rfl, by decide, s, l, hH, h2, h3, h4, rfl, by omega⟩
theorem o_bind (h : S12 w t most k last W) {p : Pr} (hp : p.wf) {id : Nat} (hid : id < 18446744073709551616) :
    Calls Try.prog 14 #[.pointer (some ⟨t, 0, none⟩), .int .u64 (id : Int), .agg #[.int .u32 p.a, .int .u16 p.b, .int .u32 p.c, .int .u16 p.d]] W fun e W' =>
      ∃ er : Int, e = .returned (.int .i64 er) ∧ S12 w t most (k + 1) last W' := by
  obtain ⟨s, l, h1, h2, h3, h4, h5, h6⟩ := h
  cases he : s.E id with
  | none =>
    refine (bind_none_i p h1.tab hid he).mono ?_
    rintro e W' ⟨rfl, hb⟩
    exact ⟨5, rfl, s, l, h1.step hb, h2, h3, h4, h5, by omega⟩
  | some en =>
    cases hb : en.bound with
    | true =>
      refine (bind_state_i p h1.tab hid he hb).mono ?_
      rintro e W' ⟨rfl, hb⟩
      exact ⟨3, rfl, s, l, h1.step hb, h2, h3, h4, h5, by omega⟩
    | false =>
      by_cases hby : s.by_ p = 0
      · obtain ⟨a, x, b, rfl, rfl, hx⟩ := h2.split he
        obtain ⟨q1, q2⟩ := h2.bind he hx hb p
        have := h1.tab.n_le
        refine (hbind_i x.id (x.id : Int) p en x.v h1 hp rfl he hb hx.1 hby (by omega)).mono ?_
        rintro e W' ⟨rfl, hH⟩
        exact ⟨0, rfl, _, _, hH, q1, h3, h4, h5, by omega⟩
      · refine (hbthere_i id (id : Int) p en h1 hp rfl he hb hby).mono ?_
        rintro e W' ⟨rfl, hH⟩
        exact ⟨7, rfl, s, l, hH, h2, h3, h4, h5, by omega⟩
theorem o_set (h : S12 w t most k last W) (v : Int) {id : Nat} (hid : id < 18446744073709551616) :
    Calls Try.prog 16 #[.pointer (some ⟨t, 0, none⟩), .int .u64 (id : Int), .int .i64 v] W fun e W' =>
      ∃ er : Int, e = .returned (.int .i64 er) ∧ S12 w t most (k + 1) last W' := by
  obtain ⟨s, l, h1, h2, h3, h4, h5, h6⟩ := h
  cases he : s.E id with
  | none =>
    refine (set_no_i v h1.tab hid he).mono ?_
    rintro e W' ⟨rfl, rfl⟩
    exact ⟨5, rfl, s, l, h1, h2, h3, h4, h5, by omega⟩
  | some en =>
    obtain ⟨a, x, b, rfl, rfl, hx⟩ := h2.split he
    refine (hset_i x.id v en h1 hid he).mono ?_
    rintro e W' ⟨rfl, hH⟩
    exact ⟨0, rfl, _, _, hH, h2.set he hx v, h3, h4, h5, by omega⟩
theorem o_drop (h : S12 w t most k last W) {id : Nat} (hid : id < 18446744073709551616) {r : Nat} (hr : Blk W r 26 #[.int .u64 (id : Int)]) :
    Calls Try.prog 10 #[.pointer (some ⟨t, 0, none⟩), .slice (some ⟨r, 0, none⟩) 1 1] W fun e W' =>
      ∃ er : Int, e = .returned (.int .i64 er) ∧ S12 w t most (k + 1) last W' := by
  obtain ⟨s, l, h1, h2, h3, h4, h5, h6⟩ := h
  refine (hdrop_i r [id] 1 (dropN s [id] : Nat) #[.int .u64 (id : Int)] h1 (by simpa using hid) rfl hr (by simp) 1 rfl rfl).mono ?_
  rintro e W' ⟨rfl, hH⟩
  refine ⟨_, rfl, dropT s id, ?_⟩
  cases he : s.E id with
  | none =>
    have e1 := drop_no he
    have e2 : dropAll s [id] = s := e1
    rw [e2] at hH
    rw [e1]
    exact ⟨l, hH, h2, h3, h4, h5, by omega⟩
  | some en =>
    obtain ⟨a, x, b, rfl, rfl, hx⟩ := h2.split he
    refine ⟨_, hH, h2.drop he hx, ?_⟩
    have e1 : (dropT s x.id).most = s.most ∧ (dropT s x.id).n = s.n - 1 ∧ (dropT s x.id).last = s.last := by
      unfold dropT
      rw [he]
      exact ⟨rfl, rfl, rfl⟩
    exact ⟨by omega, by omega, by omega, by omega⟩
theorem o_new (w : World) (most : Nat) (m : Int) (hm : (most : Int) = m) (h : most ≤ 1024) : Calls Try.prog 7 #[.int .i64 m] w fun e w' => ∃ t, e = .returned (.tuple #[.pointer (some ⟨t, 0, none⟩), .int .i64 0]) ∧ S12 w t most 0 0 w' := by
  refine (hnew_i w most m hm h).mono ?_
  rintro e W' ⟨t, ba, bb, rfl, h1⟩
  exact ⟨t, rfl, _, [], h1, Rel.new _ _ _, rfl, Nat.zero_le _, rfl, Nat.le_refl _⟩
/-- where the numbers of the entries stand -/
def IdsAt (W : World) (l : List PE) (A : Option Addr) : Prop := l ≠ [] → ∃ g, A = some ⟨g, 0, none⟩ ∧ S64.RowK W g 0 (l.map fun x => (x.id : Int)).toArray
theorem IdsAt.grown {l : List PE} {A : Option Addr} {row : Option Nat} (h : IdsAt W l A) (hb : W.grownBy W' row) (hA : ∀ g, A = some ⟨g, 0, none⟩ → some g ≠ row) : IdsAt W' l A := fun hl => by
  obtain ⟨g, e, hr⟩ := h hl
  exact ⟨g, e, hr.grown hb (hA g e)⟩
theorem IdsAt.below {l : List PE} {A : Option Addr} (h : IdsAt W l A) (hb : Below W.heap.size W W') : IdsAt W' l A := fun hl => by
  obtain ⟨g, e, hr⟩ := h hl
  exact ⟨g, e, hr.below hb⟩
theorem IdsAt.cell {l : List PE} {A : Option Addr} (h : IdsAt W l A) {j : Nat} (hj : j < l.length) : ∃ g, A = some ⟨g, 0, none⟩ ∧ g < W.heap.size ∧ W.cell? ⟨g, j, none⟩ = some (.int .u64 (l[j].id : Int)) := by
  obtain ⟨g, e, hr⟩ := h (by intro e; subst e; simp at hj)
  refine ⟨g, e, hr.lt, ?_⟩
  have hj' : j < (l.map fun x => (x.id : Int)).toArray.size := by simpa using hj
  have := hr.cell hj'
  rw [getElem!_pos _ j hj', Nat.zero_add] at this
  simpa using this
theorem o_all {s : Tab} {l : List PE} (h1 : Has TI w W t s) (h2 : Rel s l) (hn : s.n ≤ 1000000) :
    Calls Try.prog 21 #[.pointer (some ⟨t, 0, none⟩)] W fun e W' =>
      ∃ A cap, e = .returned (.slice A l.length cap) ∧ IdsAt W' l A ∧ (∀ g, A = some ⟨g, 0, none⟩ → W.heap.size ≤ g ∧ g < W'.heap.size) ∧ Below W.heap.size W W' ∧ Has TI w W' t s := by
  refine (hall_i h1 hn).mono ?_
  rintro e W' ⟨v, ss, rfl, hk, ⟨A, cap, rfl, hA⟩, hb, hH⟩
  have ha := h2.all h1.tab hk
  refine ⟨A, cap, by rw [h2.len], ?_, ?_, hb, hH⟩
  · intro hl
    rcases hA with ⟨_, e1⟩ | ⟨g, e1, _, hr⟩
    · exact absurd (List.eq_nil_of_length_eq_zero (by rw [h2.len]; exact e1)) hl
    · exact ⟨g, e1, by rw [← ha]; exact hr⟩
  · intro g hg
    rcases hA with ⟨e1, _⟩ | ⟨g', e1, e2, hr⟩
    · rw [e1] at hg; cases hg
    · rw [e1] at hg
      injection hg with hg
      injection hg with hg
      subst hg
      exact ⟨e2, hr.lt⟩
end
end Go.Proofs.Ytlikngepcbmhdaa
