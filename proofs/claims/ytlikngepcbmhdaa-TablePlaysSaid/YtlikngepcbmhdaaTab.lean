/- Layer 12 (table): what a table is in memory; what becomes of it. -/
import Derived.Test.YtlikngepcbmhdaaTabKeys
import Derived.Test.YtlikngepcbmhdaaFlowUB
set_option linter.unusedVariables false
set_option linter.unusedSimpArgs false
namespace Go.Proofs.Ytlikngepcbmhdaa
open Go.ChangeShapes Go.WideShapes Go.ChangeAt Go.RowKit Go.Maps

/-- an entry: where it lies, and what it has -/
structure Ent where
  blk : Nat
  v : Value
  near : Pr
  far : Pr
  bound : Bool
def entCells (e : Ent) : Array Value := #[e.v, .int .u32 e.near.a, .int .u16 e.near.b, .int .u32 e.near.c, .int .u16 e.near.d, .int .u32 e.far.a, .int .u16 e.far.b, .int .u32 e.far.c, .int .u16 e.far.d, .bool e.bound]
def entPtr (e : Ent) : Value := .pointer (some ⟨e.blk, 0, none⟩)
/-- a table: at most how many, the last number, where its maps lie, how many entries, and pairs; its entries; which entry a pair leads to (0: none) -/
structure Tab where
  most : Nat
  last : Nat
  ba : Nat
  bb : Nat
  n : Nat
  m : Nat
  E : Nat → Option Ent
  by_ : Pr → Nat
/-- the types of a table: the table's, the entry's, that of its map -/
structure TT where
  tab : TypeId
  ent : TypeId
def tabCells (s : Tab) : Array Value := #[.int .i64 (s.most : Int), .int .u64 (s.last : Int), .map (some s.ba), .map (some s.bb)]
def allM (E : Nat → Option Ent) : Lit → Option Value := fun kl => match kl with
  | .int .u64 i => (E i.toNat).map entPtr
  | _ => none
def byM (M : Lit → Option Value) (f : Pr → Nat) : Prop := ∀ p : Pr, p.wf → M (pairL p) = if f p = 0 then none else some (.int .u64 (f p : Int))
/-- block t of w is the table s -/
structure TabAt (T : TT) (w : World) (t : Nat) (s : Tab) : Prop where
  blk : Blk w t T.tab (tabCells s)
  all_ : MapIs Try.prog 26 w s.ba s.n (allM s.E)
  by_ : ∃ M, MapIs Try.prog 34 w s.bb s.m M ∧ byM M s.by_
  ents : ∀ i e, s.E i = some e → 1 ≤ i ∧ i ≤ s.last ∧ Blk w e.blk T.ent (entCells e) ∧ e.near.wf ∧ e.far.wf
  apart : ∀ i j e f, s.E i = some e → s.E j = some f → e.blk = f.blk → i = j
  diff : s.ba ≠ s.bb
  n_le : s.n ≤ s.last
  m_le : s.m ≤ 2 * s.last
  last_le : s.last ≤ 1000000
  leads : ∀ p, p.wf → s.by_ p ≠ 0 → ∃ e, s.E (s.by_ p) = some e ∧ (e.near = p ∨ e.bound = true ∧ e.far = p)
  led : ∀ i e, s.E i = some e → s.by_ e.near = i ∧ (e.bound = true → s.by_ e.far = i ∧ e.near ≠ e.far)
/-- the blocks of a table -/
def Own (t : Nat) (s : Tab) (b : Nat) : Prop := b = t ∨ b = s.ba ∨ b = s.bb ∨ ∃ i e, s.E i = some e ∧ e.blk = b
section
variable {T : TT} {w w' : World} {t : Nat} {s : Tab}
theorem Blk.of_eq {w w' : World} {g : Nat} {T : TypeId} {cs : Array Value} (h : Blk w g T cs) (he : w'.heap[g]? = w.heap[g]?) : Blk w' g T cs := he.trans h
theorem MapIs.of_eq {P : Program} {k : TypeId} {w w' : World} {b n : Nat} {M : Lit → Option Value} (h : MapIs P k w b n M) (he : w'.heap[b]? = w.heap[b]?) : MapIs P k w' b n M := by
  obtain ⟨D, ⟨es, clock, h1, r⟩, h2⟩ := h
  exact ⟨D, ⟨es, clock, he.trans h1, r⟩, h2⟩
theorem TabAt.keep (h : TabAt T w t s) (hk : ∀ i, i < w.heap.size → Own t s i → w'.heap[i]? = w.heap[i]?) : TabAt T w' t s where
  blk := h.blk.of_eq (hk _ h.blk.lt (.inl rfl))
  all_ := h.all_.of_eq (hk _ h.all_.lt (.inr (.inl rfl)))
  by_ := by obtain ⟨M, h1, h2⟩ := h.by_; exact ⟨M, h1.of_eq (hk _ h1.lt (.inr (.inr (.inl rfl)))), h2⟩
  ents := fun i e he => by obtain ⟨h1, h2, h3, h4⟩ := h.ents i e he; exact ⟨h1, h2, h3.of_eq (hk _ h3.lt (.inr (.inr (.inr ⟨i, e, he, rfl⟩)))), h4⟩
  apart := h.apart
  diff := h.diff
  n_le := h.n_le
  m_le := h.m_le
  last_le := h.last_le
  leads := h.leads
  led := h.led
theorem TabAt.below (h : TabAt T w t s) (hb : Below w.heap.size w w') : TabAt T w' t s := h.keep fun i hi _ => hb.block i hi
theorem TabAt.alloc (h : TabAt T w t s) (o : Obj) : TabAt T (w.alloc o) t s := h.below ((Below.refl _ _).alloc (Nat.le_refl _) _)
theorem TabAt.drew (h : TabAt T w t s) : TabAt T w.drew t s := h.keep fun _ _ _ => rfl
theorem TabAt.drewN (h : TabAt T w t s) (n : Nat) : TabAt T (w.drewN n) t s := h.keep fun _ _ _ => rfl
theorem TabAt.lt (h : TabAt T w t s) {b : Nat} (hb : Own t s b) : b < w.heap.size := by
  rcases hb with rfl | rfl | rfl | ⟨i, e, he, rfl⟩
  · exact h.blk.lt
  · exact h.all_.lt
  · obtain ⟨M, h1, _⟩ := h.by_; exact h1.lt
  · exact (h.ents i e he).2.2.1.lt
theorem TabAt.look_by (h : TabAt T w t s) {p : Pr} (hp : p.wf) : (Instr.lookup 65 (.map (some s.bb)) (.agg #[.int .u32 p.a, .int .u16 p.b, .int .u32 p.c, .int .u16 p.d]) false).run Try.prog w = .ok (.int .u64 (s.by_ p : Int)) w := by
  obtain ⟨M, h1, h2⟩ := h.by_
  have e := h1.look lawPair Try.underlying65 (zero64 w) (key_pair hp)
  rw [h2 p hp] at e
  by_cases hz : s.by_ p = 0
  · rw [if_pos hz] at e
    rw [hz]; exact e
  · rw [if_neg hz] at e
    exact e
end
def pr0 : Pr := ⟨0, 0, 0, 0⟩
theorem pr0_wf : pr0.wf := ⟨by decide, by decide, by decide, by decide⟩
/-- a new entry is put -/
def putT (s : Tab) (g : Nat) (v : Value) (p : Pr) : Tab := { s with last := s.last + 1, n := s.n + 1, m := s.m + 1, E := fun i => if i = s.last + 1 then some ⟨g, v, p, pr0, false⟩ else s.E i, by_ := fun x => if x = p then s.last + 1 else s.by_ x }
theorem put_at {T : TT} {w w' : World} {t : Nat} {s : Tab} {p : Pr} {v : Value} {g : Nat} {M : Lit → Option Value} (h : TabAt T w t s) (hp : p.wf) (hby : s.by_ p = 0) (hn : s.last < 1000000)
    (hk : Blk w' t T.tab #[.int .i64 (s.most : Int), .int .u64 ((s.last : Int) + 1), .map (some s.ba), .map (some s.bb)])
    (ha : MapIs Try.prog 26 w' s.ba (s.n + 1) (updM (allM s.E) (.int .u64 ((s.last : Int) + 1)) (some (.pointer (some ⟨g, 0, none⟩)))))
    (hb : MapIs Try.prog 34 w' s.bb (s.m + 1) (updM M (pairL p) (some (.int .u64 ((s.last : Int) + 1))))) (hM : byM M s.by_)
    (hg : Blk w' g T.ent (entCells ⟨g, v, p, pr0, false⟩)) (hge : w.heap.size ≤ g) (hte : T.tab ≠ T.ent) (ho : Out (fun i => i = t ∨ i = s.ba ∨ i = s.bb) w w') : TabAt T w' t (putT s g v p) where
  blk := hk
  all_ := by
    refine ha.congr ?_ rfl
    funext kl
    unfold updM putT allM
    split
    · rename_i e
      subst e
      simp only
      rw [if_pos (by omega)]
      rfl
    · rename_i e
      split
      · rename_i i
        simp only
        rw [if_neg]
        intro e2
        apply e
        rw [show i = (s.last : Int) + 1 by omega]
      · rfl
  by_ := by
    refine ⟨_, hb, ?_⟩
    intro x hx
    by_cases e : x = p
    · subst e
      rw [updM_same]
      simp [putT]
    · rw [updM_other _ _ (fun e2 => e (pairL_inj hx hp e2)), hM x hx]
      simp [putT, e]
  ents := by
    intro i e he
    simp only [putT] at he ⊢
    split at he
    · injection he with he
      subst he
      exact ⟨by omega, by omega, hg, hp, pr0_wf⟩
    · obtain ⟨h1, h2, h3, h4⟩ := h.ents i e he
      refine ⟨h1, by omega, h3.of_eq (ho.block _ h3.lt ?_), h4⟩
      rintro (e1 | e1 | e1)
      · rw [e1] at h3; exact Blk.ne_ h.blk h3 hte rfl
      · rw [e1] at h3; obtain ⟨es, c, q1, _⟩ := h.all_.size; unfold Blk at h3; rw [q1] at h3; injection h3 with h3; injection h3
      · rw [e1] at h3; obtain ⟨M2, q, _⟩ := h.by_; obtain ⟨es, c, q1, _⟩ := q.size; unfold Blk at h3; rw [q1] at h3; injection h3 with h3; injection h3
  apart := by
    intro i j e f he hf hef
    simp only [putT] at he hf
    split at he <;> split at hf
    · omega
    · injection he with he
      subst he
      have := (h.ents j f hf).2.2.1.lt
      simp only at hef
      omega
    · injection hf with hf
      subst hf
      have := (h.ents i e he).2.2.1.lt
      simp only at hef
      omega
    · exact h.apart i j e f he hf hef
  diff := h.diff
  n_le := by have := h.n_le; simp only [putT]; omega
  m_le := by have := h.m_le; simp only [putT]; omega
  last_le := by simp only [putT]; omega
  leads := by
    intro x hx hne
    simp only [putT] at hne ⊢
    by_cases e : x = p
    · subst e
      rw [if_pos rfl, if_pos rfl]
      exact ⟨_, rfl, .inl rfl⟩
    · rw [if_neg e] at hne ⊢
      obtain ⟨f, hf, hh⟩ := h.leads x hx hne
      have := (h.ents _ f hf).2.1
      rw [if_neg (by omega)]
      exact ⟨f, hf, hh⟩
  led := by
    intro i e he
    simp only [putT] at he ⊢
    split at he
    · injection he with he
      subst he
      simp_all
    · obtain ⟨h1, h2⟩ := h.led i e he
      have hi := (h.ents i e he).1
      have hne : e.near ≠ p := fun e1 => by rw [e1, hby] at h1; omega
      rw [if_neg hne]
      refine ⟨h1, fun hb => ?_⟩
      obtain ⟨h3, h4⟩ := h2 hb
      have hne2 : e.far ≠ p := fun e1 => by rw [e1, hby] at h3; omega
      rw [if_neg hne2]
      exact ⟨h3, h4⟩
/-- the two maps, ahead of a new entry -/
structure PutTwo (mt : TypeId) (s : Tab) (p : Pr) (M : Lit → Option Value) (Wx : World) (q : Two) (stA stB : Nat) : Prop where
  b1 : q.b1 = s.ba
  b2 : q.b2 = s.bb
  ok : TwoOk q Wx.heap.size
  u0 : ∀ u ∈ UTwo q 21 23 24 26, u.2 Wx.drew
  e21 : ∀ W, STwo q Wx W → untilU (UTwo q 21 23 24 26) 21 W → ∃ W', (Instr.mapEntry mt (.map (some s.ba)) (.int .u64 ((s.last : Int) + 1))).run Try.prog W = .ok (.tuple #[.pointer none, goInt stA]) W' ∧ F1 q [] W' ∧ STwo q Wx W' ∧ RTwo q 21 23 24 26 21 W W'
  e23 : ∀ W g, STwo q Wx W → F1 q [] W → untilU (UTwo q 21 23 24 26) 23 W → ∃ W', (Instr.entryStore mt (.map (some s.ba)) (goInt stA) (.pointer (some ⟨g, 0, none⟩))).run Try.prog W = .ok () W' ∧ F2 q [.pointer (some ⟨g, 0, none⟩)] W' ∧ STwo q Wx W' ∧ RTwo q 21 23 24 26 23 W W'
  e24 : ∀ W, STwo q Wx W → untilU (UTwo q 21 23 24 26) 24 W → ∃ W', (Instr.mapEntry 65 (.map (some s.bb)) (.agg #[.int .u32 p.a, .int .u16 p.b, .int .u32 p.c, .int .u16 p.d])).run Try.prog W = .ok (.tuple #[.int .u64 0, goInt stB]) W' ∧ F3 q [] W' ∧ STwo q Wx W' ∧ RTwo q 21 23 24 26 24 W W'
  e26 : ∀ W, STwo q Wx W → F3 q [] W → untilU (UTwo q 21 23 24 26) 26 W → ∃ W', (Instr.entryStore 65 (.map (some s.bb)) (goInt stB) (.int .u64 ((s.last : Int) + 1))).run Try.prog W = .ok () W' ∧ F4 q [] W' ∧ STwo q Wx W' ∧ RTwo q 21 23 24 26 26 W W'
  f2 : ∀ W g, F2 q [.pointer (some ⟨g, 0, none⟩)] W → MapIs Try.prog 26 W s.ba (s.n + 1) (updM (allM s.E) (.int .u64 ((s.last : Int) + 1)) (some (.pointer (some ⟨g, 0, none⟩))))
  f4 : ∀ W, F4 q [] W → MapIs Try.prog 34 W s.bb (s.m + 1) (updM M (pairL p) (some (.int .u64 ((s.last : Int) + 1))))
theorem put_two {T : TT} {mt e : TypeId} (hmt : Try.prog.underlying mt = some (.map 26 e)) (hz : ∀ u : World, (zeroValue e).run Try.prog u = .ok (.pointer none) u) {w Wx : World} {t : Nat} {s : Tab} {p : Pr} (h : TabAt T w t s) (hp : p.wf) (hby : s.by_ p = 0) (hl : s.last < 1000000)
    (ho : Out (fun i => i = t) w Wx) : ∃ M q stA stB, byM M s.by_ ∧ s.ba ≠ t ∧ s.bb ≠ t ∧ s.ba < w.heap.size ∧ s.bb < w.heap.size ∧ PutTwo mt s p M Wx q stA stB := by
  have hat : s.ba ≠ t := by
    intro e
    obtain ⟨es, c, q1, _⟩ := h.all_.size
    have := h.blk
    unfold Blk at this
    rw [← e, q1] at this
    injection this with this
    injection this
  obtain ⟨MB, hmb, hMB⟩ := h.by_
  have hbt : s.bb ≠ t := by
    intro e
    obtain ⟨es, c, q1, _⟩ := hmb.size
    have := h.blk
    unfold Blk at this
    rw [← e, q1] at this
    injection this with this
    injection this
  have hla : s.ba < w.heap.size := h.all_.lt
  have hlb : s.bb < w.heap.size := hmb.lt
  have hnl := h.n_le
  have hml := h.m_le
  have ka : keyOf Try.prog 26 (.int .u64 ((s.last : Int) + 1)) = some (.int .u64 ((s.last : Int) + 1)) := key_u64i (by omega) (by omega)
  have kb := key_pair hp
  have na : allM s.E (.int .u64 ((s.last : Int) + 1)) = none := by
    unfold allM
    simp only [Option.map_eq_none_iff]
    cases he : s.E ((s.last : Int) + 1).toNat with
    | none => rfl
    | some e => have := (h.ents _ e he).2.1; omega
  have nb : MB (pairL p) = none := by rw [hMB _ hp, if_pos hby]
  have hma := h.all_.of_eq (ho.block _ hla hat)
  have hmb := hmb.of_eq (ho.block _ hlb hbt)
  obtain ⟨stA, A0, A1, A2, a1, a2, a3, a4, a5, a6, a7⟩ := hma.entry law64 hmt (by unfold maxLen; omega) hz ka na
  obtain ⟨stB, B0, B1, B2, b1, b2, b3, b4, b5, b6, b7⟩ := hmb.entry lawPair Try.underlying65 (by unfold maxLen; omega) zero64 kb nb
  refine ⟨MB, ⟨s.ba, s.bb, A0, A1, A2, B0, B1, B2, .int .u64 ((s.last : Int) + 1)⟩, stA, stB, hMB, hat, hbt, hla, hlb, rfl, rfl, ?_, ?_, ?_, ?_, ?_, ?_, ?_, ?_⟩
  · exact ⟨h.diff, Nat.lt_of_lt_of_le hla ho.size, Nat.lt_of_lt_of_le hlb ho.size, a5, a6, fun g => a7 _ (fun e => by cases e), b5, b6 _, b7 _ (by intro e; injection e with _ e; omega)⟩
  · intro u hu
    simp only [UTwo, List.mem_cons, List.mem_nil_iff, or_false] at hu
    rcases hu with rfl | rfl | rfl | rfl
    · exact a1
    · exact .inl a1
    · exact b1
    · exact .inl b1
  · intro W hS hut
    have h0 := hut _ (List.mem_cons_self) rfl
    exact ⟨_, a2 W h0, ⟨_, set_at _ h0, a5.symm⟩, hS.set1 _ h0, .inr (.inl ⟨rfl, h0, rfl⟩)⟩
  · intro W g hS hF hut
    have h1 : W.heap[s.ba]? = some A1 := by
      rcases hut _ (List.mem_cons_of_mem _ (List.mem_cons_self)) rfl with h0 | h0
      · obtain ⟨o, q1, q2⟩ := hF
        have h0 : W.heap[s.ba]? = some A0 := h0
        simp only at q1 q2
        exact absurd (Option.some.inj (q1.symm.trans h0)) q2
      · exact h0
    exact ⟨_, a3 W _ h1, ⟨g, rfl, set_at _ h1⟩, hS.set1 _ h1, .inr (.inr (.inl ⟨rfl, h1, _, rfl⟩))⟩
  · intro W hS hut
    have h0 := hut _ (List.mem_cons_of_mem _ (List.mem_cons_of_mem _ (List.mem_cons_self))) rfl
    exact ⟨_, b2 W h0, ⟨_, set_at _ h0, b5.symm⟩, hS.set2 _ h0, .inr (.inr (.inr (.inl ⟨rfl, h0, rfl⟩)))⟩
  · intro W hS hF hut
    have h1 : W.heap[s.bb]? = some B1 := by
      rcases hut _ (List.mem_cons_of_mem _ (List.mem_cons_of_mem _ (List.mem_cons_of_mem _ (List.mem_cons_self)))) rfl with h0 | h0
      · obtain ⟨o, q1, q2⟩ := hF
        have h0 : W.heap[s.bb]? = some B0 := h0
        simp only at q1 q2
        exact absurd (Option.some.inj (q1.symm.trans h0)) q2
      · exact h0
    exact ⟨_, b3 W _ h1, set_at _ h1, hS.set2 _ h1, .inr (.inr (.inr (.inr ⟨rfl, h1, rfl⟩)))⟩
  · rintro W g ⟨g', hg, hh⟩
    injection hg with hg
    rw [← hg] at hh
    exact a4 W _ hh
  · intro W hh
    exact b4 W _ hh
/-- behind a Put that put -/
def PutPost (T : TT) (w : World) (t : Nat) (s : Tab) (v : Value) (p : Pr) (e : Ending) (w' : World) : Prop :=
  e = .returned (.tuple #[.int .u64 ((s.last : Int) + 1), .int .i64 0]) ∧ ∃ g, w.heap.size ≤ g ∧ TabAt T w' t (putT s g v p) ∧ Out (Own t s) w w'
theorem put_end {T : TT} {mt : TypeId} {w Wx W : World} {t : Nat} {s : Tab} {p : Pr} {v : Value} {g : Nat} {M : Lit → Option Value} {q : Two} {stA stB : Nat} (h : TabAt T w t s) (hp : p.wf) (hby : s.by_ p = 0) (hn : s.last < 1000000)
    (hk : Blk Wx t T.tab #[.int .i64 (s.most : Int), .int .u64 ((s.last : Int) + 1), .map (some s.ba), .map (some s.bb)]) (hat : s.ba ≠ t) (hbt : s.bb ≠ t) (ho : Out (fun i => i = t) w Wx) (hq : PutTwo mt s p M Wx q stA stB) (hM : byM M s.by_) (hW : STwo q Wx W)
    (hge : Wx.heap.size ≤ g) (hg : Blk W g T.ent (entCells ⟨g, v, p, pr0, false⟩)) (h2 : F2 q [.pointer (some ⟨g, 0, none⟩)] W) (h4 : F4 q [] W) (hte : T.tab ≠ T.ent) :
    PutPost T w t s v p (.returned (.tuple #[.int .u64 ((s.last : Int) + 1), .int .i64 0])) W ∧ Blk W t T.tab #[.int .i64 (s.most : Int), .int .u64 ((s.last : Int) + 1), .map (some s.ba), .map (some s.bb)] := by
  have hk2 := hW.blk hk (by rw [hq.b1]; exact hat.symm) (by rw [hq.b2]; exact hbt.symm)
  have hout : Out (fun i => i = t ∨ i = s.ba ∨ i = s.bb) w W := Out.trans (ho.mono (fun i _ e => .inl e)) hW (by
    intro i _ e
    rw [hq.b1, hq.b2] at e
    exact .inr e)
  have hge2 := Nat.le_trans ho.size hge
  exact ⟨⟨rfl, g, hge2, put_at h hp hby hn hk2 (hq.f2 W g h2) (hq.f4 W h4) hM hg hge2 hte hout, hout.mono (fun i _ e => by
    rcases e with e | e | e
    · exact .inl e
    · exact .inr (.inl e)
    · exact .inr (.inr (.inl e)))⟩, hk2⟩
def ofV (s : Tab) (id : Nat) : Value := match s.E id with | some e => entPtr e | none => .pointer none
theorem TabAt.look_all {T : TT} {mt et : TypeId} {w : World} {t : Nat} {s : Tab} (h : TabAt T w t s) (hmt : Try.prog.underlying mt = some (.map 26 et)) (hz : ∀ u : World, (zeroValue et).run Try.prog u = .ok (.pointer none) u) {id : Nat} (hid : id < 18446744073709551616) :
    (Instr.lookup mt (.map (some s.ba)) (.int .u64 (id : Int)) false).run Try.prog w = .ok (ofV s id) w := by
  rw [h.all_.look law64 hmt (hz w) (key_u64 hid)]
  unfold allM ofV
  simp only [Int.toNat_natCast]
  cases s.E id <;> rfl
/-- a new table -/
def newT (most ba bb : Nat) : Tab := ⟨most, 0, ba, bb, 0, 0, fun _ => none, fun _ => 0⟩
theorem new_at {T : TT} {W : World} {most t ba bb : Nat} (hk : Blk W t T.tab (tabCells (newT most ba bb))) (ha : MapIs Try.prog 26 W ba 0 (fun _ => none)) (hb : MapIs Try.prog 34 W bb 0 (fun _ => none)) (hd : ba ≠ bb) : TabAt T W t (newT most ba bb) where
  blk := hk
  all_ := ha.congr (by funext kl; unfold allM newT; split <;> rfl) rfl
  by_ := ⟨_, hb, fun p hp => by simp [newT]⟩
  ents := fun i e he => by simp [newT] at he
  apart := fun i j e f he => by simp [newT] at he
  diff := hd
  n_le := Nat.le_refl _
  m_le := Nat.le_refl _
  last_le := Nat.zero_le _
  leads := fun p hp hn => absurd rfl hn
  led := fun i e he => by simp [newT] at he
def NewPost (T : TT) (most : Nat) (w : World) (e : Ending) (w' : World) : Prop :=
  ∃ t ba bb, e = .returned (.tuple #[.pointer (some ⟨t, 0, none⟩), .int .i64 0]) ∧ TabAt T w' t (newT most ba bb) ∧ (∀ b, Own t (newT most ba bb) b → w.heap.size ≤ b) ∧ Below w.heap.size w w'
theorem new_post {T : TT} {w : World} {most : Nat} : NewPost T most w (.returned (.tuple #[.pointer (some ⟨w.heap.size + 1 + 1, 0, none⟩), .int .i64 0])) (((w.alloc (.map #[] 0)).alloc (.map #[] 0)).alloc (.cells #[.int .i64 (most : Int), .int .u64 0, .map (some w.heap.size), .map (some (w.heap.size + 1))] T.tab)) := by
  have e1 : (w.alloc (.map #[] 0)).heap.size = w.heap.size + 1 := by simp
  have e2 : ((w.alloc (.map #[] 0)).alloc (.map #[] 0)).heap.size = w.heap.size + 1 + 1 := by simp
  rw [← e2, ← e1]
  refine ⟨_, w.heap.size, (w.alloc (.map #[] 0)).heap.size, rfl, new_at (Blk.new _ _ _) ?_ ?_ ?_, ?_, ?_⟩
  · exact ((MapIs.made Try.prog 26 w).alloc _).alloc _
  · exact (MapIs.made Try.prog 34 (w.alloc (.map #[] 0))).alloc _
  · simp
  · rintro b (rfl | rfl | rfl | ⟨i, e, he, _⟩)
    · simp <;> omega
    · exact Nat.le_refl _
    · simp [newT]
    · simp [newT] at he
  · exact (((Below.refl _ _).alloc (Nat.le_refl _) _).alloc (by simp) _).alloc (by simp <;> omega) _
/-- an entry is dropped -/
def dropT (s : Tab) (id : Nat) : Tab := match s.E id with
  | none => s
  | some e => { s with n := s.n - 1, m := if e.bound then s.m - 1 - 1 else s.m - 1, E := fun i => if i = id then none else s.E i, by_ := fun x => if x = e.near then 0 else if e.bound = true ∧ x = e.far then 0 else s.by_ x }
def hasN (s : Tab) (id : Nat) : Nat := if (s.E id).isSome then 1 else 0
theorem drop_at {T : TT} {w w' : World} {t : Nat} {s : Tab} {id : Nat} {e : Ent} {M : Lit → Option Value} (h : TabAt T w t s) (he : s.E id = some e) (hk : Blk w' t T.tab (tabCells s)) (hM : byM M s.by_)
    (ha : MapIs Try.prog 26 w' s.ba (s.n - 1) (updM (allM s.E) (.int .u64 (id : Int)) none))
    (hb : MapIs Try.prog 34 w' s.bb (if e.bound then s.m - 1 - 1 else s.m - 1) (if e.bound then updM (updM M (pairL e.near) none) (pairL e.far) none else updM M (pairL e.near) none))
    (ho : Out (fun i => i = t ∨ i = s.ba ∨ i = s.bb) w w') (hte : T.tab ≠ T.ent) : TabAt T w' t (dropT s id) := by
  have hd : dropT s id = { s with n := s.n - 1, m := if e.bound then s.m - 1 - 1 else s.m - 1, E := fun i => if i = id then none else s.E i, by_ := fun x => if x = e.near then 0 else if e.bound = true ∧ x = e.far then 0 else s.by_ x } := by
    unfold dropT
    rw [he]
  obtain ⟨hi1, hi2, hi3, hwn, hwf⟩ := h.ents id e he
  obtain ⟨hln, hlf⟩ := h.led id e he
  rw [hd]
  refine ⟨hk, ?_, ⟨_, hb, ?_⟩, ?_, ?_, h.diff, ?_, ?_, h.last_le, ?_, ?_⟩
  · refine ha.congr ?_ rfl
    funext kl
    unfold updM allM
    split
    · rename_i e1
      subst e1
      simp
    · rename_i e1
      split
      · rename_i i
        simp only
        by_cases hi : i.toNat = id
        · rw [if_pos hi]
          have : i ≠ (id : Int) := fun e2 => e1 (by rw [e2])
          have h0 : i.toNat = 0 := by omega
          omega
        · rw [if_neg hi]
      · rfl
  · intro x hx
    by_cases hb1 : e.bound = true
    · simp only [hb1, if_true, true_and]
      by_cases e1 : x = e.near
      · subst e1
        by_cases e2 : e.near = e.far
        · exact absurd e2 (hlf hb1).2
        · rw [updM_other _ _ (fun q => e2 (pairL_inj hwn hwf q)), updM_same]; simp
      · by_cases e2 : x = e.far
        · subst e2; rw [updM_same]; simp
        · rw [updM_other _ _ (fun q => e2 (pairL_inj hx hwf q)), updM_other _ _ (fun q => e1 (pairL_inj hx hwn q)), hM x hx]; simp [e1, e2]
    · simp only [hb1]
      by_cases e1 : x = e.near
      · subst e1
        simp [updM_same]
      · simp [updM_other _ _ (fun q => e1 (pairL_inj hx hwn q)), hM x hx, e1]
  · intro i f hf
    simp only at hf ⊢
    split at hf
    · cases hf
    · obtain ⟨h1, h2, h3, h4⟩ := h.ents i f hf
      refine ⟨h1, h2, h3.of_eq (ho.block _ h3.lt ?_), h4⟩
      rintro (e1 | e1 | e1)
      · rw [e1] at h3; exact Blk.ne_ h.blk h3 hte rfl
      · rw [e1] at h3; obtain ⟨es, c, q1, _⟩ := h.all_.size; unfold Blk at h3; rw [q1] at h3; injection h3 with h3; injection h3
      · rw [e1] at h3; obtain ⟨M2, q, _⟩ := h.by_; obtain ⟨es, c, q1, _⟩ := q.size; unfold Blk at h3; rw [q1] at h3; injection h3 with h3; injection h3
  · intro i j f g hf hg hfg
    simp only at hf hg
    split at hf
    · cases hf
    · split at hg
      · cases hg
      · exact h.apart i j f g hf hg hfg
  · have := h.n_le
    simp only
    omega
  · have := h.m_le
    simp only
    split <;> omega
  · intro x hx hne
    simp only at hne ⊢
    by_cases e1 : x = e.near
    · rw [if_pos e1] at hne; exact absurd rfl hne
    · rw [if_neg e1] at hne ⊢
      by_cases e2 : e.bound = true ∧ x = e.far
      · rw [if_pos e2] at hne; exact absurd rfl hne
      · rw [if_neg e2] at hne ⊢
        obtain ⟨f, hf, hh⟩ := h.leads x hx hne
        have : s.by_ x ≠ id := by
          intro e3
          rw [e3, he] at hf
          injection hf with hf
          subst hf
          rcases hh with hh | ⟨h1, h2⟩
          · exact e1 hh.symm
          · exact e2 ⟨h1, h2.symm⟩
        rw [if_neg this]
        exact ⟨f, hf, hh⟩
  · intro i f hf
    simp only at hf ⊢
    split at hf
    · cases hf
    · rename_i hne
      obtain ⟨h1, h2⟩ := h.led i f hf
      have hne1 : f.near ≠ e.near := fun e1 => by rw [e1, hln] at h1; exact hne h1.symm
      have hne2 : ¬ (e.bound = true ∧ f.near = e.far) := by
        rintro ⟨hb1, e1⟩
        rw [e1, (hlf hb1).1] at h1
        exact hne h1.symm
      rw [if_neg hne1, if_neg hne2]
      refine ⟨h1, fun hb1 => ?_⟩
      obtain ⟨h3, h4⟩ := h2 hb1
      have hne3 : f.far ≠ e.near := fun e1 => by rw [e1, hln] at h3; exact hne h3.symm
      have hne4 : ¬ (e.bound = true ∧ f.far = e.far) := by
        rintro ⟨hb2, e1⟩
        rw [e1, (hlf hb2).1] at h3
        exact hne h3.symm
      rw [if_neg hne3, if_neg hne4]
      exact ⟨h3, h4⟩
def pv (p : Pr) : Array Value := #[.int .u32 p.a, .int .u16 p.b, .int .u32 p.c, .int .u16 p.d]
end Go.Proofs.Ytlikngepcbmhdaa
