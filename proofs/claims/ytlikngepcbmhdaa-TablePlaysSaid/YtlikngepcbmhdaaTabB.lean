/- Layer 12 (table): what becomes of a table that binds. -/
import Derived.Test.YtlikngepcbmhdaaTab
set_option linter.unusedVariables false
set_option linter.unusedSimpArgs false
namespace Go.Proofs.Ytlikngepcbmhdaa
open Go.ChangeShapes Go.WideShapes Go.ChangeAt Go.RowKit Go.Maps

/-- behind a Drop of some -/
def dropAll (s : Tab) : List Nat → Tab
  | [] => s
  | i :: r => dropAll (dropT s i) r
def dropN (s : Tab) : List Nat → Nat
  | [] => 0
  | i :: r => hasN s i + dropN (dropT s i) r
theorem dropAll_snoc (i : Nat) : ∀ (l : List Nat) (s : Tab), dropAll s (l ++ [i]) = dropT (dropAll s l) i
  | [], _ => rfl
  | _ :: r, s => dropAll_snoc i r _
theorem dropN_snoc (i : Nat) : ∀ (l : List Nat) (s : Tab), dropN s (l ++ [i]) = dropN s l + hasN (dropAll s l) i
  | [], s => by simp [dropN, dropAll]
  | _ :: r, s => by simp [dropN, dropAll, dropN_snoc i r _]; omega
theorem grown_undrew {w w' : World} {r : Option Nat} (h : w.drew.grownBy w' r) : w.grownBy w' r := ⟨h.os, h.tape, h.output, h.size, h.block⟩
theorem dropN_le : ∀ (l : List Nat) (s : Tab), dropN s l ≤ l.length
  | [], _ => Nat.le_refl _
  | i :: r, s => by
    have := dropN_le r (dropT s i)
    have h1 : hasN s i ≤ 1 := by unfold hasN; split <;> omega
    simp only [dropN, List.length_cons]
    omega
theorem dropT_ba (s : Tab) (i : Nat) : (dropT s i).ba = s.ba ∧ (dropT s i).bb = s.bb ∧ (dropT s i).most = s.most ∧ (dropT s i).last = s.last := by
  unfold dropT; split <;> exact ⟨rfl, rfl, rfl, rfl⟩
theorem Own.drop {t : Nat} {s : Tab} {i b : Nat} (h : Own t (dropT s i) b) : Own t s b := by
  obtain ⟨h1, h2, _⟩ := dropT_ba s i
  rcases h with h | h | h | ⟨j, e, he, hb⟩
  · exact .inl h
  · exact .inr (.inl (by rw [← h1]; exact h))
  · exact .inr (.inr (.inl (by rw [← h2]; exact h)))
  · refine .inr (.inr (.inr ⟨j, e, ?_, hb⟩))
    unfold dropT at he
    split at he
    · exact he
    · simp only at he
      split at he
      · cases he
      · exact he
theorem Own.dropAll {t : Nat} {b : Nat} : ∀ {l : List Nat} {s : Tab}, Own t (dropAll s l) b → Own t s b
  | [], _, h => h
  | i :: r, s, h => Own.drop (Own.dropAll (l := r) (s := dropT s i) h)
def DropPost (T : TT) (w : World) (t : Nat) (s : Tab) (l : List Nat) (e : Ending) (w' : World) : Prop :=
  e = .returned (.int .i64 (dropN s l : Int)) ∧ TabAt T w' t (dropAll s l) ∧ Out (Own t s) w w'
def DropRel (T : TT) (w : World) (t : Nat) (s : Tab) (l : List Nat) (k c : Nat) (wr : World) : Prop :=
  k ≤ l.length ∧ c = dropN s (l.take k) ∧ TabAt T wr t (Go.Proofs.Ytlikngepcbmhdaa.dropAll s (l.take k)) ∧ Out (Own t s) w wr
/-- an entry's cells, while it is bound: is the pair there, is the mark set -/
def bCells (e : Ent) (far : Pr) (b1 b2 : Bool) : Array Value := entCells { e with far := if b1 then far else e.far, bound := if b2 then true else e.bound }
def bEnt (e : Ent) (far : Pr) : Ent := { e with far := far, bound := true }
/-- .. where the new pair is another one than the old one -/
def bindT (s : Tab) (id : Nat) (e : Ent) (far : Pr) : Tab := { s with m := s.m + 1, E := fun i => if i = id then some (bEnt e far) else s.E i, by_ := fun x => if x = far then id else s.by_ x }
theorem bind_at {T : TT} {w w' : World} {t : Nat} {s : Tab} {id : Nat} {e : Ent} {far : Pr} {M : Lit → Option Value} (h : TabAt T w t s) (he : s.E id = some e) (hp : far.wf) (hby : s.by_ far = 0) (hnb : e.bound = false) (hm : s.m + 1 ≤ 2 * s.last)
    (hk : Blk w' t T.tab (tabCells s)) (hke : Blk w' e.blk T.ent (entCells (bEnt e far))) (ha : MapIs Try.prog 26 w' s.ba s.n (allM s.E)) (hb : MapIs Try.prog 34 w' s.bb (s.m + 1) (updM M (pairL far) (some (.int .u64 (id : Int))))) (hM : byM M s.by_)
    (ho : Out (fun i => i = e.blk ∨ i = s.bb) w w') (hte : T.tab ≠ T.ent) : TabAt T w' t (bindT s id e far) := by
  obtain ⟨hi1, hi2, hi3, hwn, hwf⟩ := h.ents id e he
  obtain ⟨hln, hlf⟩ := h.led id e he
  refine ⟨hk, ?_, ⟨_, hb, ?_⟩, ?_, ?_, h.diff, h.n_le, hm, h.last_le, ?_, ?_⟩
  · refine ha.congr ?_ rfl
    funext kl
    unfold allM bindT
    split
    · simp only
      split
      · rename_i e1
        rw [e1, he]
        rfl
      · rfl
    · rfl
  · intro x hx
    by_cases e1 : x = far
    · subst e1
      rw [updM_same]
      simp only [bindT, if_true]
      rw [if_neg (by omega)]
    · rw [updM_other _ _ (fun q => e1 (pairL_inj hx hp q)), hM x hx]
      simp [bindT, e1]
  · intro i f hf
    simp only [bindT] at hf ⊢
    split at hf
    · rename_i e1
      injection hf with hf
      subst hf e1
      exact ⟨hi1, hi2, hke, hwn, hp⟩
    · rename_i e1
      obtain ⟨h1, h2, h3, h4⟩ := h.ents i f hf
      refine ⟨h1, h2, h3.of_eq (ho.block _ h3.lt ?_), h4⟩
      rintro (e2 | e2)
      · exact e1 (h.apart i id f e hf he e2)
      · rw [e2] at h3; obtain ⟨M2, q, _⟩ := h.by_; obtain ⟨es, c, q1, _⟩ := q.size; unfold Blk at h3; rw [q1] at h3; injection h3 with h3; injection h3
  · intro i j f g hf hg hfg
    have key : ∀ i f, (bindT s id e far).E i = some f → ∃ f', s.E i = some f' ∧ f'.blk = f.blk := by
      intro i f hf
      simp only [bindT] at hf
      split at hf
      · rename_i e1
        injection hf with hf
        subst hf e1
        exact ⟨e, he, rfl⟩
      · exact ⟨f, hf, rfl⟩
    obtain ⟨f', q1, q2⟩ := key i f hf
    obtain ⟨g', q3, q4⟩ := key j g hg
    exact h.apart i j f' g' q1 q3 (by rw [q2, q4, hfg])
  · intro x hx hne
    simp only [bindT] at hne ⊢
    by_cases e1 : x = far
    · subst e1
      simp only [if_true]
      exact ⟨_, rfl, .inr ⟨rfl, rfl⟩⟩
    · rw [if_neg e1] at hne ⊢
      obtain ⟨f, hf, hh⟩ := h.leads x hx hne
      by_cases e2 : s.by_ x = id
      · rw [if_pos e2]
        rw [e2, he] at hf
        injection hf with hf
        subst hf
        refine ⟨_, rfl, .inl ?_⟩
        rcases hh with hh | ⟨hh, _⟩
        · exact hh
        · rw [hnb] at hh; cases hh
      · rw [if_neg e2]
        exact ⟨f, hf, hh⟩
  · intro i f hf
    simp only [bindT] at hf ⊢
    split at hf
    · rename_i e1
      injection hf with hf
      subst hf e1
      have hne : e.near ≠ far := fun e1 => by rw [e1, hby] at hln; omega
      exact ⟨(if_neg hne).trans hln, fun _ => ⟨if_pos rfl, hne⟩⟩
    · obtain ⟨h1, h2⟩ := h.led i f hf
      have h0 := (h.ents i f hf).1
      have hne : f.near ≠ far := fun e1 => by rw [e1, hby] at h1; omega
      rw [if_neg hne]
      refine ⟨h1, fun hb1 => ?_⟩
      obtain ⟨h3, h4⟩ := h2 hb1
      have hne2 : f.far ≠ far := fun e1 => by rw [e1, hby] at h3; omega
      rw [if_neg hne2]
      exact ⟨h3, h4⟩
def BindPost (T : TT) (w : World) (t : Nat) (s : Tab) (id : Nat) (en : Ent) (far : Pr) (e : Ending) (w' : World) : Prop :=
  e = .returned (.int .i64 0) ∧ TabAt T w' t (bindT s id en far) ∧ Out (Own t s) w w'
/-- the map of pairs, ahead of a new pair -/
structure BindTwo (s : Tab) (id : Nat) (gb : Nat) (E : TypeId) (f : Bool → Bool → Array Value) (p : Pr) (M : Lit → Option Value) (Wx : World) (q : Two) (stB : Nat) : Prop where
  b1 : q.b1 = s.ba
  b2 : q.b2 = s.bb
  ok : TwoOk q Wx.heap.size
  u0 : ∀ u ∈ ([(15, fun w => w.heap[q.b2]? = some q.P0), (17, fun w => w.heap[q.b2]? = some q.P0 ∨ w.heap[q.b2]? = some q.P1)] : List (Nat × (World → Prop))), u.2 Wx.drew
  e24 : ∀ W, SThree q gb E f Wx W → untilU [(15, fun w => w.heap[q.b2]? = some q.P0), (17, fun w => w.heap[q.b2]? = some q.P0 ∨ w.heap[q.b2]? = some q.P1)] 15 W → ∃ W', (Instr.mapEntry 65 (.map (some s.bb)) (.agg #[.int .u32 p.a, .int .u16 p.b, .int .u32 p.c, .int .u16 p.d])).run Try.prog W = .ok (.tuple #[.int .u64 0, goInt stB]) W' ∧ F3 q [] W' ∧ SThree q gb E f Wx W' ∧ RThree q gb E f 15 17 11 14 15 W W'
  e26 : ∀ W, SThree q gb E f Wx W → F3 q [] W → untilU [(15, fun w => w.heap[q.b2]? = some q.P0), (17, fun w => w.heap[q.b2]? = some q.P0 ∨ w.heap[q.b2]? = some q.P1)] 17 W → ∃ W', (Instr.entryStore 65 (.map (some s.bb)) (goInt stB) (.int .u64 (id : Int))).run Try.prog W = .ok () W' ∧ F4 q [] W' ∧ SThree q gb E f Wx W' ∧ RThree q gb E f 15 17 11 14 17 W W'
  f4 : ∀ W, F4 q [] W → MapIs Try.prog 34 W s.bb (s.m + 1) (updM M (pairL p) (some (.int .u64 (id : Int))))
theorem bind_two {T : TT} {E : TypeId} {f : Bool → Bool → Array Value} {w Wx : World} {t id gb : Nat} {s : Tab} {p : Pr} (h : TabAt T w t s) (hp : p.wf) (hby : s.by_ p = 0) (hid : id ≠ 0) (hgb : gb ≠ s.bb)
    (ho : Out (fun _ => False) w Wx) : ∃ M q stB, byM M s.by_ ∧ s.ba ≠ t ∧ s.bb ≠ t ∧ s.ba < w.heap.size ∧ s.bb < w.heap.size ∧ BindTwo s id gb E f p M Wx q stB := by
  have hat : s.ba ≠ t := by
    intro e
    obtain ⟨es, c, q1, _⟩ := h.all_.size
    have := h.blk
    unfold Blk at this
    rw [← e, q1] at this
    injection this with this
    injection this
  obtain ⟨MB, hmb, hMB⟩ := h.by_
  have hbt : s.bb ≠ t := by
    intro e
    obtain ⟨es, c, q1, _⟩ := hmb.size
    have := h.blk
    unfold Blk at this
    rw [← e, q1] at this
    injection this with this
    injection this
  have hla : s.ba < w.heap.size := h.all_.lt
  have hlb : s.bb < w.heap.size := hmb.lt
  have hml := h.m_le
  have hll := h.last_le
  have kb := key_pair hp
  have nb : MB (pairL p) = none := by rw [hMB _ hp, if_pos hby]
  have hmb := hmb.of_eq (ho.block _ hlb (fun e => e))
  obtain ⟨stB, B0, B1, B2, b1, b2, b3, b4, b5, b6, b7⟩ := hmb.entry lawPair Try.underlying65 (by unfold maxLen; omega) zero64 kb nb
  refine ⟨MB, ⟨s.ba, s.bb, .map #[] 0, .map #[] 1, fun _ => .map #[] 2, B0, B1, B2, .int .u64 (id : Int)⟩, stB, hMB, hat, hbt, hla, hlb, rfl, rfl, ?_, ?_, ?_, ?_, ?_⟩
  · exact ⟨h.diff, Nat.lt_of_lt_of_le hla ho.size, Nat.lt_of_lt_of_le hlb ho.size, (fun e => by injection e with _ e; cases e), (fun _ e => by injection e with _ e; cases e), (fun _ e => by injection e with _ e; cases e), b5, b6 _, b7 _ (by intro e; injection e with _ e; omega)⟩
  · intro u hu
    simp only [List.mem_cons, List.mem_nil_iff, or_false] at hu
    rcases hu with rfl | rfl
    · exact b1
    · exact .inl b1
  · intro W hS hut
    have h0 := hut _ (List.mem_cons_self) rfl
    exact ⟨_, b2 W h0, ⟨_, set_at _ h0, b5.symm⟩, hS.set2 _ hgb h0, .inl (.inr (.inr (.inr (.inl ⟨rfl, h0, rfl⟩))))⟩
  · intro W hS hF hut
    have h1 : W.heap[s.bb]? = some B1 := by
      rcases hut _ (List.mem_cons_of_mem _ (List.mem_cons_self)) rfl with h0 | h0
      · obtain ⟨o, q1, q2⟩ := hF
        have h0 : W.heap[s.bb]? = some B0 := h0
        simp only at q1 q2
        exact absurd (Option.some.inj (q1.symm.trans h0)) q2
      · exact h0
    exact ⟨_, b3 W _ h1, set_at _ h1, hS.set2 _ hgb h1, .inl (.inr (.inr (.inr (.inr ⟨rfl, h1, rfl⟩))))⟩
  · intro W hh
    exact b4 W _ hh
theorem bCells_inj (e : Ent) (far : Pr) : ∀ b1 b2 c1 c2, bCells e far b1 b2 = bCells e far c1 c2 → bCells e far true b2 = bCells e far true c2 ∧ bCells e far b1 true = bCells e far c1 true := by
  intro b1 b2 c1 c2 h
  simp [bCells, entCells] at h ⊢
  simp_all
theorem bStore1 {T : TT} {e : Ent} {p : Pr} {W Wx : World} {q : Two} (hsz : ∀ w : World, (sizeOf 34).run Try.prog w = .ok 4 w) (h : SThree q e.blk T.ent (bCells e p) Wx W) (hv : e.v.oneCell' = true) :
    ∃ W', (Instr.storeAt 34 (.pointer (some ⟨e.blk, 5, none⟩)) (.agg #[.int .u32 p.a, .int .u16 p.b, .int .u32 p.c, .int .u16 p.d])).run Try.prog W = .ok () W' ∧ G1 e.blk T.ent (bCells e p) [] W' ∧ SThree q e.blk T.ent (bCells e p) Wx W' ∧ RThree q e.blk T.ent (bCells e p) 15 17 11 14 11 W W' := by
  obtain ⟨b1, b2, hk⟩ := h.2
  obtain ⟨W', r1, r2, r3⟩ := run_storeAt_is (P := Try.prog) (g := e.blk) (base := 5) (t := 34) (val := .agg #[.int .u32 p.a, .int .u16 p.b, .int .u32 p.c, .int .u16 p.d]) (vs := [.int .u32 p.a, .int .u16 p.b, .int .u32 p.c, .int .u16 p.d]) rfl (hsz W) hk (by simp [bCells, entCells]) (by intro v hv; simp at hv; rcases hv with rfl | rfl | rfl | rfl <;> rfl)
  have e1 : putCells (bCells e p b1 b2) 5 [.int .u32 p.a, .int .u16 p.b, .int .u32 p.c, .int .u16 p.d] = bCells e p true b2 := by simp [putCells, bCells, entCells]
  rw [e1] at r2
  exact ⟨W', r1, ⟨b2, r2⟩, h.setG r3 r2, .inr ⟨r3, .inl ⟨rfl, b1, b2, hk, r2⟩⟩⟩
theorem bStore2 {T : TT} {e : Ent} {p : Pr} {W Wx : World} {q : Two} (hsz : ∀ w : World, (sizeOf 4).run Try.prog w = .ok 1 w) (h : SThree q e.blk T.ent (bCells e p) Wx W) (hv : e.v.oneCell' = true) :
    ∃ W', (Instr.storeAt 4 (.pointer (some ⟨e.blk, 9, none⟩)) (.bool true)).run Try.prog W = .ok () W' ∧ G2 e.blk T.ent (bCells e p) [] W' ∧ SThree q e.blk T.ent (bCells e p) Wx W' ∧ RThree q e.blk T.ent (bCells e p) 15 17 11 14 14 W W' := by
  obtain ⟨b1, b2, hk⟩ := h.2
  obtain ⟨W', r1, r2, r3⟩ := run_storeAt_is (P := Try.prog) (g := e.blk) (base := 9) (t := 4) (val := .bool true) (vs := [.bool true]) rfl (hsz W) hk (by simp [bCells, entCells]) (by intro v hv; simp at hv; rcases hv with rfl; rfl)
  have e1 : putCells (bCells e p b1 b2) 9 [.bool true] = bCells e p b1 true := by simp [putCells, bCells, entCells]
  rw [e1] at r2
  exact ⟨W', r1, ⟨b1, r2⟩, h.setG r3 r2, .inr ⟨r3, .inr ⟨rfl, b1, b2, hk, r2⟩⟩⟩
theorem bind_end {T : TT} {w Wx W : World} {t id : Nat} {s : Tab} {p : Pr} {en : Ent} {M : Lit → Option Value} {q : Two} {stB : Nat} (h : TabAt T w t s) (he : s.E id = some en) (hp : p.wf) (hby : s.by_ p = 0) (hnb : en.bound = false) (hm : s.m + 1 ≤ 2 * s.last)
    (hw0 : Out (fun _ => False) w Wx) (hq : BindTwo s id en.blk T.ent (bCells en p) p M Wx q stB) (hM : byM M s.by_) (hW : SThree q en.blk T.ent (bCells en p) Wx W) (hbt : s.bb ≠ t)
    (h1 : G1 en.blk T.ent (bCells en p) [] W) (h2 : G2 en.blk T.ent (bCells en p) [] W) (h4 : F4 q [] W) (hte : T.tab ≠ T.ent) : BindPost T w t s id en p (.returned (.int .i64 0)) W := by
  have hi3 := (h.ents id en he).2.2.1
  have hout : Out (fun i => i = en.blk ∨ i = s.bb) w W := Out.trans (hw0.mono (fun _ _ e => e.elim)) hW.1 (by intro i _ e; rw [hq.b2] at e; exact e)
  obtain ⟨c2, q1⟩ := h1
  obtain ⟨c1, q2⟩ := h2
  have e1 : bCells en p true c2 = bCells en p c1 true := by unfold Blk at q1 q2; rw [q1] at q2; injection q2 with q2; injection q2
  rw [(bCells_inj en p _ _ _ _ e1).1] at q1
  have nte : t ≠ en.blk := fun e => by have := h.blk; rw [e] at this; exact Blk.ne_ this hi3 hte rfl
  have nae : s.ba ≠ en.blk := fun e => by rw [← e] at hi3; obtain ⟨es, c, q1, _⟩ := h.all_.size; unfold Blk at hi3; rw [q1] at hi3; injection hi3 with hi3; injection hi3
  refine ⟨rfl, bind_at h he hp hby hnb hm (h.blk.of_eq (hout.block _ h.blk.lt ?_)) q1 (h.all_.of_eq (hout.block _ h.all_.lt ?_)) (hq.f4 W h4) hM hout hte, hout.mono ?_⟩
  · rintro (e | e)
    · exact nte e
    · exact hbt e.symm
  · rintro (e | e)
    · exact nae e
    · exact h.diff e
  · rintro i _ (e | e)
    · exact .inr (.inr (.inr ⟨id, en, he, e.symm⟩))
    · exact .inr (.inr (.inl e))
/-- a table that the call itself has made: its blocks are all new -/
structure Has (T : TT) (w0 W : World) (t : Nat) (s : Tab) : Prop where
  tab : TabAt T W t s
  own : ∀ b, Own t s b → w0.heap.size ≤ b
  below : Below w0.heap.size w0 W
section
variable {T : TT} {w0 W W' : World} {t : Nat} {s : Tab}
theorem Has.step (h : Has T w0 W t s) (hb : Below W.heap.size W W') : Has T w0 W' t s := ⟨h.tab.below hb, h.own, h.below.trans (hb.mono h.below.size)⟩
theorem Has.alloc (h : Has T w0 W t s) (o : Obj) : Has T w0 (W.alloc o) t s := h.step ((Below.refl _ _).alloc (Nat.le_refl _) _)
theorem Has.out {s' : Tab} (h : Has T w0 W t s) (ht : TabAt T W' t s') (ho : Out (Own t s) W W') (hs : ∀ b, Own t s' b → Own t s b ∨ W.heap.size ≤ b) : Has T w0 W' t s' := by
  refine ⟨ht, fun b hb => ?_, h.below.trans (ho.below h.below.size fun i hi ho => ?_)⟩
  · rcases hs b hb with h1 | h1
    · exact h.own b h1
    · have := h.below.size; omega
  · have := h.own i ho; omega
theorem Own.put {g : Nat} {v : Value} {p : Pr} {b : Nat} (h : Own t (putT s g v p) b) : Own t s b ∨ b = g := by
  rcases h with h | h | h | ⟨i, e, he, hb⟩
  · exact .inl (.inl h)
  · exact .inl (.inr (.inl h))
  · exact .inl (.inr (.inr (.inl h)))
  · simp only [putT] at he
    split at he
    · injection he with he
      subst he
      exact .inr hb.symm
    · exact .inl (.inr (.inr (.inr ⟨i, e, he, hb⟩)))
theorem Own.bind {id : Nat} {en : Ent} {p : Pr} {b : Nat} (hen : s.E id = some en) (h : Own t (bindT s id en p) b) : Own t s b := by
  rcases h with h | h | h | ⟨i, e, he, hb⟩
  · exact .inl h
  · exact .inr (.inl h)
  · exact .inr (.inr (.inl h))
  · simp only [bindT] at he
    split at he
    · injection he with he
      subst he
      exact .inr (.inr (.inr ⟨id, en, hen, hb⟩))
    · exact .inr (.inr (.inr ⟨i, e, he, hb⟩))
end
end Go.Proofs.Ytlikngepcbmhdaa
