/- A region that draws its order: one walk in the order of the text. Slots may be told by facts, which tie slots and the world; an operation may add facts on slots that it looks at (a store into a block that was just laid, a second value out of a first one). The last operations, each of which waits for all ahead of it, may do whatever they like. -/
import Derived.Test.YtnnpahjopfkchaaFlatK
set_option linter.unusedVariables false
set_option linter.unusedSimpArgs false
set_option linter.unusedSectionVars false
namespace Go.Proofs.Ytnnpahjopfkchaa
open Go.RowKit

/-- what is told of some slots and the world, once operation 'at_' is done -/
structure Fc where
  at_ : Nat
  dep : List Tmp
  says : List Value → World → Prop
def fillW : List Tmp → (Tmp → Value) → Act → Act
  | [], _, a => a
  | t :: T, f, a => fillW T f (a.put (some t) (f t))
theorem fillW_size (f : Tmp → Value) : ∀ (T : List Tmp) (a : Act), (fillW T f a).tmps.size = a.tmps.size
  | [], a => rfl
  | t :: T, a => by rw [fillW, fillW_size f T, put_size]
theorem fillW_defs (f : Tmp → Value) : ∀ (T : List Tmp) (a : Act), (fillW T f a).defers = a.defers
  | [], a => rfl
  | t :: T, a => by rw [fillW, fillW_defs f T, put_defs]
theorem fillW_out (f : Tmp → Value) : ∀ (T : List Tmp) (a : Act) (t : Tmp), t ∉ T → (fillW T f a).tmps[t]? = a.tmps[t]?
  | [], a, t, h => rfl
  | s :: T, a, t, h => by
    rw [fillW, fillW_out f T _ t (fun h' => h (List.mem_cons_of_mem _ h')), put_slot_ne a (some s) _ t (by intro e; injection e with e; exact h (e ▸ List.mem_cons_self))]
theorem fillW_in (f : Tmp → Value) : ∀ (T : List Tmp) (a : Act) (t : Tmp), t ∈ T → t < a.tmps.size → (fillW T f a).tmps[t]? = some (f t)
  | [], a, t, h, _ => by cases h
  | s :: T, a, t, h, hs => by
    by_cases ht : t ∈ T
    · rw [fillW]; exact fillW_in f T _ t ht (by rw [put_size]; exact hs)
    · rcases List.mem_cons.1 h with rfl | h'
      · rw [fillW, fillW_out f T _ t ht, put_slot a t _ hs]
      · exact absurd h' ht
def slotv (a : Act) (t : Tmp) : Value := a.tmps.getD t undef
theorem slotv_some {a : Act} {t : Tmp} (h : t < a.tmps.size) : a.tmps[t]? = some (slotv a t) := by
  unfold slotv
  rw [Array.getD_eq_getD_getElem?, Array.getElem?_eq_getElem h, Option.getD_some]
def updW (f : Tmp → Value) (d : Option Tmp) (u : Value) (t : Tmp) : Value := if d = some t then u else f t

section
variable (P : Program) (ops : Array Oper) (C : World → Prop) (R : World → World → Prop)
def flowB (n : Nat) : Bool :=
  Region.noSelect ops && (List.range ops.size).all fun i => match ops[i]? with
    | none => true
    | some o => (o.after.all fun e => !Region.binds .any e || decide (e.on < i)) && (match o.dst with
        | some t => decide (t < n) && !(o.looksAt ops).contains t
        | none => true) && (List.range ops.size).all fun j => j == i || match ops[j]? with
      | none => true
      | some p => (match o.dst with
          | some t => p.dst != some t
          | none => true) && ((match p.dst with
            | some t => !(o.looksAt ops).contains t
            | none => true) || (o.after.any fun e => Region.binds .any e && e.on == j) || (p.after.any fun e => Region.binds .any e && e.on == i))
variable {ops} in
theorem flowB_spec {n : Nat} (h : flowB ops n = true) {i : Nat} {o : Oper} (hi : ops[i]? = some o) :
    (∀ e ∈ o.after, Region.binds .any e = true → e.on < i) ∧ (∀ t, o.dst = some t → t < n ∧ t ∉ o.looksAt ops) ∧
    (∀ j p, ops[j]? = some p → j ≠ i → (∀ t, o.dst = some t → p.dst ≠ some t) ∧ ((∀ t, p.dst = some t → t ∉ o.looksAt ops) ∨ (∃ e ∈ o.after, Region.binds .any e = true ∧ e.on = j) ∨ (∃ e ∈ p.after, Region.binds .any e = true ∧ e.on = i))) := by
  unfold flowB at h
  rw [Bool.and_eq_true, List.all_eq_true] at h
  have h1 := h.2 i (List.mem_range.2 (Array.getElem?_eq_some_iff.1 hi).1)
  simp only [hi, Bool.and_eq_true, List.all_eq_true] at h1
  obtain ⟨⟨ha, hd⟩, hp⟩ := h1
  refine ⟨fun e he hb => ?_, fun t ht => ?_, fun j p hj hne => ?_⟩
  · have := (Array.all_eq_true_iff_forall_mem.1 ha) e he
    rw [hb] at this
    simpa using this
  · rw [ht] at hd
    simpa using hd
  · have h2 := hp j (List.mem_range.2 (Array.getElem?_eq_some_iff.1 hj).1)
    simp only [hj, Bool.or_eq_true, beq_iff_eq, hne, false_or, Bool.and_eq_true] at h2
    refine ⟨fun t ht => ?_, ?_⟩
    · have := h2.1
      rw [ht] at this
      simpa using this
    · rcases h2.2 with (h3 | h3) | h3
      · left
        intro t ht
        rw [ht] at h3
        simpa using h3
      · right; left
        obtain ⟨e, he, hb⟩ := Array.any_eq_true'.1 h3
        simp only [Bool.and_eq_true, beq_iff_eq] at hb
        exact ⟨e, he, hb.1, hb.2⟩
      · right; right
        obtain ⟨e, he, hb⟩ := Array.any_eq_true'.1 h3
        simp only [Bool.and_eq_true, beq_iff_eq] at hb
        exact ⟨e, he, hb.1, hb.2⟩

def guardW (T : List Tmp) (o : Oper) : Bool := match o.guard with
  | some (g, _) => match (ops[g]?).bind (·.dst) with
    | some t => T.all fun s => s != t
    | none => true
  | none => true
def waitsB (o : Oper) (i : Nat) : Bool := o.after.toList.any fun e => Region.binds .any e && e.on == i
def knownW (o : Oper) (N : List Fc) (f : Tmp → Value) (w : World) : Prop := ∀ F ∈ N, waitsB o F.at_ = true → F.says (F.dep.map f) w
abbrev Dc := List Tmp × (List Value → World → Prop)
/-- one operation of the walk -/
def stepW (k : Nat) (T : List Tmp) (N : List Fc) (o : Oper) (a : Act) (next : List Tmp → List Fc → Act → Prop) : Prop :=
  guardW ops T o = true ∧
  if Region.wanted o (yielded ops a.tmps) = true then
    (∃ v, (∀ w f, C w → knownW o N f w → gives P o (fillW T f a) w fun u w' => u = v ∧ C w' ∧ R w w') ∧ next T N (a.put o.dst v)) ∨
    (∃ D : List Dc, (∀ d ∈ D, (∀ t ∈ d.1, o.dst = some t ∨ (t ∈ T ∧ t ∈ o.looksAt ops)) ∧ ∀ l w w', R w w' → d.2 l w → d.2 l w') ∧
      (∀ w f, C w → knownW o N f w → gives P o (fillW T f a) w fun u w' => (∀ d ∈ D, d.2 (d.1.map (updW f o.dst u)) w') ∧ C w' ∧ R w w') ∧ next (o.dst.toList ++ T) (D.map (fun d => ⟨k, d.1, d.2⟩) ++ N) (a.put o.dst undef))
  else next T N (a.put o.dst undef)
def wpW (End : List Tmp → List Fc → Act → Prop) : Nat → List Oper → List Tmp → List Fc → Act → Prop
  | k, [], T, N, a => End T N a
  | k, o :: rest, T, N, a => stepW P ops C R k T N o a (wpW End (k + 1) rest)

def okF (G : Nat → Option Oper) (F : Fc) : Prop := ∃ p, G F.at_ = some p ∧ (∀ t ∈ F.dep, p.dst = some t ∨ (t ∈ p.looksAt ops ∧ ∃ m q, m < F.at_ ∧ G m = some q ∧ q.dst = some t)) ∧ ∀ l w w', R w w' → F.says l w → F.says l w'
/-- what the walk has shown of one operation; 'fin': the frame at the walk's end -/
def caseW (fin : Act) (Tf : List Tmp) (Nf : List Fc) (k : Nat) (T : List Tmp) (N : List Fc) (o : Oper) (b : Act) : Prop :=
  guardW ops T o = true ∧
  if Region.wanted o (yielded ops b.tmps) = true then
    (∃ v, (∀ w f, C w → knownW o N f w → gives P o (fillW T f b) w fun u w' => u = v ∧ C w' ∧ R w w') ∧ (∀ t, o.dst = some t → fin.tmps[t]? = some v ∧ t ∉ Tf) ∧ ∀ F ∈ Nf, F.at_ ≠ k) ∨
    (∃ D : List Dc, (∀ w f, C w → knownW o N f w → gives P o (fillW T f b) w fun u w' => (∀ d ∈ D, d.2 (d.1.map (updW f o.dst u)) w') ∧ C w' ∧ R w w') ∧ (∀ t, o.dst = some t → t ∈ Tf) ∧ ∀ F ∈ Nf, F.at_ = k → ∃ d ∈ D, F = ⟨k, d.1, d.2⟩)
  else (∀ t, o.dst = some t → fin.tmps[t]? = some undef ∧ t ∉ Tf) ∧ ∀ F ∈ Nf, F.at_ ≠ k

theorem wpW_out {End : List Tmp → List Fc → Act → Prop} (G : Nat → Option Oper) (n : Nat) (hd : ∀ (i j : Nat) (o p : Oper) (t : Tmp), G i = some o → G j = some p → o.dst = some t → p.dst = some t → i = j) (hn : ∀ (i : Nat) (o : Oper) (t : Tmp), G i = some o → o.dst = some t → t < n) :
    ∀ (l : List Oper) (k : Nat) (T : List Tmp) (N : List Fc) (a : Act), (∀ j, l[j]? = G (k + j)) → a.tmps.size = n → (∀ t ∈ T, ∃ i o, i < k ∧ G i = some o ∧ o.dst = some t) → (∀ F ∈ N, F.at_ < k) → wpW P ops C R End k l T N a →
    ∃ (fin : Act) (Tf : List Tmp) (Nf : List Fc), End Tf Nf fin ∧ fin.defers = a.defers ∧ fin.tmps.size = n ∧ (∀ t, (∀ m p, k ≤ m → G m = some p → p.dst ≠ some t) → fin.tmps[t]? = a.tmps[t]?) ∧ (∀ t ∈ T, t ∈ Tf) ∧
      (∀ t ∈ Tf, t ∈ T ∨ ∃ m o, k ≤ m ∧ G m = some o ∧ o.dst = some t) ∧ (∀ F ∈ N, F ∈ Nf) ∧ (∀ F ∈ Nf, F ∈ N ∨ (k ≤ F.at_ ∧ okF ops R G F)) ∧
      ∀ i o, k ≤ i → G i = some o → ∃ (b : Act) (Tb : List Tmp) (Nb : List Fc), (∀ t, (∀ m p, k ≤ m → m < i → G m = some p → p.dst ≠ some t) → b.tmps[t]? = a.tmps[t]?) ∧ (∀ t, (∀ m p, i ≤ m → G m = some p → p.dst ≠ some t) → b.tmps[t]? = fin.tmps[t]?) ∧
        b.tmps.size = n ∧ (∀ t ∈ Tb, t ∈ Tf ∧ ∃ m o', m < i ∧ G m = some o' ∧ o'.dst = some t) ∧ (∀ t ∈ Tf, t ∈ Tb ∨ ∃ m o', i ≤ m ∧ G m = some o' ∧ o'.dst = some t) ∧ (∀ F ∈ Nb, F ∈ Nf) ∧ caseW P ops C R fin Tf Nf i Tb Nb o b
  | [], k, T, N, a, hl, hsz, hT, hN, h => by
    have hnone : ∀ m p, k ≤ m → G m = some p → False := fun m p hm hp => by
      have := hl (m - k)
      rw [show k + (m - k) = m by omega, hp] at this
      simp at this
    exact ⟨a, T, N, h, rfl, hsz, fun _ _ => rfl, fun _ h => h, fun _ h => .inl h, fun _ h => h, fun _ h => .inl h, fun i o hi ho => (hnone i o hi ho).elim⟩
  | o :: rest, k, T, N, a, hl, hsz, hT, hN, h => by
    have hk : G k = some o := by simpa using (hl 0).symm
    have hl' : ∀ j, rest[j]? = G (k + 1 + j) := fun j => by have := hl (j + 1); simpa [Nat.add_assoc, Nat.add_comm 1 j] using this
    have go : ∀ (T' : List Tmp) (N' : List Fc) (v : Value), (∀ t ∈ T', t ∈ T ∨ o.dst = some t) → (∀ t ∈ T, t ∈ T') → (∀ F ∈ N', F ∈ N ∨ (F.at_ = k ∧ okF ops R G F)) → (∀ F ∈ N, F ∈ N') → wpW P ops C R End (k + 1) rest T' N' (a.put o.dst v) →
        (∀ fin Tf Nf, (∀ t, o.dst = some t → fin.tmps[t]? = some v) → (∀ t ∈ T', t ∈ Tf) → (∀ t ∈ Tf, t ∈ T' ∨ ∃ m o', k + 1 ≤ m ∧ G m = some o' ∧ o'.dst = some t) → (∀ F ∈ Nf, F.at_ = k → F ∈ N') → caseW P ops C R fin Tf Nf k T N o a) →
        ∃ (fin : Act) (Tf : List Tmp) (Nf : List Fc), End Tf Nf fin ∧ fin.defers = a.defers ∧ fin.tmps.size = n ∧ (∀ t, (∀ m p, k ≤ m → G m = some p → p.dst ≠ some t) → fin.tmps[t]? = a.tmps[t]?) ∧ (∀ t ∈ T, t ∈ Tf) ∧
          (∀ t ∈ Tf, t ∈ T ∨ ∃ m o, k ≤ m ∧ G m = some o ∧ o.dst = some t) ∧ (∀ F ∈ N, F ∈ Nf) ∧ (∀ F ∈ Nf, F ∈ N ∨ (k ≤ F.at_ ∧ okF ops R G F)) ∧
          ∀ i o, k ≤ i → G i = some o → ∃ (b : Act) (Tb : List Tmp) (Nb : List Fc), (∀ t, (∀ m p, k ≤ m → m < i → G m = some p → p.dst ≠ some t) → b.tmps[t]? = a.tmps[t]?) ∧ (∀ t, (∀ m p, i ≤ m → G m = some p → p.dst ≠ some t) → b.tmps[t]? = fin.tmps[t]?) ∧
            b.tmps.size = n ∧ (∀ t ∈ Tb, t ∈ Tf ∧ ∃ m o', m < i ∧ G m = some o' ∧ o'.dst = some t) ∧ (∀ t ∈ Tf, t ∈ Tb ∨ ∃ m o', i ≤ m ∧ G m = some o' ∧ o'.dst = some t) ∧ (∀ F ∈ Nb, F ∈ Nf) ∧ caseW P ops C R fin Tf Nf i Tb Nb o b := by
      intro T' N' v hT1 hT2 hN1 hN2 hw hcase
      obtain ⟨fin, Tf, Nf, he, hdef, hfs, hs, hsub, hTf, hNsub, hNf, hrest⟩ := wpW_out (End := End) G n hd hn rest (k + 1) T' N' (a.put o.dst v) hl' (by rw [put_size]; exact hsz)
        (fun t ht => by
          rcases hT1 t ht with h1 | h1
          · obtain ⟨i, o', hi, ho', hdst⟩ := hT t h1
            exact ⟨i, o', by omega, ho', hdst⟩
          · exact ⟨k, o, by omega, hk, h1⟩) (fun F hF => by
          rcases hN1 F hF with h1 | h1
          · have := hN F h1; omega
          · have := h1.1; omega) hw
      have hfin : ∀ t, o.dst = some t → fin.tmps[t]? = some v := fun t ht => by
        rw [hs t (fun m p hm hp hpt => by have := hd k m o p t hk hp ht hpt; omega), ht]
        exact put_slot a t v (by rw [hsz]; exact hn k o t hk ht)
      refine ⟨fin, Tf, Nf, he, by rw [hdef, put_defs], hfs, fun t ht => ?_, fun t ht => hsub t (hT2 t ht), fun t ht => ?_, fun F hF => hNsub F (hN2 F hF), fun F hF => ?_, fun i o' hi ho' => ?_⟩
      · rw [hs t (fun m p hm hp => ht m p (by omega) hp), put_slot_ne a o.dst v t (ht k o (Nat.le_refl _) hk)]
      · rcases hTf t ht with h1 | ⟨m, o', hm, ho', hdst⟩
        · rcases hT1 t h1 with h2 | h2
          · exact .inl h2
          · exact .inr ⟨k, o, Nat.le_refl _, hk, h2⟩
        · exact .inr ⟨m, o', by omega, ho', hdst⟩
      · rcases hNf F hF with h1 | ⟨h1, h2⟩
        · rcases hN1 F h1 with h2 | ⟨h2, h3⟩
          · exact .inl h2
          · exact .inr ⟨by omega, h3⟩
        · exact .inr ⟨by omega, h2⟩
      · rcases Nat.lt_or_ge k i with hlt | hge
        · obtain ⟨b, Tb, Nb, f1, f2, f3, f4, f5, f6, f7⟩ := hrest i o' (by omega) ho'
          refine ⟨b, Tb, Nb, fun t ht => ?_, f2, f3, f4, f5, f6, f7⟩
          rw [f1 t (fun m p hm hmi hp => ht m p (by omega) hmi hp), put_slot_ne a o.dst v t (ht k o (Nat.le_refl _) hlt hk)]
        · obtain rfl : i = k := by omega
          rw [hk] at ho'
          injection ho' with ho'
          subst ho'
          refine ⟨a, T, N, fun _ _ => rfl, fun t ht => ?_, hsz, fun t ht => ⟨hsub t (hT2 t ht), hT t ht⟩, fun t ht => ?_, fun F hF => hNsub F (hN2 F hF), hcase fin Tf Nf hfin hsub hTf fun F hF hFk => ?_⟩
          · rw [hs t (fun m p hm hp => ht m p (by omega) hp), put_slot_ne a o.dst v t (ht i o (Nat.le_refl _) hk)]
          · rcases hTf t ht with h1 | ⟨m, o', hm, ho', hdst⟩
            · rcases hT1 t h1 with h2 | h2
              · exact .inl h2
              · exact .inr ⟨i, o, Nat.le_refl _, hk, h2⟩
            · exact .inr ⟨m, o', by omega, ho', hdst⟩
          · rcases hNf F hF with h1 | ⟨h1, _⟩
            · exact h1
            · omega
    have noT : ∀ (Tf : List Tmp) (t : Tmp), o.dst = some t → (∀ t ∈ Tf, t ∈ T ∨ ∃ m o', k + 1 ≤ m ∧ G m = some o' ∧ o'.dst = some t) → t ∉ Tf := by
      intro Tf t ht hTf hin
      rcases hTf _ hin with h1 | ⟨m, o', hm, ho', hdst⟩
      · obtain ⟨i, o', hi, ho', hdst⟩ := hT _ h1
        have := hd i k o' o t ho' hk hdst ht
        omega
      · have := hd m k o' o t ho' hk hdst ht
        omega
    obtain ⟨hg, h⟩ := h
    by_cases hwant : Region.wanted o (yielded ops a.tmps) = true
    · rw [if_pos hwant] at h
      rcases h with ⟨v, hv, hnext⟩ | ⟨D, hD, hF, hnext⟩
      · exact go T N v (fun _ h => .inl h) (fun _ h => h) (fun _ h => .inl h) (fun _ h => h) hnext fun fin Tf Nf hfin _ hTf hNk => ⟨hg, by
          rw [if_pos hwant]
          exact .inl ⟨v, hv, fun t ht => ⟨hfin t ht, noT Tf t ht hTf⟩, fun F hF hFk => by have := hN F (hNk F hF hFk); omega⟩⟩
      · refine go _ _ undef (fun t ht => ?_) (fun t ht => List.mem_append_right _ ht) (fun F hF => ?_) (fun F hF => List.mem_append_right _ hF) hnext fun fin Tf Nf hfin hsub hTf hNk => ⟨hg, ?_⟩
        · rcases List.mem_append.1 ht with h1 | h1
          · exact .inr (by simpa using h1)
          · exact .inl h1
        · rcases List.mem_append.1 hF with h1 | h1
          · obtain ⟨d, hd1, rfl⟩ := List.mem_map.1 h1
            refine .inr ⟨rfl, o, hk, fun t ht => ?_, (hD d hd1).2⟩
            rcases (hD d hd1).1 t ht with h2 | ⟨h2, h3⟩
            · exact .inl h2
            · obtain ⟨m, q, hm, hq, hqt⟩ := hT t h2
              exact .inr ⟨h3, m, q, hm, hq, hqt⟩
          · exact .inl h1
        · rw [if_pos hwant]
          refine .inr ⟨D, hF, fun t ht => hsub t (List.mem_append_left _ (by simp [ht])), fun F hF hFk => ?_⟩
          rcases List.mem_append.1 (hNk F hF hFk) with h1 | h1
          · obtain ⟨d, hd1, rfl⟩ := List.mem_map.1 h1
            exact ⟨d, hd1, rfl⟩
          · have := hN F h1; omega
    · rw [if_neg hwant] at h
      exact go T N undef (fun _ h => .inl h) (fun _ h => h) (fun _ h => .inl h) (fun _ h => h) h fun fin Tf Nf hfin _ hTf hNk => ⟨hg, by
        rw [if_neg hwant]
        exact ⟨fun t ht => ⟨hfin t ht, noT Tf t ht hTf⟩, fun F hF hFk => by have := hN F (hNk F hF hFk); omega⟩⟩

def flowJ (G : Nat → Option Oper) (a0 fin : Act) (Tf : List Tmp) (Nf : List Fc) (listed : Array Bool) (a : Act) (w : World) : Prop :=
  C w ∧ a.defers = a0.defers ∧ a.tmps.size = a0.tmps.size ∧ listed.size = ops.size ∧
  (∀ (t : Tmp), (∀ (j : Nat) (p : Oper), G j = some p → p.dst = some t → listed.getD j false = false) → a.tmps[t]? = a0.tmps[t]?) ∧
  (∀ (j : Nat) (p : Oper) (t : Tmp), G j = some p → p.dst = some t → listed.getD j false = true → t ∉ Tf → a.tmps[t]? = fin.tmps[t]?) ∧
  (∀ F ∈ Nf, listed.getD F.at_ false = true → F.says (F.dep.map (slotv a)) w) ∧
  (∀ (j : Nat) (p : Oper), G j = some p → listed.getD j false = true → ∀ e ∈ p.after, Region.binds .any e = true → listed.getD e.on false = true)

theorem flowJ_step {G : Nat → Option Oper} (hG : ∀ i o, G i = some o → ops[i]? = some o) {a0 fin : Act} (spec : flowB ops a0.tmps.size = true) {Tf : List Tmp} {Nf : List Fc} {listed : Array Bool} {a : Act} {w w' : World} (hd : ∀ (i j : Nat) (o p : Oper) (t : Tmp), G i = some o → G j = some p → o.dst = some t → p.dst = some t → i = j)
    (hn : ∀ (i : Nat) (o : Oper) (t : Tmp), G i = some o → o.dst = some t → t < a0.tmps.size) (hNf : ∀ F ∈ Nf, okF ops R G F)
    (h : flowJ ops C G a0 fin Tf Nf listed a w) {i : Nat} {o : Oper} (ho : G i = some o) (hil : listed.getD i false = false) (hall : ∀ e ∈ o.after, Region.binds .any e = true → listed.getD e.on false = true) (hC : C w') (hR : R w w') (u : Value)
    (hu : ∀ t, o.dst = some t → t ∉ Tf → fin.tmps[t]? = some u) (hF : ∀ F ∈ Nf, F.at_ = i → F.says (F.dep.map (updW (slotv a) o.dst u)) w') : flowJ ops C G a0 fin Tf Nf (listed.setIfInBounds i true) (a.put o.dst u) w' := by
  obtain ⟨_, h1, h2, h3, hU, hL, hFF, hD⟩ := h
  have hi : i < listed.size := by rw [h3]; exact (Array.getElem?_eq_some_iff.1 (hG i o ho)).1
  have hself : (listed.setIfInBounds i true).getD i false = true := by simp [hi]
  refine ⟨hC, by rw [put_defs]; exact h1, by rw [put_size]; exact h2, by simpa using h3, fun t ht => ?_, fun j p t hj hp hl hTf => ?_, fun F hFm hl => ?_, fun j p hj hl e he hb => ?_⟩
  · have hne : o.dst ≠ some t := fun e => by
      have := ht i o ho e
      rw [hself] at this
      cases this
    rw [put_slot_ne a o.dst u t hne]
    refine hU t fun j p hj hp => ?_
    have := ht j p hj hp
    by_cases e : i = j
    · subst e; rw [hself] at this; cases this
    · rwa [getD_set_ne false e] at this
  · by_cases e : i = j
    · subst e
      rw [ho] at hj
      injection hj with hj
      subst hj
      rw [hp, put_slot a t u (by rw [h2]; exact hn i o t ho hp), hu t hp hTf]
    · rw [getD_set_ne false e] at hl
      rw [put_slot_ne a o.dst u t (fun h => e (hd i j o p t ho hj h hp))]
      exact hL j p t hj hp hl hTf
  · by_cases e : i = F.at_
    · have := hF F hFm e.symm
      have hm : F.dep.map (slotv (a.put o.dst u)) = F.dep.map (updW (slotv a) o.dst u) := List.map_congr_left fun t ht => by
        unfold updW
        by_cases hdt : o.dst = some t
        · rw [if_pos hdt]
          unfold slotv
          rw [Array.getD_eq_getD_getElem?, hdt, put_slot a t u (by rw [h2]; exact hn i o t ho hdt), Option.getD_some]
        · rw [if_neg hdt]
          unfold slotv
          rw [Array.getD_eq_getD_getElem?, Array.getD_eq_getD_getElem?, put_slot_ne a o.dst u t hdt]
      rw [hm]
      exact this
    · rw [getD_set_ne false e] at hl
      obtain ⟨p, hp, hdep, hst⟩ := hNf F hFm
      have hold := hst _ _ _ hR (hFF F hFm hl)
      have hm : F.dep.map (slotv (a.put o.dst u)) = F.dep.map (slotv a) := List.map_congr_left fun t ht => by
        have hne : o.dst ≠ some t := fun hdt => by
          rcases hdep t ht with h4 | ⟨h4, m, q, hm, hq, hqt⟩
          · exact e (hd i F.at_ o p t ho hp hdt h4)
          · obtain rfl : i = m := hd i m o q t ho hq hdt hqt
            rcases ((flowB_spec spec (hG _ _ hp)).2.2 i q (hG _ _ hq) (by omega)).2 with h5 | ⟨e', he', hb', hon⟩ | ⟨e', he', hb', hon⟩
            · exact h5 t hqt h4
            · have := hD F.at_ p hp hl e' he' hb'
              rw [hon, hil] at this
              cases this
            · have := (flowB_spec spec (hG _ _ hq)).1 e' he' hb'
              omega
        unfold slotv
        rw [Array.getD_eq_getD_getElem?, Array.getD_eq_getD_getElem?, put_slot_ne a o.dst u t hne]
      rw [hm]
      exact hold
  · by_cases e' : i = j
    · subst e'
      rw [ho] at hj
      injection hj with hj
      subst hj
      exact getD_set_true (hall e he hb)
    · rw [getD_set_ne false e'] at hl
      exact getD_set_true (hD j p hj hl e he hb)
end

def reachB (ops : Array Oper) : Nat → Oper → Nat → Bool
  | 0, o, i => o.after.any fun e => Region.binds .any e && e.on == i
  | f + 1, o, i => (o.after.any fun e => Region.binds .any e && e.on == i) || o.after.any fun e => Region.binds .any e && decide (i < e.on) && (match ops[e.on]? with
    | some p => reachB ops f p i
    | none => false)
/-- an operation waits for another one, at once or through others -/
inductive ReachO (ops : Array Oper) : Oper → Nat → Prop
  | one {o : Oper} {e : Edge} : e ∈ o.after → Region.binds .any e = true → ReachO ops o e.on
  | more {o p : Oper} {e : Edge} {i : Nat} : e ∈ o.after → Region.binds .any e = true → ops[e.on]? = some p → ReachO ops p i → ReachO ops o i
theorem reachB_spec {ops : Array Oper} : ∀ (f : Nat) (o : Oper) (i : Nat), reachB ops f o i = true → ReachO ops o i := by
  intro f
  induction f with
  | zero =>
    intro o i h
    unfold reachB at h
    obtain ⟨e, he, hb⟩ := Array.any_eq_true'.1 h
    simp only [Bool.and_eq_true, beq_iff_eq] at hb
    obtain ⟨hb, rfl⟩ := hb
    exact .one he hb
  | succ f ih =>
    intro o i h
    unfold reachB at h
    rw [Bool.or_eq_true] at h
    rcases h with h | h
    · obtain ⟨e, he, hb⟩ := Array.any_eq_true'.1 h
      simp only [Bool.and_eq_true, beq_iff_eq] at hb
      obtain ⟨hb, rfl⟩ := hb
      exact .one he hb
    · obtain ⟨e, he, hb⟩ := Array.any_eq_true'.1 h
      simp only [Bool.and_eq_true, decide_eq_true_eq] at hb
      obtain ⟨⟨hb1, _⟩, hb3⟩ := hb
      cases hq : ops[e.on]? with
      | none => rw [hq] at hb3; cases hb3
      | some q => rw [hq] at hb3; exact .more he hb1 hq (ih q i hb3)
theorem ReachO.keeps {ops : Array Oper} {L : Nat → Prop} (hstep : ∀ (j : Nat) (p : Oper), ops[j]? = some p → L j → ∀ f ∈ p.after, Region.binds .any f = true → L f.on) {o : Oper} {i : Nat} (h : ReachO ops o i) : (∀ e ∈ o.after, Region.binds .any e = true → L e.on) → L i := by
  induction h with
  | one he hb => exact fun hall => hall _ he hb
  | more he hb hp _ ih => exact fun hall => ih (hstep _ _ hp (hall _ he hb))
def restB (ops : Array Oper) (n : Nat) : Bool := decide (n ≤ ops.size) && (List.range ops.size).all fun j => decide (j < n) || (match ops[j]? with
  | some o => (List.range j).all fun i => reachB ops 4 o i || reachB ops 12 o i
  | none => false)
theorem restB_spec {ops : Array Oper} {n : Nat} (h : restB ops n = true) : n ≤ ops.size ∧ ∀ j o, n ≤ j → ops[j]? = some o → ∀ i, i < j → ReachO ops o i := by
  unfold restB at h
  rw [Bool.and_eq_true, decide_eq_true_eq, List.all_eq_true] at h
  refine ⟨h.1, fun j o hnj ho i hij => ?_⟩
  have h1 := h.2 j (List.mem_range.2 (Array.getElem?_eq_some_iff.1 ho).1)
  rw [Bool.or_eq_true, decide_eq_true_eq, ho] at h1
  rcases h1 with h1 | h1
  · omega
  simp only [List.all_eq_true, List.mem_range] at h1
  have h2 := h1 i hij
  rw [Bool.or_eq_true] at h2
  rcases h2 with h2 | h2 <;> exact reachB_spec _ _ _ h2

/-- ONE WALK IN THE ORDER OF THE TEXT serves every order; from the n-th operation on they may do whatever they like. -/
theorem any_flow (n : Nat) (S : World → Prop) (R : World → World → Prop) {P : Program} {Q : Exit → Act → World → Prop} {a : Act} {w : World} {l : List Oper} (hm : P.follows .mixedOrders = true) (hB : flowB l.toArray a.tmps.size = true) (hLast : restB l.toArray n = true) (hRr : ∀ w, R w w) (hS : S w.drew)
    (h : wpW P l.toArray S R (fun T N b => ∀ w' f, S w' → (∀ F ∈ N, F.says (F.dep.map f) w') → wpList P l.toArray Q (l.drop n) (fillW T f b) w') 0 (l.take n) [] [] a) : wpAny P .any l.toArray Q l.toArray.size (Array.replicate l.toArray.size false) a { w with drawn := w.drawn + 1 } := by
  have spec := fun i o => flowB_spec (i := i) (o := o) hB
  obtain ⟨hsize, hT⟩ := restB_spec hLast
  have hll : n ≤ l.length := by simpa using hsize
  obtain ⟨G, hGd⟩ : ∃ G : Nat → Option Oper, G = fun m => if m < n then l.toArray[m]? else none := ⟨_, rfl⟩
  have hG : ∀ i o, G i = some o → l.toArray[i]? = some o := fun i o h => by
    rw [hGd] at h
    by_cases hi : i < n
    · simpa [hi] using h
    · simp [hi] at h
  have hGlt : ∀ i o, G i = some o → i < n := fun i o h => by
    rw [hGd] at h
    by_cases hi : i < n
    · exact hi
    · simp [hi] at h
  have hGof : ∀ i o, i < n → l.toArray[i]? = some o → G i = some o := fun i o hi h => by rw [hGd]; simpa [hi] using h
  have hd : ∀ (i j : Nat) (o p : Oper) (t : Tmp), G i = some o → G j = some p → o.dst = some t → p.dst = some t → i = j := by
    intro i j o p t ho hp hot hpt
    have ho := hG _ _ ho
    have hp := hG _ _ hp
    apply Classical.byContradiction
    intro hne
    exact ((spec i o ho).2.2 j p hp (Ne.symm hne)).1 t hot hpt
  have hn : ∀ (i : Nat) (o : Oper) (t : Tmp), G i = some o → o.dst = some t → t < a.tmps.size := fun i o t ho ht => ((spec i o (hG _ _ ho)).2.1 t ht).1
  have hsel : ∀ (j : Nat) (o : Oper) cs b, l.toArray[j]? = some o → o.op ≠ .select cs b := Region.noSelect_spec (by unfold flowB at hB; rw [Bool.and_eq_true] at hB; exact hB.1)
  obtain ⟨fin, Tf, Nf, hEnd, hdef, hfs, hun, _, hTf, _, hNf0, hops⟩ := wpW_out P l.toArray S R G a.tmps.size hd hn (l.take n) 0 [] [] a (fun j => by rw [hGd, Nat.zero_add]; by_cases hj : j < n <;> simp [hj]; omega) rfl (fun p h => by cases h) (fun p h => by cases h) h
  have hNf : ∀ F ∈ Nf, okF l.toArray R G F := fun F hF => by
    rcases hNf0 F hF with h1 | h1
    · cases h1
    · exact h1.2
  have hTw : ∀ t ∈ Tf, ∃ m o, G m = some o ∧ o.dst = some t := fun t ht => by
    rcases hTf t ht with h1 | ⟨m, o, _, h2, h3⟩
    · cases h1
    · exact ⟨m, o, h2, h3⟩
  -- all that stands ahead of n is done: what is told at the walk's end holds
  have atEnd : ∀ (listed : Array Bool) (a' : Act) (w1 : World), flowJ l.toArray S G a fin Tf Nf listed a' w1 → (∀ (j : Nat) (p : Oper), G j = some p → listed.getD j false = true) → wpList P l.toArray Q (l.drop n) a' w1 := by
    intro listed a' w1 ⟨hC1, hdf, hsz, hls, hU, hL, hFF, hD⟩ hallj
    have h1 := hEnd w1 (slotv a') hC1 fun F hF => hFF F hF (by obtain ⟨p, hp, _⟩ := hNf F hF; exact hallj _ p hp)
    have e : a' = fillW Tf (slotv a') fin := by
      obtain ⟨at_, ad⟩ := a'
      have e1 : ad = (fillW Tf (slotv ⟨at_, ad⟩) fin).defers := by rw [fillW_defs, hdef]; exact hdf
      have e2 : at_ = (fillW Tf (slotv ⟨at_, ad⟩) fin).tmps := Array.ext_getElem? fun t => by
        by_cases ht : t ∈ Tf
        · obtain ⟨m, o, hm, hmt⟩ := hTw t ht
          have hlt := hn m o t hm hmt
          rw [fillW_in _ Tf fin t ht (by rw [hfs]; exact hlt)]
          exact slotv_some (a := ⟨at_, ad⟩) (by rw [hsz]; exact hlt)
        · rw [fillW_out _ Tf fin t ht]
          by_cases hw : ∃ (j : Nat) (p : Oper), G j = some p ∧ p.dst = some t
          · obtain ⟨j, p, hj, hp⟩ := hw
            exact hL j p t hj hp (hallj j p hj) ht
          · rw [show at_[t]? = a.tmps[t]? from hU t (fun m q hq hqt => (hw ⟨m, q, hq, hqt⟩).elim), hun t (fun m q _ hq hqt => hw ⟨m, q, hq, hqt⟩)]
      generalize fillW Tf (slotv ⟨at_, ad⟩) fin = z at *
      obtain ⟨zt, zd⟩ := z
      simp only at e1 e2
      rw [e1, e2]
    rw [e]
    exact h1
  refine wpAny_inv P l.toArray (tailJ P l Q n (flowJ l.toArray S G a fin Tf Nf)) (fun listed a' w1 hJ i hi => ?_) (fun listed a' w1 hJ hr => ?_) _ _ _ _ (.inl ⟨fun j _ => replicate_false _ _, hS, rfl, rfl, by simp, fun _ _ => rfl, fun j p t hj _ hl => ?_, fun F hF hl => ?_, fun j p hj hl => ?_⟩) (by simp)
  · -- a step
    obtain ⟨hun_i, o, ho', hall⟩ := mem_ready.1 hi
    have hil0 : listed.getD i false = false := by
      obtain ⟨hl, hf⟩ := ready_false l.toArray hi
      simp [hl, hf]
    have hin : i < l.length := by have := (Array.getElem?_eq_some_iff.1 ho').1; simpa using this
    rcases hJ with ⟨hnl, hJ⟩ | ⟨m, hnm, hml, hsz2, hli, hq⟩
    case inr =>
      have him : i = m := by
        rw [hli i hin, decide_eq_false_iff_not] at hil0
        rcases Nat.lt_or_ge m i with h | h
        · exfalso
          have := (hT i o (by omega) ho' m h).keeps (L := fun k => k < m) (fun j p hp hj f hf hfb => by have := (spec j p hp).1 f hf hfb; omega) (fun e he hb => by
            have := hall e he hb
            have hel : e.on < l.length := by have := (spec i o ho').1 e he hb; omega
            rw [hli _ hel, decide_eq_true_eq] at this
            exact this)
          omega
        · omega
      subst him
      rw [drop_step ho'] at hq
      refine wpOp_of_list ho' hq fun a2 w2 h2 => .inr ⟨i + 1, by omega, by omega, by simp [hsz2], fun j hj => ?_, h2⟩
      by_cases e : i = j
      · subst e
        have : i < listed.size := by omega
        simp [this]
      · rw [getD_set_ne false e, hli j hj]
        congr 1
        apply propext
        omega
    by_cases hlt_n : i < n
    case neg =>
      have hJ0 := hJ
      obtain ⟨hC1, hdf, hsz, hls, hU, hL, hFF, hD⟩ := hJ
      have hbefore : ∀ k, k < i → listed.getD k false = true := fun k hk => by
        refine (hT i o (by omega) ho' k hk).keeps (L := fun k => listed.getD k false = true) (fun j p hp hj f hf hfb => ?_) (fun e he hb => hall e he hb)
        rcases Nat.lt_or_ge j n with h | h
        · exact hD j p (hGof _ _ h hp) hj f hf hfb
        · rw [hnl _ h] at hj; cases hj
      obtain rfl : i = n := by
        rcases Nat.lt_or_ge n i with h | h
        · have := hbefore n h
          rw [hnl n (Nat.le_refl _)] at this
          cases this
        · omega
      have hallj : ∀ (j : Nat) (p : Oper), G j = some p → listed.getD j false = true := fun j p hj => hbefore j (hGlt j p hj)
      have hq := atEnd listed a' w1 hJ0 hallj
      rw [drop_step ho'] at hq
      refine wpOp_of_list ho' hq fun a2 w2 h2 => .inr ⟨i + 1, by omega, by omega, by simp [hls], fun j hj => ?_, h2⟩
      by_cases e : i = j
      · subst e
        have : i < listed.size := by rw [hls]; simpa using hin
        simp [this]
      · rw [getD_set_ne false e]
        rcases Nat.lt_or_ge j i with h | h
        · rw [hbefore j h]; simp; omega
        · rw [hnl j h]; simp; omega
    have ho : G i = some o := hGof i o hlt_n ho'
    have hkeep : ∀ a2 w2, flowJ l.toArray S G a fin Tf Nf (listed.setIfInBounds i true) a2 w2 → tailJ P l Q n (flowJ l.toArray S G a fin Tf Nf) (listed.setIfInBounds i true) a2 w2 := fun a2 w2 h => .inl ⟨fun j hj => by rw [getD_set_ne false (by omega)]; exact hnl j hj, h⟩
    obtain ⟨b, Tb, Nb, f1, f2, f3, f4, f5, f6, hguard, hcase⟩ := hops i o (Nat.zero_le _) ho
    obtain ⟨hC1, hdf, hsz, hls, hU, hL, hFF, hD⟩ := hJ
    have hJ : flowJ l.toArray S G a fin Tf Nf listed a' w1 := ⟨hC1, hdf, hsz, hls, hU, hL, hFF, hD⟩
    -- what is looked at
    have writer : ∀ t ∈ o.looksAt l.toArray, ∀ (j : Nat) (p : Oper), G j = some p → p.dst = some t → (j < i ∧ listed.getD j false = true) ∨ (i < j ∧ listed.getD j false = false) := by
      intro t ht j p hj hp
      have hne : j ≠ i := by
        rintro rfl
        rw [ho] at hj
        injection hj with hj
        subst hj
        exact ((spec j o (hG _ _ ho)).2.1 t hp).2 ht
      rcases ((spec i o ho').2.2 j p (hG _ _ hj) hne).2 with h1 | ⟨e, he, hb, rfl⟩ | ⟨e, he, hb, hei⟩
      · exact absurd ht (h1 t hp)
      · exact .inl ⟨(spec i o ho').1 e he hb, hall e he hb⟩
      · refine .inr ⟨by have := (spec j p (hG _ _ hj)).1 e he hb; omega, ?_⟩
        cases hlj : listed.getD j false with
        | false => rfl
        | true =>
          have := hD j p hj hlj e he hb
          rw [hei, hil0] at this
          cases this
    have agree : ∀ t ∈ o.looksAt l.toArray, t ∉ Tb → a'.tmps[t]? = b.tmps[t]? := by
      intro t ht hNb
      by_cases hw : ∃ (j : Nat) (p : Oper), G j = some p ∧ p.dst = some t
      · obtain ⟨j, p, hj, hp⟩ := hw
        rcases writer t ht j p hj hp with ⟨hlt, hlj⟩ | ⟨hlt, hlj⟩
        · rw [f2 t (fun m q hm hq hqt => by have := hd m j q p t hq hj hqt hp; omega)]
          refine hL j p t hj hp hlj fun hF => ?_
          rcases f5 _ hF with h1 | ⟨m, q, hm, hq, hqt⟩
          · exact hNb h1
          · have := hd m j q p t hq hj hqt hp
            omega
        · rw [hU t (fun m q hq hqt => by have := hd m j q p t hq hj hqt hp; rw [this]; exact hlj), f1 t (fun m q _ hm hq hqt => by have := hd m j q p t hq hj hqt hp; omega)]
      · rw [hU t (fun m q hq hqt => (hw ⟨m, q, hq, hqt⟩).elim), f1 t (fun m q _ hm hq hqt => hw ⟨m, q, hq, hqt⟩)]
    have hwant : Region.wanted o (yielded l.toArray a'.tmps) = Region.wanted o (yielded l.toArray b.tmps) := by
      refine wanted_congr fun g x t hg ht => agree t ?_ fun hF => ?_
      · unfold Oper.looksAt
        refine List.mem_append_right _ ?_
        rw [hg]
        show t ∈ ((l.toArray[g]?).bind (·.dst)).toList
        rw [ht]
        simp
      · unfold guardW at hguard
        rw [hg] at hguard
        simp only [ht] at hguard
        have := List.all_eq_true.1 hguard _ hF
        simp at this
    have he : execOp a'.eval o = execOp (fillW Tb (slotv a') b).eval o := exec_congr (fun cs x => hsel i o cs x ho') fun t ht => by
      by_cases hb : t ∈ Tb
      · obtain ⟨_, m, q, _, hq, hqt⟩ := f4 t hb
        have hlt := hn m q t hq hqt
        rw [fillW_in _ Tb b t hb (by rw [f3]; exact hlt)]
        exact slotv_some (by rw [hsz]; exact hlt)
      · rw [fillW_out _ Tb b t hb]
        exact agree t ht hb
    have hkn : knownW o Nb (slotv a') w1 := fun F hF hw => by
      obtain ⟨e, he, hb⟩ := List.any_eq_true.1 hw
      simp only [Bool.and_eq_true, beq_iff_eq] at hb
      exact hFF F (f6 F hF) (by rw [← hb.2]; exact hall e (by simpa using he) hb.1)
    unfold wpOp
    simp only [ho']
    rw [hwant]
    by_cases hw : Region.wanted o (yielded l.toArray b.tmps) = true
    · rw [if_pos hw]
      rw [if_pos hw] at hcase
      refine .inl ?_
      rcases hcase with ⟨v, hv, hres, hno⟩ | ⟨D, hDv, hin2, hDk⟩
      · refine wp_of_gives (gives_congr he (hv w1 (slotv a') hC1 hkn)) fun u w2 ⟨hu, hC2, hR⟩ => hkeep _ _ <| flowJ_step l.toArray S R hG hB hd hn hNf hJ ho hil0 hall hC2 hR u (fun t ht _ => ?_) fun F hF hFk => absurd hFk (hno F hF)
        subst hu
        exact (hres t ht).1
      · refine wp_of_gives (gives_congr he (hDv w1 (slotv a') hC1 hkn)) fun u w2 ⟨hu, hC2, hR⟩ => hkeep _ _ <| flowJ_step l.toArray S R hG hB hd hn hNf hJ ho hil0 hall hC2 hR u (fun t ht hno => absurd (hin2 t ht) hno) fun F hF hFk => ?_
        obtain ⟨d, hd1, rfl⟩ := hDk F hF hFk
        exact hu d hd1
    · rw [if_neg hw]
      rw [if_neg hw] at hcase
      exact hkeep _ _ <| flowJ_step l.toArray S R hG hB hd hn hNf hJ ho hil0 hall hC1 (hRr w1) undef (fun t ht _ => (hcase.1 t ht).1) fun F hF hFk => absurd hFk (hcase.2 F hF)
  · -- the end
    rcases hJ with ⟨hnl, hJ0⟩ | ⟨m, hnm, hml, hsz2, hli, hq⟩
    case inr =>
      rcases Nat.lt_or_ge m l.length with h | h
      · exfalso
        have hms : m < l.toArray.size := by simpa using h
        have : m ∈ Region.ready .any l.toArray listed := mem_ready.2 ⟨by
          have h1 := hli m h
          have h2 : m < listed.size := by omega
          simpa [h2] using h1, _, Array.getElem?_eq_getElem hms, fun e he hb => by
            have hlt := (spec m _ (Array.getElem?_eq_getElem hms)).1 e he hb
            rw [hli e.on (by omega), decide_eq_true_eq]
            exact hlt⟩
        rw [hr] at this
        cases this
      · rw [List.drop_of_length_le h] at hq
        simpa [wpList] using hq
    have hJ1 := hJ0
    obtain ⟨hC1, hdf, hsz, hls, hU, hL, hFF, hD⟩ := hJ0
    have hallj : ∀ (j : Nat) (p : Oper), G j = some p → listed.getD j false = true := by
      intro j
      induction j using Nat.strongRecOn with
      | _ j ih =>
        intro p hp
        cases hlj : listed.getD j false with
        | true => rfl
        | false =>
          exfalso
          have hjl : j < listed.size := by rw [hls]; exact (Array.getElem?_eq_some_iff.1 (hG _ _ hp)).1
          have : j ∈ Region.ready .any l.toArray listed := mem_ready.2 ⟨by simpa [hjl] using hlj, p, hG _ _ hp, fun e he hb => by
            have hlt := (spec j p (hG _ _ hp)).1 e he hb
            have hjn := hGlt j p hp
            have hel : e.on < l.toArray.size := by omega
            exact ih e.on hlt _ (hGof e.on _ (by omega) (Array.getElem?_eq_getElem hel))⟩
          rw [hr] at this
          cases this
    rcases Nat.lt_or_ge n l.length with hlt | hge
    · exfalso
      have hns : n < l.toArray.size := by simpa using hlt
      have hnl2 : n < listed.size := by rw [hls]; exact hns
      have : n ∈ Region.ready .any l.toArray listed := mem_ready.2 ⟨by have h1 := hnl n (Nat.le_refl _); simpa [hnl2] using h1, _, Array.getElem?_eq_getElem hns, fun e he hb => by
        have hlt := (spec n _ (Array.getElem?_eq_getElem hns)).1 e he hb
        have hel : e.on < l.toArray.size := by omega
        exact hallj e.on _ (hGof e.on _ hlt (Array.getElem?_eq_getElem hel))⟩
      rw [hr] at this
      cases this
    · have hq := atEnd listed a' w1 hJ1 hallj
      rw [List.drop_of_length_le hge] at hq
      simpa [wpList] using hq
  · rw [replicate_false] at hl; cases hl
  · rw [replicate_false] at hl; cases hl
  · rw [replicate_false] at hl; cases hl
theorem wp_region_flow (n : Nat) (S : World → Prop) (R : World → World → Prop) {P : Program} {id : Nat} {Q : Exit → Act → World → Prop} {a : Act} {w : World} {l : List Oper} (hm : P.follows .mixedOrders = true) (hB : flowB l.toArray a.tmps.size = true) (hLast : restB l.toArray n = true) (hRr : ∀ w, R w w) (hS : S w.drew)
    (h : wpW P l.toArray S R (fun T N b => ∀ w' f, S w' → (∀ F ∈ N, F.says (F.dep.map f) w') → wpList P l.toArray Q (l.drop n) (fillW T f b) w') 0 (l.take n) [] [] a) : (Code.region id l.toArray true).wp P Q a w :=
  wp_region_any hm (any_flow n S R hm hB hLast hRr hS h)
end Go.Proofs.Ytnnpahjopfkchaa
