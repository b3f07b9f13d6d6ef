/- A region that draws its order: one walk in the order of the text, where some operations make new memory (their values are told by a fact alone). -/
import Derived.Test.YtnnpahjopfkchaaClass
set_option linter.unusedVariables false
set_option linter.unusedSimpArgs false
set_option linter.unusedSectionVars false
namespace Go.Proofs.Ytnnpahjopfkchaa
open Go.RowKit

/-- what an operation gives: a value, in a world -/
def gives (P : Program) (o : Oper) (a : Act) (w : World) (post : Value → World → Prop) : Prop :=
  match (execOp a.eval o).run P w with
  | .ok (.value u) w' => post u w'
  | .ok .skip w' => post undef w'
  | .ok (.enter f args) w' => Calls P f args w' fun e w'' => ∃ v, e = .returned v ∧ post v w''
  | _ => False
theorem wp_of_gives {P : Program} {o : Oper} {a : Act} {w : World} {post : Value → World → Prop} {K : Act → World → Prop} {Q : Exit → Act → World → Prop} (h : gives P o a w post) (hk : ∀ v w', post v w' → K (a.put o.dst v) w') : o.wp P a w K Q := by
  unfold gives at h
  unfold Oper.wp
  generalize (execOp a.eval o).run P w = r at *
  cases r with
  | ok n w' =>
    cases n <;> simp only at h <;> simp only [Oper.upon]
    case value u => exact hk _ _ h
    case skip => exact hk _ _ h
    case enter f args => exact h.mono fun e w'' ⟨v, he, hp⟩ => by subst he; exact hk _ _ hp
  | halt x w' => simp only at h
theorem gives_congr {P : Program} {o : Oper} {a b : Act} {w : World} {post : Value → World → Prop} (he : execOp a.eval o = execOp b.eval o) (h : gives P o b w post) : gives P o a w post := by
  unfold gives at *
  rw [he]
  exact h

section
variable (P : Program) (ops : Array Oper) (C : World → Prop) (R : World → World → Prop)
abbrev Fact := Value → World → Prop
def plainB (N : List (Tmp × Fact)) (o : Oper) : Bool := (o.looksAt ops).all fun t => N.all fun p => p.1 != t
def onlyB (N : List (Tmp × Fact)) (o : Oper) (t : Tmp) : Bool := (o.looksAt ops).contains t && (o.looksAt ops).all fun s => s == t || N.all fun p => p.1 != s
def guardB (N : List (Tmp × Fact)) (o : Oper) : Bool := match o.guard with
  | some (g, _) => match (ops[g]?).bind (·.dst) with
    | some t => N.all fun p => p.1 != t
    | none => true
  | none => true

/-- one operation of the walk -/
def stepR (N : List (Tmp × Fact)) (o : Oper) (a : Act) (next : List (Tmp × Fact) → Act → Prop) : Prop :=
  guardB ops N o = true ∧
  if Region.wanted o (yielded ops a.tmps) = true then
    (plainB ops N o = true ∧ ∃ v, (∀ w, C w → gives P o a w fun u w' => u = v ∧ C w' ∧ R w w') ∧ next N (a.put o.dst v)) ∨
    (plainB ops N o = true ∧ ∃ F t, o.dst = some t ∧ (∀ u w w', R w w' → F u w → F u w') ∧ (∀ w, C w → gives P o a w fun u w' => F u w' ∧ C w' ∧ R w w') ∧ next ((t, F) :: N) (a.put o.dst undef)) ∨
    (∃ t F, (t, F) ∈ N ∧ onlyB ops N o t = true ∧ ∃ v, (∀ w x, C w → F x w → gives P o (a.put (some t) x) w fun u w' => u = v ∧ C w' ∧ R w w') ∧ next N (a.put o.dst v))
  else next N (a.put o.dst undef)
def wpR (End : List (Tmp × Fact) → Act → Prop) : List Oper → List (Tmp × Fact) → Act → Prop
  | [], N, a => End N a
  | o :: rest, N, a => stepR P ops C R N o a (wpR End rest)
/-- the slots that were told by a fact alone get a letter each -/
def endF (Q : Act → Prop) (w : World) : List (Tmp × Fact) → Act → Prop
  | [], a => Q a
  | (t, F) :: N, a => ∀ x, F x w → endF Q w N (a.put (some t) x)
end

def flatB (ops : Array Oper) (n : Nat) : Bool :=
  Region.noSelect ops && (List.range ops.size).all fun i => match ops[i]? with
    | none => true
    | some o => (o.after.all fun e => decide (e.on < i)) && (match o.dst with
        | some t => decide (t < n) && !(o.looksAt ops).contains t
        | none => true) && (List.range ops.size).all fun j => j == i || match ops[j]? with
      | none => true
      | some p => (match o.dst with
          | some t => p.dst != some t
          | none => true) && ((match p.dst with
            | some t => !(o.looksAt ops).contains t
            | none => true) || (o.after.any fun e => Region.binds .any e && e.on == j) || (p.after.any fun e => Region.binds .any e && e.on == i))
theorem flatB_spec {ops : Array Oper} {n : Nat} (h : flatB ops n = true) {i : Nat} {o : Oper} (hi : ops[i]? = some o) :
    (∀ e ∈ o.after, e.on < i) ∧ (∀ t, o.dst = some t → t < n ∧ t ∉ o.looksAt ops) ∧
    (∀ j p, ops[j]? = some p → j ≠ i → (∀ t, o.dst = some t → p.dst ≠ some t) ∧ ((∀ t, p.dst = some t → t ∉ o.looksAt ops) ∨ (∃ e ∈ o.after, Region.binds .any e = true ∧ e.on = j) ∨ (∃ e ∈ p.after, Region.binds .any e = true ∧ e.on = i))) := by
  unfold flatB at h
  rw [Bool.and_eq_true, List.all_eq_true] at h
  have h1 := h.2 i (List.mem_range.2 (Array.getElem?_eq_some_iff.1 hi).1)
  simp only [hi, Bool.and_eq_true, List.all_eq_true] at h1
  obtain ⟨⟨ha, hd⟩, hp⟩ := h1
  refine ⟨fun e he => by simpa using (Array.all_eq_true_iff_forall_mem.1 ha) e he, fun t ht => ?_, fun j p hj hne => ?_⟩
  · rw [ht] at hd
    simpa using hd
  · have h2 := hp j (List.mem_range.2 (Array.getElem?_eq_some_iff.1 hj).1)
    simp only [hj, Bool.or_eq_true, beq_iff_eq, hne, false_or, Bool.and_eq_true] at h2
    refine ⟨fun t ht => ?_, ?_⟩
    · have := h2.1
      rw [ht] at this
      simpa using this
    · rcases h2.2 with (h3 | h3) | h3
      · left
        intro t ht
        rw [ht] at h3
        simpa using h3
      · right; left
        obtain ⟨e, he, hb⟩ := Array.any_eq_true'.1 h3
        simp only [Bool.and_eq_true, beq_iff_eq] at hb
        exact ⟨e, he, hb.1, hb.2⟩
      · right; right
        obtain ⟨e, he, hb⟩ := Array.any_eq_true'.1 h3
        simp only [Bool.and_eq_true, beq_iff_eq] at hb
        exact ⟨e, he, hb.1, hb.2⟩

theorem put_slot_ne (a : Act) (d : Option Tmp) (v : Value) (t : Tmp) (h : d ≠ some t) : (a.put d v).tmps[t]? = a.tmps[t]? := by
  cases d with
  | none => rfl
  | some d =>
    have : d ≠ t := fun e => h (by rw [e])
    simp [Act.put, Array.getElem?_setIfInBounds_ne this]
theorem put_slot (a : Act) (t : Tmp) (v : Value) (h : t < a.tmps.size) : (a.put (some t) v).tmps[t]? = some v := by
  simp [Act.put, h]
theorem put_size (a : Act) (d : Option Tmp) (v : Value) : (a.put d v).tmps.size = a.tmps.size := by
  cases d with
  | none => rfl
  | some d => simp [Act.put]
theorem put_defs (a : Act) (d : Option Tmp) (v : Value) : (a.put d v).defers = a.defers := by cases d <;> rfl

section
variable (P : Program) (ops : Array Oper) (C : World → Prop) (R : World → World → Prop)
/-- what the walk has shown of one operation; 'fin': the frame at the walk's end -/
def caseR (fin : Act) (Nf N : List (Tmp × Fact)) (o : Oper) (b : Act) : Prop :=
  guardB ops N o = true ∧
  if Region.wanted o (yielded ops b.tmps) = true then
    (plainB ops N o = true ∧ ∃ v, (∀ w, C w → gives P o b w fun u w' => u = v ∧ C w' ∧ R w w') ∧ ∀ t, o.dst = some t → fin.tmps[t]? = some v ∧ ∀ F, (t, F) ∉ Nf) ∨
    (plainB ops N o = true ∧ ∃ F t, o.dst = some t ∧ (∀ w, C w → gives P o b w fun u w' => F u w' ∧ C w' ∧ R w w') ∧ (t, F) ∈ Nf ∧ ∀ F', (t, F') ∈ Nf → F' = F) ∨
    (∃ t F, (t, F) ∈ N ∧ onlyB ops N o t = true ∧ ∃ v, (∀ w x, C w → F x w → gives P o (b.put (some t) x) w fun u w' => u = v ∧ C w' ∧ R w w') ∧ ∀ t, o.dst = some t → fin.tmps[t]? = some v ∧ ∀ F, (t, F) ∉ Nf)
  else ∀ t, o.dst = some t → fin.tmps[t]? = some undef ∧ ∀ F, (t, F) ∉ Nf

theorem wpR_out {End : List (Tmp × Fact) → Act → Prop} (G : Nat → Option Oper) (n : Nat) (hd : ∀ (i j : Nat) (o p : Oper) (t : Tmp), G i = some o → G j = some p → o.dst = some t → p.dst = some t → i = j) (hn : ∀ (i : Nat) (o : Oper) (t : Tmp), G i = some o → o.dst = some t → t < n) :
    ∀ (l : List Oper) (k : Nat) (N : List (Tmp × Fact)) (a : Act), (∀ j, l[j]? = G (k + j)) → a.tmps.size = n → (∀ p ∈ N, ∃ i o, i < k ∧ G i = some o ∧ o.dst = some p.1) → (∀ p ∈ N, ∀ u w w', R w w' → p.2 u w → p.2 u w') → wpR P ops C R End l N a →
    ∃ (fin : Act) (Nf : List (Tmp × Fact)), End Nf fin ∧ fin.defers = a.defers ∧ fin.tmps.size = n ∧ (∀ t, (∀ m p, k ≤ m → G m = some p → p.dst ≠ some t) → fin.tmps[t]? = a.tmps[t]?) ∧ (∀ p ∈ N, p ∈ Nf) ∧
      (∀ p ∈ Nf, p ∈ N ∨ ∃ m o, k ≤ m ∧ G m = some o ∧ o.dst = some p.1) ∧ (∀ p ∈ Nf, ∀ u w w', R w w' → p.2 u w → p.2 u w') ∧
      ∀ i o, k ≤ i → G i = some o → ∃ (b : Act) (Nb : List (Tmp × Fact)), (∀ t, (∀ m p, k ≤ m → m < i → G m = some p → p.dst ≠ some t) → b.tmps[t]? = a.tmps[t]?) ∧ (∀ t, (∀ m p, i ≤ m → G m = some p → p.dst ≠ some t) → b.tmps[t]? = fin.tmps[t]?) ∧
        b.tmps.size = n ∧ (∀ p ∈ Nb, p ∈ Nf ∧ ∃ m o', m < i ∧ G m = some o' ∧ o'.dst = some p.1) ∧ (∀ p ∈ Nf, p ∈ Nb ∨ ∃ m o', i ≤ m ∧ G m = some o' ∧ o'.dst = some p.1) ∧ caseR P ops C R fin Nf Nb o b
  | [], k, N, a, hl, hsz, hN, hst, h => by
    have hnone : ∀ m p, k ≤ m → G m = some p → False := fun m p hm hp => by
      have := hl (m - k)
      rw [show k + (m - k) = m by omega, hp] at this
      simp at this
    exact ⟨a, N, h, rfl, hsz, fun _ _ => rfl, fun _ h => h, fun _ h => .inl h, hst, fun i o hi ho => (hnone i o hi ho).elim⟩
  | o :: rest, k, N, a, hl, hsz, hN, hst, h => by
    have hk : G k = some o := by simpa using (hl 0).symm
    have hl' : ∀ j, rest[j]? = G (k + 1 + j) := fun j => by have := hl (j + 1); simpa [Nat.add_assoc, Nat.add_comm 1 j] using this
    -- the rest, once it is known what comes next
    have go : ∀ (N' : List (Tmp × Fact)) (v : Value), (∀ p ∈ N', p ∈ N ∨ o.dst = some p.1) → (∀ p ∈ N, p ∈ N') → (∀ p ∈ N', ∀ u w w', R w w' → p.2 u w → p.2 u w') → wpR P ops C R End rest N' (a.put o.dst v) →
        (∀ fin Nf, (∀ t, o.dst = some t → fin.tmps[t]? = some v) → (∀ p ∈ N', p ∈ Nf) → (∀ p ∈ Nf, p ∈ N' ∨ ∃ m o', k + 1 ≤ m ∧ G m = some o' ∧ o'.dst = some p.1) → caseR P ops C R fin Nf N o a) →
        ∃ (fin : Act) (Nf : List (Tmp × Fact)), End Nf fin ∧ fin.defers = a.defers ∧ fin.tmps.size = n ∧ (∀ t, (∀ m p, k ≤ m → G m = some p → p.dst ≠ some t) → fin.tmps[t]? = a.tmps[t]?) ∧ (∀ p ∈ N, p ∈ Nf) ∧
          (∀ p ∈ Nf, p ∈ N ∨ ∃ m o, k ≤ m ∧ G m = some o ∧ o.dst = some p.1) ∧ (∀ p ∈ Nf, ∀ u w w', R w w' → p.2 u w → p.2 u w') ∧
          ∀ i o, k ≤ i → G i = some o → ∃ (b : Act) (Nb : List (Tmp × Fact)), (∀ t, (∀ m p, k ≤ m → m < i → G m = some p → p.dst ≠ some t) → b.tmps[t]? = a.tmps[t]?) ∧ (∀ t, (∀ m p, i ≤ m → G m = some p → p.dst ≠ some t) → b.tmps[t]? = fin.tmps[t]?) ∧
            b.tmps.size = n ∧ (∀ p ∈ Nb, p ∈ Nf ∧ ∃ m o', m < i ∧ G m = some o' ∧ o'.dst = some p.1) ∧ (∀ p ∈ Nf, p ∈ Nb ∨ ∃ m o', i ≤ m ∧ G m = some o' ∧ o'.dst = some p.1) ∧ caseR P ops C R fin Nf Nb o b := by
      intro N' v hN1 hN2 hN3 hw hcase
      obtain ⟨fin, Nf, he, hdef, hfs, hs, hsub, hNf, hst', hrest⟩ := wpR_out (End := End) G n hd hn rest (k + 1) N' (a.put o.dst v) hl' (by rw [put_size]; exact hsz)
        (fun p hp => by
          rcases hN1 p hp with h1 | h1
          · obtain ⟨i, o', hi, ho', hdst⟩ := hN p h1
            exact ⟨i, o', by omega, ho', hdst⟩
          · exact ⟨k, o, by omega, hk, h1⟩) hN3 hw
      have hfin : ∀ t, o.dst = some t → fin.tmps[t]? = some v := fun t ht => by
        rw [hs t (fun m p hm hp hpt => by have := hd k m o p t hk hp ht hpt; omega), ht]
        exact put_slot a t v (by rw [hsz]; exact hn k o t hk ht)
      refine ⟨fin, Nf, he, by rw [hdef, put_defs], hfs, fun t ht => ?_, fun p hp => hsub p (hN2 p hp), fun p hp => ?_, hst', fun i o' hi ho' => ?_⟩
      · rw [hs t (fun m p hm hp => ht m p (by omega) hp), put_slot_ne a o.dst v t (ht k o (Nat.le_refl _) hk)]
      · rcases hNf p hp with h1 | ⟨m, o', hm, ho', hdst⟩
        · rcases hN1 p h1 with h2 | h2
          · exact .inl h2
          · exact .inr ⟨k, o, Nat.le_refl _, hk, h2⟩
        · exact .inr ⟨m, o', by omega, ho', hdst⟩
      · rcases Nat.lt_or_ge k i with hlt | hge
        · obtain ⟨b, Nb, f1, f2, f3, f4, f5, f6⟩ := hrest i o' (by omega) ho'
          refine ⟨b, Nb, fun t ht => ?_, f2, f3, f4, f5, f6⟩
          rw [f1 t (fun m p hm hmi hp => ht m p (by omega) hmi hp), put_slot_ne a o.dst v t (ht k o (Nat.le_refl _) hlt hk)]
        · obtain rfl : i = k := by omega
          rw [hk] at ho'
          injection ho' with ho'
          subst ho'
          refine ⟨a, N, fun _ _ => rfl, fun t ht => ?_, hsz, fun p hp => ⟨hsub p (hN2 p hp), hN p hp⟩, fun p hp => ?_, hcase fin Nf hfin hsub hNf⟩
          · rw [hs t (fun m p hm hp => ht m p (by omega) hp), put_slot_ne a o.dst v t (ht i o (Nat.le_refl _) hk)]
          · rcases hNf p hp with h1 | ⟨m, o', hm, ho', hdst⟩
            · rcases hN1 p h1 with h2 | h2
              · exact .inl h2
              · exact .inr ⟨i, o, Nat.le_refl _, hk, h2⟩
            · exact .inr ⟨m, o', by omega, ho', hdst⟩
    have noF : ∀ (Nf : List (Tmp × Fact)) (t : Tmp), o.dst = some t → (∀ p ∈ Nf, p ∈ N ∨ ∃ m o', k + 1 ≤ m ∧ G m = some o' ∧ o'.dst = some p.1) → ∀ F, (t, F) ∉ Nf := by
      intro Nf t ht hNf F hF
      rcases hNf _ hF with h1 | ⟨m, o', hm, ho', hdst⟩
      · obtain ⟨i, o', hi, ho', hdst⟩ := hN _ h1
        have := hd i k o' o t ho' hk hdst ht
        omega
      · have := hd m k o' o t ho' hk hdst ht
        omega
    obtain ⟨hg, h⟩ := h
    by_cases hwant : Region.wanted o (yielded ops a.tmps) = true
    · rw [if_pos hwant] at h
      rcases h with ⟨hp, v, hv, hnext⟩ | ⟨hp, F, t, ht, hstab, hF, hnext⟩ | ⟨t, F, hmem, ho, v, hv, hnext⟩
      · exact go N v (fun _ h => .inl h) (fun _ h => h) hst hnext fun fin Nf hfin _ hNf => ⟨hg, by
          rw [if_pos hwant]
          exact .inl ⟨hp, v, hv, fun t ht => ⟨hfin t ht, noF Nf t ht hNf⟩⟩⟩
      · refine go ((t, F) :: N) undef (fun p hp => ?_) (fun p hp => List.mem_cons_of_mem _ hp) (fun p hp => ?_) hnext fun fin Nf hfin hsub hNf => ⟨hg, ?_⟩
        · rcases List.mem_cons.1 hp with rfl | h1
          · exact .inr ht
          · exact .inl h1
        · rcases List.mem_cons.1 hp with rfl | h1
          · exact hstab
          · exact hst p h1
        · rw [if_pos hwant]
          refine .inr (.inl ⟨hp, F, t, ht, hF, hsub _ List.mem_cons_self, fun F' hF' => ?_⟩)
          rcases hNf _ hF' with h1 | ⟨m, o', hm, ho', hdst⟩
          · rcases List.mem_cons.1 h1 with h2 | h2
            · injection h2
            · obtain ⟨i, o', hi, ho', hdst⟩ := hN _ h2
              have := hd i k o' o t ho' hk hdst ht
              omega
          · have := hd m k o' o t ho' hk hdst ht
            omega
      · exact go N v (fun _ h => .inl h) (fun _ h => h) hst hnext fun fin Nf hfin _ hNf => ⟨hg, by
          rw [if_pos hwant]
          exact .inr (.inr ⟨t, F, hmem, ho, v, hv, fun t ht => ⟨hfin t ht, noF Nf t ht hNf⟩⟩)⟩
    · rw [if_neg hwant] at h
      exact go N undef (fun _ h => .inl h) (fun _ h => h) hst h fun fin Nf hfin _ hNf => ⟨hg, by
        rw [if_neg hwant]
        exact fun t ht => ⟨hfin t ht, noF Nf t ht hNf⟩⟩
end

theorem wanted_congr {ops : Array Oper} {o : Oper} {a b : Act} (h : ∀ g x t, o.guard = some (g, x) → (ops[g]?).bind (·.dst) = some t → a.tmps[t]? = b.tmps[t]?) :
    Region.wanted o (yielded ops a.tmps) = Region.wanted o (yielded ops b.tmps) := by
  unfold Region.wanted
  cases hg : o.guard with
  | none => rfl
  | some gw =>
    obtain ⟨g, x⟩ := gw
    have : yielded ops a.tmps g = yielded ops b.tmps g := by
      unfold yielded
      cases ht : (ops[g]?).bind (·.dst) with
      | none => rfl
      | some t => simp only [Option.bind_some]; rw [h g x t hg ht]
    simp only [this]
theorem exec_congr {ops : Array Oper} {o : Oper} {a b : Act} (hs : ∀ cs x, o.op ≠ .select cs x) (h : ∀ t ∈ o.looksAt ops, a.tmps[t]? = b.tmps[t]?) : execOp a.eval o = execOp b.eval o :=
  execOp_congr o hs fun x hx => by
    cases x with
    | tmp t =>
      have := h t (List.mem_append_left _ (List.mem_filterMap.2 ⟨.tmp t, by simpa using hx, rfl⟩))
      simp [Act.eval, Array.getD_eq_getD_getElem?, this]
    | _ => rfl
theorem endF_out {Q : Act → Prop} {w : World} {a : Act} : ∀ (N : List (Tmp × Fact)) (b : Act), endF Q w N b → a.defers = b.defers → a.tmps.size = b.tmps.size → (∀ t F, (t, F) ∈ N → ∃ v, a.tmps[t]? = some v ∧ F v w) →
    (∀ t, (∀ F, (t, F) ∉ N) → a.tmps[t]? = b.tmps[t]?) → Q a
  | [], b, h, hd, hs, _, hr => by
    have : a = b := by
      obtain ⟨at_, ad⟩ := a
      obtain ⟨bt, bd⟩ := b
      simp only at hd hr
      subst hd
      congr 1
      exact Array.ext_getElem? fun t => hr t (fun F h => by cases h)
    rw [this]
    exact h
  | (t, F) :: N, b, h, hd, hs, hf, hr => by
    obtain ⟨v, hv, hF⟩ := hf t F List.mem_cons_self
    have hlt : t < a.tmps.size := (Array.getElem?_eq_some_iff.1 hv).1
    refine endF_out N (b.put (some t) v) (h v hF) (by rw [put_defs]; exact hd) (by rw [put_size]; exact hs) (fun t' F' h' => hf t' F' (List.mem_cons_of_mem _ h')) (fun t' ht' => ?_)
    by_cases e : t = t'
    · subst e
      rw [put_slot b t v (by rw [← hs]; exact hlt)]
      exact hv
    · rw [put_slot_ne b (some t) v t' (by intro h; injection h with h; exact e h)]
      exact hr t' fun F' h' => by
        rcases List.mem_cons.1 h' with h1 | h1
        · injection h1 with h1 _; exact e h1.symm
        · exact ht' F' h1

section
variable (P : Program) (ops : Array Oper) (C : World → Prop) (R : World → World → Prop)
def flatJ (G : Nat → Option Oper) (a0 fin : Act) (Nf : List (Tmp × Fact)) (listed : Array Bool) (a : Act) (w : World) : Prop :=
  C w ∧ a.defers = a0.defers ∧ a.tmps.size = a0.tmps.size ∧ listed.size = ops.size ∧
  (∀ (t : Tmp), (∀ (j : Nat) (p : Oper), G j = some p → p.dst = some t → listed.getD j false = false) → a.tmps[t]? = a0.tmps[t]?) ∧
  (∀ (j : Nat) (p : Oper) (t : Tmp), G j = some p → p.dst = some t → listed.getD j false = true → ∃ v, a.tmps[t]? = some v ∧ (∀ F, (t, F) ∈ Nf → F v w) ∧ ((∀ F, (t, F) ∉ Nf) → fin.tmps[t]? = some v)) ∧
  (∀ (j : Nat) (p : Oper), G j = some p → listed.getD j false = true → ∀ e ∈ p.after, Region.binds .any e = true → listed.getD e.on false = true)

theorem flatJ_step {G : Nat → Option Oper} (hG : ∀ i o, G i = some o → ops[i]? = some o) {a0 fin : Act} {Nf : List (Tmp × Fact)} {listed : Array Bool} {a : Act} {w w' : World} (hd : ∀ (i j : Nat) (o p : Oper) (t : Tmp), G i = some o → G j = some p → o.dst = some t → p.dst = some t → i = j)
    (hn : ∀ (i : Nat) (o : Oper) (t : Tmp), G i = some o → o.dst = some t → t < a0.tmps.size) (hst : ∀ p ∈ Nf, ∀ u w w', R w w' → p.2 u w → p.2 u w')
    (h : flatJ ops C G a0 fin Nf listed a w) {i : Nat} {o : Oper} (ho : G i = some o) (hall : ∀ e ∈ o.after, Region.binds .any e = true → listed.getD e.on false = true) (hC : C w') (hR : R w w') (u : Value)
    (hu : ∀ t, o.dst = some t → (∀ F, (t, F) ∈ Nf → F u w') ∧ ((∀ F, (t, F) ∉ Nf) → fin.tmps[t]? = some u)) : flatJ ops C G a0 fin Nf (listed.setIfInBounds i true) (a.put o.dst u) w' := by
  obtain ⟨_, h1, h2, h3, hU, hL, hD⟩ := h
  have hi : i < listed.size := by rw [h3]; exact (Array.getElem?_eq_some_iff.1 (hG i o ho)).1
  have hself : (listed.setIfInBounds i true).getD i false = true := by simp [hi]
  refine ⟨hC, by rw [put_defs]; exact h1, by rw [put_size]; exact h2, by simpa using h3, fun t ht => ?_, fun j p t hj hp hl => ?_, fun j p hj hl e he hb => ?_⟩
  · have hne : o.dst ≠ some t := fun e => by
      have := ht i o ho e
      rw [hself] at this
      cases this
    rw [put_slot_ne a o.dst u t hne]
    refine hU t fun j p hj hp => ?_
    have := ht j p hj hp
    by_cases e : i = j
    · subst e; rw [hself] at this; cases this
    · rwa [getD_set_ne false e] at this
  · by_cases e : i = j
    · subst e
      rw [ho] at hj
      injection hj with hj
      subst hj
      rw [hp]
      exact ⟨u, put_slot a t u (by rw [h2]; exact hn i o t ho hp), hu t hp⟩
    · rw [getD_set_ne false e] at hl
      obtain ⟨v, hv, hF, hf⟩ := hL j p t hj hp hl
      refine ⟨v, ?_, fun F hm => hst _ hm v w w' hR (hF F hm), hf⟩
      rw [put_slot_ne a o.dst u t (fun h => e (hd i j o p t ho hj h hp))]
      exact hv
  · by_cases e' : i = j
    · subst e'
      rw [ho] at hj
      injection hj with hj
      subst hj
      exact getD_set_true (hall e he hb)
    · rw [getD_set_ne false e'] at hl
      exact getD_set_true (hD j p hj hl e he hb)

theorem ready_false {listed : Array Bool} {i : Nat} (h : i ∈ Region.ready .any ops listed) : ∃ (hi : i < listed.size), listed[i] = false := by
  have := (mem_ready.1 h).1
  rcases Nat.lt_or_ge i listed.size with hl | hl
  · exact ⟨hl, by simpa [hl] using this⟩
  · simp [Array.getElem?_eq_none hl] at this
theorem wpAny_inv {Q : Exit → Act → World → Prop} (J : Array Bool → Act → World → Prop) (hstep : ∀ listed a w, J listed a w → ∀ i ∈ Region.ready .any ops listed, wpOp P ops Q i (J (listed.setIfInBounds i true)) a w)
    (hend : ∀ listed a w, J listed a w → Region.ready .any ops listed = [] → Q .normal a w) :
    ∀ (fuel : Nat) (listed : Array Bool) (a : Act) (w : World), J listed a w → listed.toList.count false ≤ fuel → wpAny P .any ops Q fuel listed a w
  | 0, listed, a, w, h, hc => by
    have : Region.ready .any ops listed = [] := List.eq_nil_iff_forall_not_mem.2 fun i hi => by
      obtain ⟨hl, hf⟩ := ready_false ops hi
      have : 0 < listed.toList.count false := List.count_pos_iff.2 (by rw [← hf]; simp)
      omega
    exact ⟨this, hend _ _ _ h this⟩
  | fuel + 1, listed, a, w, h, hc => by
    refine ⟨fun h0 => hend _ _ _ h h0, fun i hi => wpOp_mono (fun a' w' h' => ?_) (hstep _ _ _ h i hi)⟩
    obtain ⟨hl, hf⟩ := ready_false ops hi
    have hlt : (listed.setIfInBounds i true).toList.count false + 1 = listed.toList.count false := by
      have hpos : 0 < listed.toList.count false := List.count_pos_iff.2 (by rw [← hf]; simp)
      rw [Array.toList_setIfInBounds, List.count_set (by simpa using hl)]
      have e1 : listed.toList[i]'(by simpa using hl) = false := by simpa using hf
      rw [e1, if_pos (by decide), if_neg (by decide)]
      omega
    exact wpAny_inv J hstep hend fuel _ a' w' h' (by omega)

theorem replicate_false (n j : Nat) : (Array.replicate n false).getD j false = false := by
  rw [Array.getD_eq_getD_getElem?, Array.getElem?_replicate]
  split <;> rfl
/-- ONE WALK IN THE ORDER OF THE TEXT serves every order. -/
theorem wp_region_flat (S : World → Prop) (R : World → World → Prop) {P : Program} {id : Nat} {Q : Exit → Act → World → Prop} {a : Act} {w : World} {l : List Oper} (hm : P.follows .mixedOrders = true) (hB : flatB l.toArray a.tmps.size = true) (hRr : ∀ w, R w w) (hS : S w.drew)
    (h : wpR P l.toArray S R (fun N b => ∀ w', S w' → endF (fun b => Q .normal b w') w' N b) l [] a) : (Code.region id l.toArray true).wp P Q a w := by
  have spec := fun i o => flatB_spec (i := i) (o := o) hB
  have hd : ∀ (i j : Nat) (o p : Oper) (t : Tmp), l.toArray[i]? = some o → l.toArray[j]? = some p → o.dst = some t → p.dst = some t → i = j := by
    intro i j o p t ho hp hot hpt
    apply Classical.byContradiction
    intro hne
    exact ((spec i o ho).2.2 j p hp (Ne.symm hne)).1 t hot hpt
  have hn : ∀ (i : Nat) (o : Oper) (t : Tmp), l.toArray[i]? = some o → o.dst = some t → t < a.tmps.size := fun i o t ho ht => ((spec i o ho).2.1 t ht).1
  have hsel : ∀ (j : Nat) (o : Oper) cs b, l.toArray[j]? = some o → o.op ≠ .select cs b := Region.noSelect_spec (by unfold flatB at hB; rw [Bool.and_eq_true] at hB; exact hB.1)
  obtain ⟨fin, Nf, hEnd, hdef, hfs, hun, _, hNf, hst, hops⟩ := wpR_out P l.toArray S R (fun m => l.toArray[m]?) a.tmps.size hd hn l 0 [] a (fun j => by simp) rfl (fun p h => by cases h) (fun p h => by cases h) h
  refine wp_region_any hm (wpAny_inv P l.toArray (flatJ l.toArray S (fun m => l.toArray[m]?) a fin Nf) (fun listed a' w1 hJ i hi => ?_) (fun listed a' w1 hJ hr => ?_) _ _ _ _ ⟨hS, rfl, rfl, by simp, fun _ _ => rfl, fun j p t hj _ hl => ?_, fun j p hj hl => ?_⟩ (by simp))
  · -- a step
    obtain ⟨hun_i, o, ho, hall⟩ := mem_ready.1 hi
    obtain ⟨b, Nb, f1, f2, f3, f4, f5, hguard, hcase⟩ := hops i o (Nat.zero_le _) ho
    obtain ⟨hC1, hdf, hsz, hls, hU, hL, hD⟩ := hJ
    have hJ : flatJ l.toArray S (fun m => l.toArray[m]?) a fin Nf listed a' w1 := ⟨hC1, hdf, hsz, hls, hU, hL, hD⟩
    have hil : listed.getD i false = false := by
      obtain ⟨hl, hf⟩ := ready_false l.toArray hi
      simp [hl, hf]
    -- what is looked at
    have writer : ∀ t ∈ o.looksAt l.toArray, ∀ (j : Nat) (p : Oper), l.toArray[j]? = some p → p.dst = some t → (j < i ∧ listed.getD j false = true) ∨ (i < j ∧ listed.getD j false = false) := by
      intro t ht j p hj hp
      have hne : j ≠ i := by
        rintro rfl
        rw [ho] at hj
        injection hj with hj
        subst hj
        exact ((spec j o ho).2.1 t hp).2 ht
      rcases ((spec i o ho).2.2 j p hj hne).2 with h1 | ⟨e, he, hb, rfl⟩ | ⟨e, he, hb, hei⟩
      · exact absurd ht (h1 t hp)
      · exact .inl ⟨(spec i o ho).1 e he, hall e he hb⟩
      · refine .inr ⟨by have := (spec j p hj).1 e he; omega, ?_⟩
        cases hlj : listed.getD j false with
        | false => rfl
        | true =>
          have := hD j p hj hlj e he hb
          rw [hei, hil] at this
          cases this
    have agree : ∀ t ∈ o.looksAt l.toArray, (∀ F, (t, F) ∉ Nb) → a'.tmps[t]? = b.tmps[t]? := by
      intro t ht hNb
      by_cases hw : ∃ (j : Nat) (p : Oper), l.toArray[j]? = some p ∧ p.dst = some t
      · obtain ⟨j, p, hj, hp⟩ := hw
        rcases writer t ht j p hj hp with ⟨hlt, hlj⟩ | ⟨hlt, hlj⟩
        · obtain ⟨v, hv, _, hfin⟩ := hL j p t hj hp hlj
          rw [hv, f2 t (fun m q hm hq hqt => by have := hd m j q p t hq hj hqt hp; omega)]
          refine (hfin fun F hF => ?_).symm
          rcases f5 _ hF with h1 | ⟨m, q, hm, hq, hqt⟩
          · exact hNb F h1
          · have := hd m j q p t hq hj hqt hp
            omega
        · rw [hU t (fun m q hq hqt => by have := hd m j q p t hq hj hqt hp; rw [this]; exact hlj), f1 t (fun m q _ hm hq hqt => by have := hd m j q p t hq hj hqt hp; omega)]
      · rw [hU t (fun m q hq hqt => (hw ⟨m, q, hq, hqt⟩).elim), f1 t (fun m q _ hm hq hqt => hw ⟨m, q, hq, hqt⟩)]
    have hwant : Region.wanted o (yielded l.toArray a'.tmps) = Region.wanted o (yielded l.toArray b.tmps) := by
      refine wanted_congr fun g x t hg ht => agree t ?_ fun F hF => ?_
      · unfold Oper.looksAt
        refine List.mem_append_right _ ?_
        rw [hg]
        show t ∈ ((l.toArray[g]?).bind (·.dst)).toList
        rw [ht]
        simp
      · unfold guardB at hguard
        rw [hg] at hguard
        simp only [ht] at hguard
        have := List.all_eq_true.1 hguard _ hF
        simp at this
    unfold wpOp
    simp only [ho]
    rw [hwant]
    by_cases hw : Region.wanted o (yielded l.toArray b.tmps) = true
    · rw [if_pos hw]
      rw [if_pos hw] at hcase
      refine .inl ?_
      rcases hcase with ⟨hp, v, hv, hres⟩ | ⟨hp, F, t, ht, hF, hmem, huniq⟩ | ⟨t, F, hmem, hon, v, hv, hres⟩
      · have he : execOp a'.eval o = execOp b.eval o := exec_congr (fun cs x => hsel i o cs x ho) fun t ht => agree t ht fun F hF => by
          have := List.all_eq_true.1 (List.all_eq_true.1 hp t ht) _ hF
          simp at this
        refine wp_of_gives (gives_congr he (hv w1 hC1)) fun u w2 ⟨hu, hC2, hR⟩ => flatJ_step l.toArray S R (fun _ _ h => h) hd hn hst hJ ho hall hC2 hR u fun t ht => ?_
        subst hu
        exact ⟨fun F hF => absurd hF ((hres t ht).2 F), fun _ => (hres t ht).1⟩
      · have he : execOp a'.eval o = execOp b.eval o := exec_congr (fun cs x => hsel i o cs x ho) fun t ht => agree t ht fun F hF => by
          have := List.all_eq_true.1 (List.all_eq_true.1 hp t ht) _ hF
          simp at this
        refine wp_of_gives (gives_congr he (hF w1 hC1)) fun u w2 ⟨hu, hC2, hR⟩ => flatJ_step l.toArray S R (fun _ _ h => h) hd hn hst hJ ho hall hC2 hR u fun t' ht' => ?_
        rw [ht] at ht'
        injection ht' with ht'
        subst ht'
        exact ⟨fun F' hF' => by rw [huniq F' hF']; exact hu, fun hno => absurd hmem (hno F)⟩
      · unfold onlyB at hon
        rw [Bool.and_eq_true, List.all_eq_true] at hon
        obtain ⟨hct, hoth⟩ := hon
        have hct : t ∈ o.looksAt l.toArray := by simpa using hct
        obtain ⟨hmf, m, q, hmi, hq, hqt⟩ := f4 _ hmem
        have hlm : listed.getD m false = true := by
          rcases writer t hct m q hq hqt with ⟨_, h1⟩ | ⟨h1, _⟩
          · exact h1
          · omega
        obtain ⟨x, hx, hFx, _⟩ := hL m q t hq hqt hlm
        have hbs : t < b.tmps.size := by rw [f3]; exact hn m q t hq hqt
        have he : execOp a'.eval o = execOp (b.put (some t) x).eval o := exec_congr (fun cs y => hsel i o cs y ho) fun s hs => by
          by_cases e : s = t
          · subst e
            rw [hx, put_slot b s x hbs]
          · rw [put_slot_ne b (some t) x s (by intro h; injection h with h; exact e h.symm)]
            refine agree s hs fun F' hF' => ?_
            have := hoth s hs
            simp only [Bool.or_eq_true, beq_iff_eq, e, false_or] at this
            have := List.all_eq_true.1 this _ hF'
            simp at this
        refine wp_of_gives (gives_congr he (hv w1 x hC1 (hFx F hmf))) fun u w2 ⟨hu, hC2, hR⟩ => flatJ_step l.toArray S R (fun _ _ h => h) hd hn hst hJ ho hall hC2 hR u fun t ht => ?_
        subst hu
        exact ⟨fun F hF => absurd hF ((hres t ht).2 F), fun _ => (hres t ht).1⟩
    · rw [if_neg hw]
      rw [if_neg hw] at hcase
      exact flatJ_step l.toArray S R (fun _ _ h => h) hd hn hst hJ ho hall hC1 (hRr w1) undef fun t ht => ⟨fun F hF => absurd hF ((hcase t ht).2 F), fun _ => (hcase t ht).1⟩
  · -- the end
    obtain ⟨hC1, hdf, hsz, hls, hU, hL, hD⟩ := hJ
    have hallj : ∀ (j : Nat) (p : Oper), l.toArray[j]? = some p → listed.getD j false = true := by
      intro j
      induction j using Nat.strongRecOn with
      | _ j ih =>
        intro p hp
        cases hlj : listed.getD j false with
        | true => rfl
        | false =>
          exfalso
          have hjl : j < listed.size := by rw [hls]; exact (Array.getElem?_eq_some_iff.1 hp).1
          have : j ∈ Region.ready .any l.toArray listed := mem_ready.2 ⟨by simpa [hjl] using hlj, p, hp, fun e he hb => by
            have hlt := (spec j p hp).1 e he
            have hel : e.on < l.toArray.size := Nat.lt_trans hlt (Array.getElem?_eq_some_iff.1 hp).1
            exact ih e.on hlt _ (Array.getElem?_eq_getElem hel)⟩
          rw [hr] at this
          cases this
    refine endF_out Nf fin (hEnd w1 hC1) (by rw [hdef]; exact hdf) (by rw [hfs]; exact hsz) (fun t F hF => ?_) (fun t ht => ?_)
    · obtain ⟨m, q, hq, hqt⟩ : ∃ (m : Nat) (q : Oper), l.toArray[m]? = some q ∧ q.dst = some t := by
        rcases hNf _ hF with h1 | ⟨m, q, _, hq, hqt⟩
        · cases h1
        · exact ⟨m, q, hq, hqt⟩
      obtain ⟨v, hv, hFv, _⟩ := hL m q t hq hqt (hallj m q hq)
      exact ⟨v, hv, hFv F hF⟩
    · by_cases hw : ∃ (j : Nat) (p : Oper), l.toArray[j]? = some p ∧ p.dst = some t
      · obtain ⟨j, p, hj, hp⟩ := hw
        obtain ⟨v, hv, _, hfin⟩ := hL j p t hj hp (hallj j p hj)
        rw [hv, hfin ht]
      · rw [hU t (fun m q hq hqt => (hw ⟨m, q, hq, hqt⟩).elim), hun t (fun m q _ hq hqt => hw ⟨m, q, hq, hqt⟩)]
  · rw [replicate_false] at hl; cases hl
  · rw [replicate_false] at hl; cases hl
/-- the last operation waits for all others, and no guard names it -/
def lastB (ops : Array Oper) (n : Nat) : Bool := decide (ops.size = n + 1) && (match ops[n]? with
  | some o => (List.range n).all fun i => (o.after.any fun e => Region.binds .any e && e.on == i) || (o.after.any fun e => Region.binds .any e && decide (e.on < n) && (match ops[e.on]? with
    | some p => p.after.any fun f => Region.binds .any f && f.on == i
    | none => false))
  | none => false)
/-- .. where the last operation may do whatever it likes. -/
theorem wp_region_flat1 (n : Nat) (S : World → Prop) (R : World → World → Prop) {P : Program} {id : Nat} {Q : Exit → Act → World → Prop} {a : Act} {w : World} {l : List Oper} (hm : P.follows .mixedOrders = true) (hB : flatB l.toArray a.tmps.size = true) (hLast : lastB l.toArray n = true) (hRr : ∀ w, R w w) (hS : S w.drew)
    (h : wpR P l.toArray S R (fun N b => ∀ w', S w' → endF (fun b => wpList P l.toArray Q (l.drop n) b w') w' N b) (l.take n) [] a) : (Code.region id l.toArray true).wp P Q a w := by
  have spec := fun i o => flatB_spec (i := i) (o := o) hB
  unfold lastB at hLast
  rw [Bool.and_eq_true, decide_eq_true_eq] at hLast
  obtain ⟨hsize, hLast⟩ := hLast
  have hll : l.length = n + 1 := by simpa using hsize
  obtain ⟨ol, hol⟩ : ∃ ol, l.toArray[n]? = some ol := ⟨_, Array.getElem?_eq_getElem (by rw [hsize]; omega)⟩
  rw [hol] at hLast
  simp only [List.all_eq_true, List.mem_range] at hLast
  have hdrop : l.drop n = [ol] := by
    rw [List.drop_eq_getElem_cons (by omega), List.drop_of_length_le (by omega)]
    congr 1
    have : l[n]? = some ol := by simpa using hol
    rw [List.getElem?_eq_getElem (by omega)] at this
    injection this
  obtain ⟨G, hGd⟩ : ∃ G : Nat → Option Oper, G = fun m => if m < n then l.toArray[m]? else none := ⟨_, rfl⟩
  have hG : ∀ i o, G i = some o → l.toArray[i]? = some o := fun i o h => by
    rw [hGd] at h
    by_cases hi : i < n
    · simpa [hi] using h
    · simp [hi] at h
  have hGlt : ∀ i o, G i = some o → i < n := fun i o h => by
    rw [hGd] at h
    by_cases hi : i < n
    · exact hi
    · simp [hi] at h
  have hGof : ∀ i o, i < n → l.toArray[i]? = some o → G i = some o := fun i o hi h => by rw [hGd]; simpa [hi] using h
  have hd : ∀ (i j : Nat) (o p : Oper) (t : Tmp), G i = some o → G j = some p → o.dst = some t → p.dst = some t → i = j := by
    intro i j o p t ho hp hot hpt
    have ho := hG _ _ ho
    have hp := hG _ _ hp
    apply Classical.byContradiction
    intro hne
    exact ((spec i o ho).2.2 j p hp (Ne.symm hne)).1 t hot hpt
  have hn : ∀ (i : Nat) (o : Oper) (t : Tmp), G i = some o → o.dst = some t → t < a.tmps.size := fun i o t ho ht => ((spec i o (hG _ _ ho)).2.1 t ht).1
  have hsel : ∀ (j : Nat) (o : Oper) cs b, l.toArray[j]? = some o → o.op ≠ .select cs b := Region.noSelect_spec (by unfold flatB at hB; rw [Bool.and_eq_true] at hB; exact hB.1)
  obtain ⟨fin, Nf, hEnd, hdef, hfs, hun, _, hNf, hst, hops⟩ := wpR_out P l.toArray S R G a.tmps.size hd hn (l.take n) 0 [] a (fun j => by rw [hGd, Nat.zero_add]; by_cases hj : j < n <;> simp [hj]; omega) rfl (fun p h => by cases h) (fun p h => by cases h) h
  refine wp_region_any hm (wpAny_inv P l.toArray (fun listed a' w1 => (listed.getD n false = false ∧ flatJ l.toArray S G a fin Nf listed a' w1) ∨ (Region.ready .any l.toArray listed = [] ∧ Q .normal a' w1)) (fun listed a' w1 hJ i hi => ?_) (fun listed a' w1 hJ hr => ?_) _ _ _ _ (.inl ⟨replicate_false _ _, hS, rfl, rfl, by simp, fun _ _ => rfl, fun j p t hj _ hl => ?_, fun j p hj hl => ?_⟩) (by simp))
  · -- a step
    rcases hJ with ⟨hnl, hJ⟩ | ⟨hre, _⟩
    case inr => rw [hre] at hi; cases hi
    obtain ⟨hun_i, o, ho', hall⟩ := mem_ready.1 hi
    have hin : i < n + 1 := by rw [← hsize]; exact (Array.getElem?_eq_some_iff.1 ho').1
    by_cases hlt_n : i < n
    case neg =>
      obtain rfl : i = n := by omega
      rw [hol] at ho'
      injection ho' with ho'
      subst ho'
      obtain ⟨hC1, hdf, hsz, hls, hU, hL, hD⟩ := hJ
      have hallj : ∀ (j : Nat) (p : Oper), G j = some p → listed.getD j false = true := fun j p hj => by
        have hj1 := hLast j (hGlt j p hj)
        rw [Bool.or_eq_true] at hj1
        rcases hj1 with hj1 | hj1
        · obtain ⟨e, he, hb⟩ := Array.any_eq_true'.1 hj1
          simp only [Bool.and_eq_true, beq_iff_eq] at hb
          rw [← hb.2]
          exact hall e he hb.1
        · obtain ⟨e, he, hb⟩ := Array.any_eq_true'.1 hj1
          simp only [Bool.and_eq_true, decide_eq_true_eq] at hb
          obtain ⟨⟨hb1, hb2⟩, hb3⟩ := hb
          have hle := hall e he hb1
          cases hq : l.toArray[e.on]? with
          | none => rw [hq] at hb3; cases hb3
          | some q =>
            rw [hq] at hb3
            obtain ⟨f, hf, hc⟩ := Array.any_eq_true'.1 hb3
            simp only [Bool.and_eq_true, beq_iff_eq] at hc
            rw [← hc.2]
            exact hD e.on q (hGof _ _ hb2 hq) hle f hf hc.1
      have hq : wpList P l.toArray Q (l.drop i) a' w1 := by
        refine endF_out Nf fin (hEnd w1 hC1) (by rw [hdef]; exact hdf) (by rw [hfs]; exact hsz) (fun t F hF => ?_) (fun t ht => ?_)
        · obtain ⟨m, q, hq, hqt⟩ : ∃ (m : Nat) (q : Oper), G m = some q ∧ q.dst = some t := by
            rcases hNf _ hF with h1 | ⟨m, q, _, hq, hqt⟩
            · cases h1
            · exact ⟨m, q, hq, hqt⟩
          obtain ⟨v, hv, hFv, _⟩ := hL m q t hq hqt (hallj m q hq)
          exact ⟨v, hv, hFv F hF⟩
        · by_cases hw : ∃ (j : Nat) (p : Oper), G j = some p ∧ p.dst = some t
          · obtain ⟨j, p, hj, hp⟩ := hw
            obtain ⟨v, hv, _, hfin⟩ := hL j p t hj hp (hallj j p hj)
            rw [hv, hfin ht]
          · rw [hU t (fun m q hq hqt => (hw ⟨m, q, hq, hqt⟩).elim), hun t (fun m q _ hq hqt => hw ⟨m, q, hq, hqt⟩)]
      rw [hdrop] at hq
      have hre : Region.ready .any l.toArray (listed.setIfInBounds i true) = [] := List.eq_nil_iff_forall_not_mem.2 fun j hj => by
        obtain ⟨hjl, hjf⟩ := ready_false l.toArray hj
        have hjl' : j < i + 1 := by rw [← hsize, ← hls]; simpa using hjl
        have hj2 : (listed.setIfInBounds i true).getD j false = false := by simp only [Array.getD_eq_getD_getElem?, Array.getElem?_eq_getElem hjl, hjf, Option.getD_some]
        by_cases e : i = j
        · subst e
          have : i < listed.size := by rw [hls, hsize]; omega
          simp [this] at hj2
        · rw [getD_set_ne false e] at hj2
          have hjo : j < l.toArray.size := by rw [hsize]; omega
          have := hallj j _ (hGof j _ (by omega) (Array.getElem?_eq_getElem hjo))
          rw [hj2] at this
          cases this
      unfold wpOp
      simp only [hol]
      simp only [wpList] at hq
      by_cases hwl : Region.wanted ol (yielded l.toArray a'.tmps) = true
      · rw [if_pos hwl] at hq ⊢
        exact hq.imp (fun h => Oper.wp_mono (fun a2 w2 h2 => .inr ⟨hre, h2⟩) h) (fun h => h)
      · rw [if_neg hwl] at hq ⊢
        exact .inr ⟨hre, hq⟩
    have ho : G i = some o := hGof i o hlt_n ho'
    have hkeep : ∀ a2 w2, flatJ l.toArray S G a fin Nf (listed.setIfInBounds i true) a2 w2 → ((listed.setIfInBounds i true).getD n false = false ∧ flatJ l.toArray S G a fin Nf (listed.setIfInBounds i true) a2 w2) ∨ (Region.ready .any l.toArray (listed.setIfInBounds i true) = [] ∧ Q .normal a2 w2) := fun a2 w2 h => .inl ⟨by rw [getD_set_ne false (by omega)]; exact hnl, h⟩
    obtain ⟨b, Nb, f1, f2, f3, f4, f5, hguard, hcase⟩ := hops i o (Nat.zero_le _) ho
    obtain ⟨hC1, hdf, hsz, hls, hU, hL, hD⟩ := hJ
    have hJ : flatJ l.toArray S G a fin Nf listed a' w1 := ⟨hC1, hdf, hsz, hls, hU, hL, hD⟩
    have hil : listed.getD i false = false := by
      obtain ⟨hl, hf⟩ := ready_false l.toArray hi
      simp [hl, hf]
    -- what is looked at
    have writer : ∀ t ∈ o.looksAt l.toArray, ∀ (j : Nat) (p : Oper), G j = some p → p.dst = some t → (j < i ∧ listed.getD j false = true) ∨ (i < j ∧ listed.getD j false = false) := by
      intro t ht j p hj hp
      have hne : j ≠ i := by
        rintro rfl
        rw [ho] at hj
        injection hj with hj
        subst hj
        exact ((spec j o (hG _ _ ho)).2.1 t hp).2 ht
      rcases ((spec i o ho').2.2 j p (hG _ _ hj) hne).2 with h1 | ⟨e, he, hb, rfl⟩ | ⟨e, he, hb, hei⟩
      · exact absurd ht (h1 t hp)
      · exact .inl ⟨(spec i o ho').1 e he, hall e he hb⟩
      · refine .inr ⟨by have := (spec j p (hG _ _ hj)).1 e he; omega, ?_⟩
        cases hlj : listed.getD j false with
        | false => rfl
        | true =>
          have := hD j p hj hlj e he hb
          rw [hei, hil] at this
          cases this
    have agree : ∀ t ∈ o.looksAt l.toArray, (∀ F, (t, F) ∉ Nb) → a'.tmps[t]? = b.tmps[t]? := by
      intro t ht hNb
      by_cases hw : ∃ (j : Nat) (p : Oper), G j = some p ∧ p.dst = some t
      · obtain ⟨j, p, hj, hp⟩ := hw
        rcases writer t ht j p hj hp with ⟨hlt, hlj⟩ | ⟨hlt, hlj⟩
        · obtain ⟨v, hv, _, hfin⟩ := hL j p t hj hp hlj
          rw [hv, f2 t (fun m q hm hq hqt => by have := hd m j q p t hq hj hqt hp; omega)]
          refine (hfin fun F hF => ?_).symm
          rcases f5 _ hF with h1 | ⟨m, q, hm, hq, hqt⟩
          · exact hNb F h1
          · have := hd m j q p t hq hj hqt hp
            omega
        · rw [hU t (fun m q hq hqt => by have := hd m j q p t hq hj hqt hp; rw [this]; exact hlj), f1 t (fun m q _ hm hq hqt => by have := hd m j q p t hq hj hqt hp; omega)]
      · rw [hU t (fun m q hq hqt => (hw ⟨m, q, hq, hqt⟩).elim), f1 t (fun m q _ hm hq hqt => hw ⟨m, q, hq, hqt⟩)]
    have hwant : Region.wanted o (yielded l.toArray a'.tmps) = Region.wanted o (yielded l.toArray b.tmps) := by
      refine wanted_congr fun g x t hg ht => agree t ?_ fun F hF => ?_
      · unfold Oper.looksAt
        refine List.mem_append_right _ ?_
        rw [hg]
        show t ∈ ((l.toArray[g]?).bind (·.dst)).toList
        rw [ht]
        simp
      · unfold guardB at hguard
        rw [hg] at hguard
        simp only [ht] at hguard
        have := List.all_eq_true.1 hguard _ hF
        simp at this
    unfold wpOp
    simp only [ho']
    rw [hwant]
    by_cases hw : Region.wanted o (yielded l.toArray b.tmps) = true
    · rw [if_pos hw]
      rw [if_pos hw] at hcase
      refine .inl ?_
      rcases hcase with ⟨hp, v, hv, hres⟩ | ⟨hp, F, t, ht, hF, hmem, huniq⟩ | ⟨t, F, hmem, hon, v, hv, hres⟩
      · have he : execOp a'.eval o = execOp b.eval o := exec_congr (fun cs x => hsel i o cs x ho') fun t ht => agree t ht fun F hF => by
          have := List.all_eq_true.1 (List.all_eq_true.1 hp t ht) _ hF
          simp at this
        refine wp_of_gives (gives_congr he (hv w1 hC1)) fun u w2 ⟨hu, hC2, hR⟩ => hkeep _ _ <| flatJ_step l.toArray S R hG hd hn hst hJ ho hall hC2 hR u fun t ht => ?_
        subst hu
        exact ⟨fun F hF => absurd hF ((hres t ht).2 F), fun _ => (hres t ht).1⟩
      · have he : execOp a'.eval o = execOp b.eval o := exec_congr (fun cs x => hsel i o cs x ho') fun t ht => agree t ht fun F hF => by
          have := List.all_eq_true.1 (List.all_eq_true.1 hp t ht) _ hF
          simp at this
        refine wp_of_gives (gives_congr he (hF w1 hC1)) fun u w2 ⟨hu, hC2, hR⟩ => hkeep _ _ <| flatJ_step l.toArray S R hG hd hn hst hJ ho hall hC2 hR u fun t' ht' => ?_
        rw [ht] at ht'
        injection ht' with ht'
        subst ht'
        exact ⟨fun F' hF' => by rw [huniq F' hF']; exact hu, fun hno => absurd hmem (hno F)⟩
      · unfold onlyB at hon
        rw [Bool.and_eq_true, List.all_eq_true] at hon
        obtain ⟨hct, hoth⟩ := hon
        have hct : t ∈ o.looksAt l.toArray := by simpa using hct
        obtain ⟨hmf, m, q, hmi, hq, hqt⟩ := f4 _ hmem
        have hlm : listed.getD m false = true := by
          rcases writer t hct m q hq hqt with ⟨_, h1⟩ | ⟨h1, _⟩
          · exact h1
          · omega
        obtain ⟨x, hx, hFx, _⟩ := hL m q t hq hqt hlm
        have hbs : t < b.tmps.size := by rw [f3]; exact hn m q t hq hqt
        have he : execOp a'.eval o = execOp (b.put (some t) x).eval o := exec_congr (fun cs y => hsel i o cs y ho') fun s hs => by
          by_cases e : s = t
          · subst e
            rw [hx, put_slot b s x hbs]
          · rw [put_slot_ne b (some t) x s (by intro h; injection h with h; exact e h.symm)]
            refine agree s hs fun F' hF' => ?_
            have := hoth s hs
            simp only [Bool.or_eq_true, beq_iff_eq, e, false_or] at this
            have := List.all_eq_true.1 this _ hF'
            simp at this
        refine wp_of_gives (gives_congr he (hv w1 x hC1 (hFx F hmf))) fun u w2 ⟨hu, hC2, hR⟩ => hkeep _ _ <| flatJ_step l.toArray S R hG hd hn hst hJ ho hall hC2 hR u fun t ht => ?_
        subst hu
        exact ⟨fun F hF => absurd hF ((hres t ht).2 F), fun _ => (hres t ht).1⟩
    · rw [if_neg hw]
      rw [if_neg hw] at hcase
      exact hkeep _ _ <| flatJ_step l.toArray S R hG hd hn hst hJ ho hall hC1 (hRr w1) undef fun t ht => ⟨fun F hF => absurd hF ((hcase t ht).2 F), fun _ => (hcase t ht).1⟩
  · -- the end
    rcases hJ with ⟨hnl, hC1, hdf, hsz, hls, hU, hL, hD⟩ | ⟨_, hq⟩
    case inr => exact hq
    exfalso
    have hallj : ∀ (j : Nat) (p : Oper), G j = some p → listed.getD j false = true := by
      intro j
      induction j using Nat.strongRecOn with
      | _ j ih =>
        intro p hp
        cases hlj : listed.getD j false with
        | true => rfl
        | false =>
          exfalso
          have hjl : j < listed.size := by rw [hls]; exact (Array.getElem?_eq_some_iff.1 (hG _ _ hp)).1
          have : j ∈ Region.ready .any l.toArray listed := mem_ready.2 ⟨by simpa [hjl] using hlj, p, hG _ _ hp, fun e he hb => by
            have hlt := (spec j p (hG _ _ hp)).1 e he
            have hjn := hGlt j p hp
            have hel : e.on < l.toArray.size := by rw [hsize]; omega
            exact ih e.on hlt _ (hGof e.on _ (by omega) (Array.getElem?_eq_getElem hel))⟩
          rw [hr] at this
          cases this
    have hnl2 : n < listed.size := by rw [hls, hsize]; omega
    have : n ∈ Region.ready .any l.toArray listed := mem_ready.2 ⟨by simpa [hnl2] using hnl, ol, hol, fun e he hb => by
      have hlt := (spec n ol hol).1 e he
      have hel : e.on < l.toArray.size := by rw [hsize]; omega
      exact hallj e.on _ (hGof e.on _ hlt (Array.getElem?_eq_getElem hel))⟩
    rw [hr] at this
    cases this
  · rw [replicate_false] at hl; cases hl
  · rw [replicate_false] at hl; cases hl
end

/-- no call of a Go function -/
def noEnterB (o : Oper) : Bool := match o.op with
  | .call c => match c.callee with
    | .builtin b => match b with
      | .append | .copy | .len | .max | .min => true
      | _ => false
    | _ => false
  | .recv _ _ _ => false
  | .nilCheck _ => false
  | .select _ _ => false
  | _ => true
theorem andThen_value {P : Program} {α : Type} {s : Sem α} {w : World} {g : α → Next} (hg : ∀ x f args, g x ≠ .enter f args) {f : FuncId} {args : Array Value} {w' : World} : ((do let x ← s; pure (g x) : Sem Next)).run P w ≠ .ok (.enter f args) w' := by
  intro h
  simp only [Sem.run_bind, Sem.run_pure] at h
  cases hs : s.run P w with
  | ok x w1 => rw [hs] at h; simp [Result.andThen] at h; exact hg x _ _ h.1
  | halt x w1 => rw [hs] at h; simp [Result.andThen] at h
theorem noEnter {P : Program} {o : Oper} {a : Act} {w w' : World} {f : FuncId} {args : Array Value} (h : noEnterB o = true) : (execOp a.eval o).run P w ≠ .ok (.enter f args) w' := by
  unfold noEnterB at h
  unfold execOp
  cases ho : o.op <;> rw [ho] at h <;> simp only
  all_goals first
    | exact andThen_value (fun _ _ _ e => by cases e)
    | (simp only [Sem.run_pure]; intro e; cases e; done)
    | skip
  case nilCheck x => cases h
  case call c =>
    obtain ⟨callee, args', types⟩ := c
    simp only at h
    cases callee with
    | builtin b =>
      cases b <;> simp only at h <;> first | (cases h; done) | skip
      all_goals simp only [resolve, Sem.run_bind, Sem.run_pure, Result.andThen_ok, invoke, builtin]
      all_goals (generalize Sem.run P (_ : Sem Value) w = r; cases r <;> simp [Result.andThen])
    | _ => cases h
  case recv => cases h

section
variable {P : Program} {ops : Array Oper} {S : World → Prop} {R : World → World → Prop} {End : List (Tmp × Fact) → Act → Prop} {rest : List Oper} {N : List (Tmp × Fact)} {a : Act} {o : Oper}
theorem flat_nil (h : End N a) : wpR P ops S R End [] N a := h
/-- on, with a value in the operation's slot -/
theorem on_value {d : Option Tmp} {v : Value} {Nx : Act → Prop} (t : TypeId) (h : ∀ K : Act → Prop, (∀ a, Nx a → K a) → Oper.quiet P { dst := d, op := .assign (.const v), type := t, pos := "", after := #[], guard := none } a (fun _ => True) K) (w : World) : Nx (a.put d v) := by
  obtain ⟨v', hv, hn⟩ := h Nx (fun _ h => h)
  have h1 := hv w trivial
  simp only [Oper.quietAt, execOp, Sem.run_pure, Oper.quietUpon, Act.eval] at h1
  rw [h1.2]
  exact hn
theorem flat_skip {d : Option Tmp} {op : Op} {t : TypeId} {ps : String} {af : Array Edge} {g : Option (Nat × Bool)} (hg : guardB ops N { dst := d, op := op, type := t, pos := ps, after := af, guard := g } = true) (hw : Region.wanted { dst := d, op := op, type := t, pos := ps, after := af, guard := g } (yielded ops a.tmps) = false) (w0 : World)
    (h : ∀ K : Act → Prop, (∀ a, wpR P ops S R End rest N a → K a) → Oper.quiet P { dst := d, op := .assign (.const undef), type := t, pos := "", after := #[], guard := none } a (fun _ => True) K) : wpR P ops S R End ({ dst := d, op := op, type := t, pos := ps, after := af, guard := g } :: rest) N a :=
  ⟨hg, by rw [if_neg (by rw [hw]; exact Bool.false_ne_true)]; exact on_value t h w0⟩
theorem flat_quiet (hRr : ∀ w, R w w) (hg : guardB ops N o = true) (hw : Region.wanted o (yielded ops a.tmps) = true) (hp : plainB ops N o = true) (hne : noEnterB o = true)
    (h : ∀ K : Act → Prop, (∀ a, wpR P ops S R End rest N a → K a) → o.quiet P a (fun w' => ∃ x : Cls S, w' = x.w) K) : wpR P ops S R End (o :: rest) N a := by
  obtain ⟨v, hv, hn⟩ := h _ (fun _ h => h)
  refine ⟨hg, ?_⟩
  rw [if_pos hw]
  refine .inl ⟨hp, v, fun w hS => ?_, hn⟩
  have h1 := hv w ⟨⟨w, hS⟩, rfl⟩
  unfold Oper.quietAt at h1
  unfold gives
  have hno := fun f args w' => noEnter (P := P) (a := a) (w := w) (w' := w') (f := f) (args := args) hne
  generalize (execOp a.eval o).run P w = r at *
  cases r with
  | ok n w' =>
    cases n <;> simp only [Oper.quietUpon] at h1 <;> simp only
    case value u => obtain ⟨rfl, rfl⟩ := h1; exact ⟨rfl, hS, hRr _⟩
    case skip => obtain ⟨rfl, rfl⟩ := h1; exact ⟨rfl, hS, hRr _⟩
    case enter f args => exact absurd rfl (hno f args w')
  | halt x w' => simp only [Oper.quietUpon] at h1
theorem nilCheck_quiet {d : Option Tmp} {x : Operand} {t : TypeId} {ps : String} {af : Array Edge} {g : Option (Nat × Bool)} (p : Addr) (hx : a.eval x = .pointer (some p)) (hRr : ∀ w, R w w) (hg : guardB ops N { dst := d, op := .nilCheck x, type := t, pos := ps, after := af, guard := g } = true)
    (hw : Region.wanted { dst := d, op := .nilCheck x, type := t, pos := ps, after := af, guard := g } (yielded ops a.tmps) = true) (hp : plainB ops N { dst := d, op := .nilCheck x, type := t, pos := ps, after := af, guard := g } = true) (w0 : World)
    (h : ∀ K : Act → Prop, (∀ a, wpR P ops S R End rest N a → K a) → Oper.quiet P { dst := d, op := .assign (.const (.pointer (some p))), type := t, pos := "", after := #[], guard := none } a (fun _ => True) K) :
    wpR P ops S R End ({ dst := d, op := .nilCheck x, type := t, pos := ps, after := af, guard := g } :: rest) N a := by
  refine ⟨hg, ?_⟩
  rw [if_pos hw]
  refine .inl ⟨hp, .pointer (some p), fun w hS => ?_, on_value t h w0⟩
  simp only [gives, execOp, hx, Sem.run_pure]
  exact ⟨trivial, hS, hRr _⟩
theorem flat_call {d : Option Tmp} {f : FuncId} {xs : Array Operand} {ts : Array TypeId} {t : TypeId} {ps : String} {af : Array Edge} {g : Option (Nat × Bool)}
    (hcf : ∀ (vals : Array Value) (w : World), (callFunc f vals).run P w = .ok (.enter f vals) w) (vals : Array Value) (hv : xs.map a.eval = vals)
    (hg : guardB ops N { dst := d, op := .call { callee := .value (.func f), args := xs, argTypes := ts }, type := t, pos := ps, after := af, guard := g } = true)
    (hw : Region.wanted { dst := d, op := .call { callee := .value (.func f), args := xs, argTypes := ts }, type := t, pos := ps, after := af, guard := g } (yielded ops a.tmps) = true)
    (hp : plainB ops N { dst := d, op := .call { callee := .value (.func f), args := xs, argTypes := ts }, type := t, pos := ps, after := af, guard := g } = true) (v : Value)
    (hc : ∀ x : Cls S, Calls P f vals x.w fun e w'' => e = .returned v ∧ S w'' ∧ R x.w w'') (w0 : World)
    (h : ∀ K : Act → Prop, (∀ a, wpR P ops S R End rest N a → K a) → Oper.quiet P { dst := d, op := .assign (.const v), type := t, pos := "", after := #[], guard := none } a (fun _ => True) K) :
    wpR P ops S R End ({ dst := d, op := .call { callee := .value (.func f), args := xs, argTypes := ts }, type := t, pos := ps, after := af, guard := g } :: rest) N a := by
  refine ⟨hg, ?_⟩
  rw [if_pos hw]
  refine .inl ⟨hp, v, fun w hS => ?_, on_value t h w0⟩
  have he : (execOp a.eval { dst := d, op := .call { callee := .value (.func f), args := xs, argTypes := ts }, type := t, pos := ps, after := af, guard := g }).run P w = .ok (.enter f vals) w := by
    simp [execOp, resolve, Act.eval, Deferred.ofValue, invoke, hcf, ← hv]
  unfold gives
  rw [he]
  exact (hc ⟨w, hS⟩).mono fun e w'' ⟨he, hs, hr⟩ => ⟨v, he, rfl, hs, hr⟩
/-- what is known of a slice that was just built: it is a row of its own with the cells cs -/
def isNew (E : TypeId) (cs : Array Value) (n : Nat) : Fact := fun u w => ∃ g, u = .slice (some ⟨g, 0, none⟩) n n ∧ Blk w g E cs
theorem isNew_below {E : TypeId} {cs : Array Value} {n : Nat} (u : Value) (w w' : World) (hb : Below w.heap.size w w') (h : isNew E cs n u w) : isNew E cs n u w' := by
  obtain ⟨g, hu, hk⟩ := h
  exact ⟨g, hu, hk.below hb hk.lt⟩
theorem flat_build {E : TypeId} {d T : Nat} {n : Nat} {parts : Array (Nat × Operand)} {t : TypeId} {ps : String} {af : Array Edge} {g : Option (Nat × Bool)} (vals : Array (Nat × Value)) (hv : (parts.map fun (i, x) => (i, a.eval x)) = vals) (cs : Array Value)
    (hrun : ∀ w : World, (Instr.buildSlice T n vals).run P w = .ok (.slice (some ⟨w.heap.size, 0, none⟩) n n) (w.alloc (.cells cs E)))
    (hS : ∀ w w', S w → Below w.heap.size w w' → S w')
    (hg : guardB ops N { dst := some d, op := .buildSlice T n parts, type := t, pos := ps, after := af, guard := g } = true)
    (hw : Region.wanted { dst := some d, op := .buildSlice T n parts, type := t, pos := ps, after := af, guard := g } (yielded ops a.tmps) = true)
    (hp : plainB ops N { dst := some d, op := .buildSlice T n parts, type := t, pos := ps, after := af, guard := g } = true) (w0 : World)
    (h : ∀ K : Act → Prop, (∀ a, wpR P ops S (fun w w' => Below w.heap.size w w') End rest ((d, isNew E cs n) :: N) a → K a) → Oper.quiet P { dst := some d, op := .assign (.const undef), type := t, pos := "", after := #[], guard := none } a (fun _ => True) K) :
    wpR P ops S (fun w w' => Below w.heap.size w w') End ({ dst := some d, op := .buildSlice T n parts, type := t, pos := ps, after := af, guard := g } :: rest) N a := by
  refine ⟨hg, ?_⟩
  rw [if_pos hw]
  refine .inr (.inl ⟨hp, isNew E cs n, d, rfl, fun u w w' hb h => isNew_below u w w' hb h, fun w hs => ?_, on_value (Nx := wpR P ops S (fun w w' => Below w.heap.size w w') End rest ((d, isNew E cs n) :: N)) t h w0⟩)
  have hb : Below w.heap.size w (w.alloc (.cells cs E)) := (Below.refl _ _).alloc (Nat.le_refl _) _
  unfold gives
  simp only [execOp, Sem.run_bind]
  rw [hv, hrun]
  exact ⟨⟨_, rfl, Blk.new _ _ _⟩, hS _ _ hs hb, hb⟩
theorem put_eval (a : Act) (t : Tmp) (v : Value) (h : t < a.tmps.size) : (a.put (some t) v).eval (.tmp t) = v := by
  have := put_slot a t v h
  simp only [Act.eval, Array.getD_eq_getD_getElem?, this, Option.getD_some]
theorem flat_conv {F : Fact} {d : Option Tmp} {y A B : Nat} {t : TypeId} {ps : String} {af : Array Edge} {g : Option (Nat × Bool)} (hy : y < a.tmps.size) (hm : (y, F) ∈ N) (v : Value)
    (hrun : ∀ w x, F x w → (convert A B x).run P w = .ok v w) (hRr : ∀ w, R w w)
    (hg : guardB ops N { dst := d, op := .convert A B (.tmp y), type := t, pos := ps, after := af, guard := g } = true)
    (hw : Region.wanted { dst := d, op := .convert A B (.tmp y), type := t, pos := ps, after := af, guard := g } (yielded ops a.tmps) = true)
    (hp : onlyB ops N { dst := d, op := .convert A B (.tmp y), type := t, pos := ps, after := af, guard := g } y = true) (w0 : World)
    (h : ∀ K : Act → Prop, (∀ a, wpR P ops S R End rest N a → K a) → Oper.quiet P { dst := d, op := .assign (.const v), type := t, pos := "", after := #[], guard := none } a (fun _ => True) K) :
    wpR P ops S R End ({ dst := d, op := .convert A B (.tmp y), type := t, pos := ps, after := af, guard := g } :: rest) N a := by
  refine ⟨hg, ?_⟩
  rw [if_pos hw]
  refine .inr (.inr ⟨y, F, hm, hp, v, fun w x hs hx => ?_, on_value t h w0⟩)
  unfold gives
  simp only [execOp, Sem.run_bind, put_eval a y x hy, hrun w x hx]
  exact ⟨rfl, hs, hRr _⟩
/-- a call of one argument, a slice that was just built -/
theorem flat_call1 {F : Fact} {d : Option Tmp} {f : FuncId} {y : Tmp} {ts : Array TypeId} {t : TypeId} {ps : String} {af : Array Edge} {g : Option (Nat × Bool)}
    (hcf : ∀ (vals : Array Value) (w : World), (callFunc f vals).run P w = .ok (.enter f vals) w) (hy : y < a.tmps.size) (hm : (y, F) ∈ N)
    (hg : guardB ops N { dst := d, op := .call { callee := .value (.func f), args := #[.tmp y], argTypes := ts }, type := t, pos := ps, after := af, guard := g } = true)
    (hw : Region.wanted { dst := d, op := .call { callee := .value (.func f), args := #[.tmp y], argTypes := ts }, type := t, pos := ps, after := af, guard := g } (yielded ops a.tmps) = true)
    (hp : onlyB ops N { dst := d, op := .call { callee := .value (.func f), args := #[.tmp y], argTypes := ts }, type := t, pos := ps, after := af, guard := g } y = true) (v : Value)
    (hc : ∀ (x : Cls S) (u : Value), F u x.w → Calls P f #[u] x.w fun e w'' => e = .returned v ∧ S w'' ∧ R x.w w'') (w0 : World)
    (h : ∀ K : Act → Prop, (∀ a, wpR P ops S R End rest N a → K a) → Oper.quiet P { dst := d, op := .assign (.const v), type := t, pos := "", after := #[], guard := none } a (fun _ => True) K) :
    wpR P ops S R End ({ dst := d, op := .call { callee := .value (.func f), args := #[.tmp y], argTypes := ts }, type := t, pos := ps, after := af, guard := g } :: rest) N a := by
  refine ⟨hg, ?_⟩
  rw [if_pos hw]
  refine .inr (.inr ⟨y, F, hm, hp, v, fun w x hs hx => ?_, on_value t h w0⟩)
  have he : (execOp (a.put (some y) x).eval { dst := d, op := .call { callee := .value (.func f), args := #[.tmp y], argTypes := ts }, type := t, pos := ps, after := af, guard := g }).run P w = .ok (.enter f #[x]) w := by
    have h1 : (#[Operand.tmp y].map (a.put (some y) x).eval) = #[x] := by simp [put_eval a y x hy]
    simp only [execOp, resolve, h1]
    simp [Act.eval, Deferred.ofValue, invoke, hcf]
  unfold gives
  rw [he]
  exact (hc ⟨w, hs⟩ x hx).mono fun e w'' ⟨he, hs, hr⟩ => ⟨v, he, rfl, hs, hr⟩
/-- 'len' of a slice that was just built -/
theorem flat_len {E : TypeId} {cs : Array Value} {n : Nat} (m : Int) {d : Option Tmp} {y : Tmp} {ts : Array TypeId} {t : TypeId} {ps : String} {af : Array Edge} {g : Option (Nat × Bool)} (hy : y < a.tmps.size) (hm : (y, isNew E cs n) ∈ N)
    (hrun : ∀ (w : World) (x : Value), isNew E cs n x w → (Builtin.len_ ts t #[x]).run P w = .ok (.int .i64 m) w) (hRr : ∀ w, R w w)
    (hg : guardB ops N { dst := d, op := .call { callee := .builtin .len, args := #[.tmp y], argTypes := ts }, type := t, pos := ps, after := af, guard := g } = true)
    (hw : Region.wanted { dst := d, op := .call { callee := .builtin .len, args := #[.tmp y], argTypes := ts }, type := t, pos := ps, after := af, guard := g } (yielded ops a.tmps) = true)
    (hp : onlyB ops N { dst := d, op := .call { callee := .builtin .len, args := #[.tmp y], argTypes := ts }, type := t, pos := ps, after := af, guard := g } y = true) (w0 : World)
    (h : ∀ K : Act → Prop, (∀ a, wpR P ops S R End rest N a → K a) → Oper.quiet P { dst := d, op := .assign (.const (.int .i64 m)), type := t, pos := "", after := #[], guard := none } a (fun _ => True) K) :
    wpR P ops S R End ({ dst := d, op := .call { callee := .builtin .len, args := #[.tmp y], argTypes := ts }, type := t, pos := ps, after := af, guard := g } :: rest) N a := by
  refine ⟨hg, ?_⟩
  rw [if_pos hw]
  refine .inr (.inr ⟨y, isNew E cs n, hm, hp, _, fun w x hs hx => ?_, on_value t h w0⟩)
  have h1 : (#[Operand.tmp y].map (a.put (some y) x).eval) = #[x] := by simp [put_eval a y x hy]
  unfold gives
  simp only [execOp, resolve, h1, Sem.run_bind, Sem.run_pure, Result.andThen_ok, invoke, builtin]
  rw [hrun w x hx]
  exact ⟨rfl, hs, hRr _⟩
/-- what is known of a variable that was just laid, at B or behind -/
def isPtr (B : Nat) (E : TypeId) (cs : Array Value) : Fact := fun u w => ∃ g, u = .pointer (some ⟨g, 0, none⟩) ∧ B ≤ g ∧ Blk w g E cs
theorem flat_alloc (B : Nat) {E : TypeId} {d : Nat} {t : TypeId} {ps : String} {af : Array Edge} {g : Option (Nat × Bool)} (cs : Array Value)
    (hrun : ∀ w : World, (Instr.alloc E true (.tuple #[])).run P w = .ok (.pointer (some ⟨w.heap.size, 0, none⟩)) (w.alloc (.cells cs E)))
    (hS : ∀ w w', S w → Below w.heap.size w w' → S w') (hB : ∀ w, S w → B ≤ w.heap.size)
    (hg : guardB ops N { dst := some d, op := .alloc E, type := t, pos := ps, after := af, guard := g } = true)
    (hw : Region.wanted { dst := some d, op := .alloc E, type := t, pos := ps, after := af, guard := g } (yielded ops a.tmps) = true)
    (hp : plainB ops N { dst := some d, op := .alloc E, type := t, pos := ps, after := af, guard := g } = true) (w0 : World)
    (h : ∀ K : Act → Prop, (∀ a, wpR P ops S (fun w w' => Below w.heap.size w w') End rest ((d, isPtr B E cs) :: N) a → K a) → Oper.quiet P { dst := some d, op := .assign (.const undef), type := t, pos := "", after := #[], guard := none } a (fun _ => True) K) :
    wpR P ops S (fun w w' => Below w.heap.size w w') End ({ dst := some d, op := .alloc E, type := t, pos := ps, after := af, guard := g } :: rest) N a := by
  refine ⟨hg, ?_⟩
  rw [if_pos hw]
  refine .inr (.inl ⟨hp, isPtr B E cs, d, rfl, fun u w w' hb ⟨g, hu, hB, hk⟩ => ⟨g, hu, hB, hk.below hb hk.lt⟩, fun w hs => ?_, on_value (Nx := wpR P ops S (fun w w' => Below w.heap.size w w') End rest ((d, isPtr B E cs) :: N)) t h w0⟩)
  have hb : Below w.heap.size w (w.alloc (.cells cs E)) := (Below.refl _ _).alloc (Nat.le_refl _) _
  unfold gives
  simp only [execOp, Sem.run_bind]
  rw [hrun]
  exact ⟨⟨_, rfl, hB w hs, Blk.new _ _ _⟩, hS _ _ hs hb, hb⟩
theorem below_call {S : World → Prop} (hS : ∀ W W', S W → Below W.heap.size W W' → S W') {P : Program} {f : FuncId} {args : Array Value} {v : Value} (x : Cls S)
    (h : Calls P f args x.w fun e w' => e = .returned v ∧ Below x.w.heap.size x.w w') : Calls P f args x.w fun e w'' => e = .returned v ∧ S w'' ∧ Below x.w.heap.size x.w w'' :=
  h.mono fun e w' ⟨he, hb⟩ => ⟨he, hS _ _ x.h hb, hb⟩
end

/-- nothing that was there in w has turned, and the block x has the cells cs -/
def KeepS (w : World) (x : Nat) (T : TypeId) (cs : Array Value) (W : World) : Prop := Below w.heap.size w W ∧ Blk W x T cs
theorem KeepS.below {w : World} {x : Nat} {T : TypeId} {cs : Array Value} (W W' : World) (h : KeepS w x T cs W) (hb : Below W.heap.size W W') : KeepS w x T cs W' := ⟨h.1.trans (hb.mono h.1.size), h.2.below hb h.2.lt⟩
theorem KeepS.size {w : World} {x : Nat} {T : TypeId} {cs : Array Value} (W : World) (h : KeepS w x T cs W) : w.heap.size ≤ W.heap.size := h.1.size
theorem KeepS.drew {w W : World} {x : Nat} {T : TypeId} {cs : Array Value} (h : KeepS w x T cs W) : KeepS w x T cs W.drew := KeepS.below _ _ h (Below.drew (Below.refl _ _))
/-- nothing that was there in w has turned -/
def OldS (w W : World) : Prop := Below w.heap.size w W
theorem OldS.below {w : World} (W W' : World) (h : OldS w W) (hb : Below W.heap.size W W') : OldS w W' := h.trans (hb.mono h.size)
theorem OldS.drew {w W : World} (h : OldS w W) : OldS w W.drew := Below.drew h
end Go.Proofs.Ytnnpahjopfkchaa
