/- A region that draws its order: one walk in the order of the text; the last operations, each of which waits for all ahead of it, may do whatever they like. -/
import Derived.Test.YtnnpahjopfkchaaFlat
set_option linter.unusedVariables false
set_option linter.unusedSimpArgs false
set_option linter.unusedSectionVars false
namespace Go.Proofs.Ytnnpahjopfkchaa
open Go.RowKit

/-- each operation from n on waits for all ahead of it -/
def tailB (ops : Array Oper) (n : Nat) : Bool := decide (n < ops.size) && (List.range ops.size).all fun j => decide (j < n) || (match ops[j]? with
  | some o => (List.range j).all fun i => (o.after.any fun e => Region.binds .any e && e.on == i) || (o.after.any fun e => Region.binds .any e && decide (e.on < j) && (match ops[e.on]? with
    | some p => p.after.any fun f => Region.binds .any f && f.on == i
    | none => false))
  | none => false)
theorem tailB_spec {ops : Array Oper} {n : Nat} (h : tailB ops n = true) : n < ops.size ∧ ∀ j o, n ≤ j → ops[j]? = some o → ∀ i, i < j → (∃ e ∈ o.after, Region.binds .any e = true ∧ e.on = i) ∨ (∃ e ∈ o.after, Region.binds .any e = true ∧ e.on < j ∧ ∃ p, ops[e.on]? = some p ∧ ∃ f ∈ p.after, Region.binds .any f = true ∧ f.on = i) := by
  unfold tailB at h
  rw [Bool.and_eq_true, decide_eq_true_eq, List.all_eq_true] at h
  refine ⟨h.1, fun j o hnj ho i hij => ?_⟩
  have h1 := h.2 j (List.mem_range.2 (Array.getElem?_eq_some_iff.1 ho).1)
  rw [Bool.or_eq_true, decide_eq_true_eq, ho] at h1
  rcases h1 with h1 | h1
  · omega
  simp only [List.all_eq_true, List.mem_range] at h1
  have h2 := h1 i hij
  rw [Bool.or_eq_true] at h2
  rcases h2 with h2 | h2
  · obtain ⟨e, he, hb⟩ := Array.any_eq_true'.1 h2
    simp only [Bool.and_eq_true, beq_iff_eq] at hb
    exact .inl ⟨e, he, hb.1, hb.2⟩
  · obtain ⟨e, he, hb⟩ := Array.any_eq_true'.1 h2
    simp only [Bool.and_eq_true, decide_eq_true_eq] at hb
    obtain ⟨⟨hb1, hb2⟩, hb3⟩ := hb
    cases hq : ops[e.on]? with
    | none => rw [hq] at hb3; cases hb3
    | some q =>
      rw [hq] at hb3
      obtain ⟨f, hf, hc⟩ := Array.any_eq_true'.1 hb3
      simp only [Bool.and_eq_true, beq_iff_eq] at hc
      exact .inr ⟨e, he, hb1, hb2, q, hq, f, hf, hc.1, hc.2⟩
theorem drop_step {l : List Oper} {m : Nat} {o : Oper} (h : l.toArray[m]? = some o) : l.drop m = o :: l.drop (m + 1) := by
  have h1 : l[m]? = some o := by simpa using h
  have hm : m < l.length := (List.getElem?_eq_some_iff.1 h1).1
  rw [List.drop_eq_getElem_cons hm]
  congr 1
  rw [List.getElem?_eq_getElem hm] at h1
  injection h1
theorem wpOp_of_list {P : Program} {Q : Exit → Act → World → Prop} {l : List Oper} {m : Nat} {o : Oper} {rest : List Oper} {a : Act} {w : World} {K : Act → World → Prop} (ho : l.toArray[m]? = some o) (hq : wpList P l.toArray Q (o :: rest) a w) (hk : ∀ a2 w2, wpList P l.toArray Q rest a2 w2 → K a2 w2) : wpOp P l.toArray Q m K a w := by
  unfold wpOp
  simp only [ho]
  simp only [wpList] at hq
  by_cases hwl : Region.wanted o (yielded l.toArray a.tmps) = true
  · rw [if_pos hwl] at hq ⊢
    exact hq.imp (fun h => Oper.wp_mono hk h) (fun h => h)
  · rw [if_neg hwl] at hq ⊢
    exact hk _ _ hq
/-- the invariant: what stands ahead of n is under way; or all below m is done -/
def tailJ (P : Program) (l : List Oper) (Q : Exit → Act → World → Prop) (n : Nat) (J : Array Bool → Act → World → Prop) (listed : Array Bool) (a : Act) (w : World) : Prop :=
  ((∀ j, n ≤ j → listed.getD j false = false) ∧ J listed a w) ∨ ∃ m, n < m ∧ m ≤ l.length ∧ listed.size = l.length ∧ (∀ i, i < l.length → listed.getD i false = decide (i < m)) ∧ wpList P l.toArray Q (l.drop m) a w
theorem wp_region_flatk (n : Nat) (S : World → Prop) (R : World → World → Prop) {P : Program} {id : Nat} {Q : Exit → Act → World → Prop} {a : Act} {w : World} {l : List Oper} (hm : P.follows .mixedOrders = true) (hB : flatB l.toArray a.tmps.size = true) (hLast : tailB l.toArray n = true) (hRr : ∀ w, R w w) (hS : S w.drew)
    (h : wpR P l.toArray S R (fun N b => ∀ w', S w' → endF (fun b => wpList P l.toArray Q (l.drop n) b w') w' N b) (l.take n) [] a) : (Code.region id l.toArray true).wp P Q a w := by
  have spec := fun i o => flatB_spec (i := i) (o := o) hB
  obtain ⟨hsize, hT⟩ := tailB_spec hLast
  have hll : n < l.length := by simpa using hsize
  obtain ⟨ol, hol⟩ : ∃ ol, l.toArray[n]? = some ol := ⟨_, Array.getElem?_eq_getElem hsize⟩
  have hdrop := drop_step hol
  obtain ⟨G, hGd⟩ : ∃ G : Nat → Option Oper, G = fun m => if m < n then l.toArray[m]? else none := ⟨_, rfl⟩
  have hG : ∀ i o, G i = some o → l.toArray[i]? = some o := fun i o h => by
    rw [hGd] at h
    by_cases hi : i < n
    · simpa [hi] using h
    · simp [hi] at h
  have hGlt : ∀ i o, G i = some o → i < n := fun i o h => by
    rw [hGd] at h
    by_cases hi : i < n
    · exact hi
    · simp [hi] at h
  have hGof : ∀ i o, i < n → l.toArray[i]? = some o → G i = some o := fun i o hi h => by rw [hGd]; simpa [hi] using h
  have hd : ∀ (i j : Nat) (o p : Oper) (t : Tmp), G i = some o → G j = some p → o.dst = some t → p.dst = some t → i = j := by
    intro i j o p t ho hp hot hpt
    have ho := hG _ _ ho
    have hp := hG _ _ hp
    apply Classical.byContradiction
    intro hne
    exact ((spec i o ho).2.2 j p hp (Ne.symm hne)).1 t hot hpt
  have hn : ∀ (i : Nat) (o : Oper) (t : Tmp), G i = some o → o.dst = some t → t < a.tmps.size := fun i o t ho ht => ((spec i o (hG _ _ ho)).2.1 t ht).1
  have hsel : ∀ (j : Nat) (o : Oper) cs b, l.toArray[j]? = some o → o.op ≠ .select cs b := Region.noSelect_spec (by unfold flatB at hB; rw [Bool.and_eq_true] at hB; exact hB.1)
  obtain ⟨fin, Nf, hEnd, hdef, hfs, hun, _, hNf, hst, hops⟩ := wpR_out P l.toArray S R G a.tmps.size hd hn (l.take n) 0 [] a (fun j => by rw [hGd, Nat.zero_add]; by_cases hj : j < n <;> simp [hj]; omega) rfl (fun p h => by cases h) (fun p h => by cases h) h
  refine wp_region_any hm (wpAny_inv P l.toArray (tailJ P l Q n (flatJ l.toArray S G a fin Nf)) (fun listed a' w1 hJ i hi => ?_) (fun listed a' w1 hJ hr => ?_) _ _ _ _ (.inl ⟨fun j _ => replicate_false _ _, hS, rfl, rfl, by simp, fun _ _ => rfl, fun j p t hj _ hl => ?_, fun j p hj hl => ?_⟩) (by simp))
  · -- a step
    obtain ⟨hun_i, o, ho', hall⟩ := mem_ready.1 hi
    have hil0 : listed.getD i false = false := by
      obtain ⟨hl, hf⟩ := ready_false l.toArray hi
      simp [hl, hf]
    have hin : i < l.length := by have := (Array.getElem?_eq_some_iff.1 ho').1; simpa using this
    rcases hJ with ⟨hnl, hJ⟩ | ⟨m, hnm, hml, hsz2, hli, hq⟩
    case inr =>
      have him : i = m := by
        rw [hli i hin, decide_eq_false_iff_not] at hil0
        rcases Nat.lt_or_ge m i with h | h
        · exfalso
          rcases hT i o (by omega) ho' m h with ⟨e, he, hb, rfl⟩ | ⟨e, he, hb, hei, p, hp, f, hf, hfb, hfm⟩
          · have := hall e he hb
            rw [hli _ (by omega), decide_eq_true_eq] at this
            omega
          · have h1 := hall e he hb
            rw [hli _ (by omega), decide_eq_true_eq] at h1
            have h2 := (spec e.on p hp).1 f hf
            omega
        · omega
      subst him
      rw [drop_step ho'] at hq
      refine wpOp_of_list ho' hq fun a2 w2 h2 => .inr ⟨i + 1, by omega, by omega, by simp [hsz2], fun j hj => ?_, h2⟩
      by_cases e : i = j
      · subst e
        have : i < listed.size := by omega
        simp [this]
      · rw [getD_set_ne false e, hli j hj]
        congr 1
        apply propext
        omega
    by_cases hlt_n : i < n
    case neg =>
      obtain ⟨hC1, hdf, hsz, hls, hU, hL, hD⟩ := hJ
      have hbefore : ∀ k, k < i → listed.getD k false = true := fun k hk => by
        rcases hT i o (by omega) ho' k hk with ⟨e, he, hb, rfl⟩ | ⟨e, he, hb, hei, p, hp, f, hf, hfb, rfl⟩
        · exact hall e he hb
        · have h1 := hall e he hb
          rcases Nat.lt_or_ge e.on n with h | h
          · exact hD e.on p (hGof _ _ h hp) h1 f hf hfb
          · rw [hnl _ h] at h1; cases h1
      obtain rfl : i = n := by
        rcases Nat.lt_or_ge n i with h | h
        · have := hbefore n h
          rw [hnl n (Nat.le_refl _)] at this
          cases this
        · omega
      have hallj : ∀ (j : Nat) (p : Oper), G j = some p → listed.getD j false = true := fun j p hj => hbefore j (hGlt j p hj)
      have hq : wpList P l.toArray Q (l.drop i) a' w1 := by
        refine endF_out Nf fin (hEnd w1 hC1) (by rw [hdef]; exact hdf) (by rw [hfs]; exact hsz) (fun t F hF => ?_) (fun t ht => ?_)
        · obtain ⟨m, q, hq, hqt⟩ : ∃ (m : Nat) (q : Oper), G m = some q ∧ q.dst = some t := by
            rcases hNf _ hF with h1 | ⟨m, q, _, hq, hqt⟩
            · cases h1
            · exact ⟨m, q, hq, hqt⟩
          obtain ⟨v, hv, hFv, _⟩ := hL m q t hq hqt (hallj m q hq)
          exact ⟨v, hv, hFv F hF⟩
        · by_cases hw : ∃ (j : Nat) (p : Oper), G j = some p ∧ p.dst = some t
          · obtain ⟨j, p, hj, hp⟩ := hw
            obtain ⟨v, hv, _, hfin⟩ := hL j p t hj hp (hallj j p hj)
            rw [hv, hfin ht]
          · rw [hU t (fun m q hq hqt => (hw ⟨m, q, hq, hqt⟩).elim), hun t (fun m q _ hq hqt => hw ⟨m, q, hq, hqt⟩)]
      rw [hdrop] at hq
      refine wpOp_of_list hol hq fun a2 w2 h2 => .inr ⟨i + 1, by omega, by omega, by simp [hls], fun j hj => ?_, h2⟩
      by_cases e : i = j
      · subst e
        have : i < listed.size := by rw [hls]; simpa using hin
        simp [this]
      · rw [getD_set_ne false e]
        rcases Nat.lt_or_ge j i with h | h
        · rw [hbefore j h]; simp; omega
        · rw [hnl j h]; simp; omega
    have ho : G i = some o := hGof i o hlt_n ho'
    have hkeep : ∀ a2 w2, flatJ l.toArray S G a fin Nf (listed.setIfInBounds i true) a2 w2 → tailJ P l Q n (flatJ l.toArray S G a fin Nf) (listed.setIfInBounds i true) a2 w2 := fun a2 w2 h => .inl ⟨fun j hj => by rw [getD_set_ne false (by omega)]; exact hnl j hj, h⟩
    obtain ⟨b, Nb, f1, f2, f3, f4, f5, hguard, hcase⟩ := hops i o (Nat.zero_le _) ho
    obtain ⟨hC1, hdf, hsz, hls, hU, hL, hD⟩ := hJ
    have hJ : flatJ l.toArray S G a fin Nf listed a' w1 := ⟨hC1, hdf, hsz, hls, hU, hL, hD⟩
    have hil : listed.getD i false = false := by
      obtain ⟨hl, hf⟩ := ready_false l.toArray hi
      simp [hl, hf]
    -- what is looked at
    have writer : ∀ t ∈ o.looksAt l.toArray, ∀ (j : Nat) (p : Oper), G j = some p → p.dst = some t → (j < i ∧ listed.getD j false = true) ∨ (i < j ∧ listed.getD j false = false) := by
      intro t ht j p hj hp
      have hne : j ≠ i := by
        rintro rfl
        rw [ho] at hj
        injection hj with hj
        subst hj
        exact ((spec j o (hG _ _ ho)).2.1 t hp).2 ht
      rcases ((spec i o ho').2.2 j p (hG _ _ hj) hne).2 with h1 | ⟨e, he, hb, rfl⟩ | ⟨e, he, hb, hei⟩
      · exact absurd ht (h1 t hp)
      · exact .inl ⟨(spec i o ho').1 e he, hall e he hb⟩
      · refine .inr ⟨by have := (spec j p (hG _ _ hj)).1 e he; omega, ?_⟩
        cases hlj : listed.getD j false with
        | false => rfl
        | true =>
          have := hD j p hj hlj e he hb
          rw [hei, hil] at this
          cases this
    have agree : ∀ t ∈ o.looksAt l.toArray, (∀ F, (t, F) ∉ Nb) → a'.tmps[t]? = b.tmps[t]? := by
      intro t ht hNb
      by_cases hw : ∃ (j : Nat) (p : Oper), G j = some p ∧ p.dst = some t
      · obtain ⟨j, p, hj, hp⟩ := hw
        rcases writer t ht j p hj hp with ⟨hlt, hlj⟩ | ⟨hlt, hlj⟩
        · obtain ⟨v, hv, _, hfin⟩ := hL j p t hj hp hlj
          rw [hv, f2 t (fun m q hm hq hqt => by have := hd m j q p t hq hj hqt hp; omega)]
          refine (hfin fun F hF => ?_).symm
          rcases f5 _ hF with h1 | ⟨m, q, hm, hq, hqt⟩
          · exact hNb F h1
          · have := hd m j q p t hq hj hqt hp
            omega
        · rw [hU t (fun m q hq hqt => by have := hd m j q p t hq hj hqt hp; rw [this]; exact hlj), f1 t (fun m q _ hm hq hqt => by have := hd m j q p t hq hj hqt hp; omega)]
      · rw [hU t (fun m q hq hqt => (hw ⟨m, q, hq, hqt⟩).elim), f1 t (fun m q _ hm hq hqt => hw ⟨m, q, hq, hqt⟩)]
    have hwant : Region.wanted o (yielded l.toArray a'.tmps) = Region.wanted o (yielded l.toArray b.tmps) := by
      refine wanted_congr fun g x t hg ht => agree t ?_ fun F hF => ?_
      · unfold Oper.looksAt
        refine List.mem_append_right _ ?_
        rw [hg]
        show t ∈ ((l.toArray[g]?).bind (·.dst)).toList
        rw [ht]
        simp
      · unfold guardB at hguard
        rw [hg] at hguard
        simp only [ht] at hguard
        have := List.all_eq_true.1 hguard _ hF
        simp at this
    unfold wpOp
    simp only [ho']
    rw [hwant]
    by_cases hw : Region.wanted o (yielded l.toArray b.tmps) = true
    · rw [if_pos hw]
      rw [if_pos hw] at hcase
      refine .inl ?_
      rcases hcase with ⟨hp, v, hv, hres⟩ | ⟨hp, F, t, ht, hF, hmem, huniq⟩ | ⟨t, F, hmem, hon, v, hv, hres⟩
      · have he : execOp a'.eval o = execOp b.eval o := exec_congr (fun cs x => hsel i o cs x ho') fun t ht => agree t ht fun F hF => by
          have := List.all_eq_true.1 (List.all_eq_true.1 hp t ht) _ hF
          simp at this
        refine wp_of_gives (gives_congr he (hv w1 hC1)) fun u w2 ⟨hu, hC2, hR⟩ => hkeep _ _ <| flatJ_step l.toArray S R hG hd hn hst hJ ho hall hC2 hR u fun t ht => ?_
        subst hu
        exact ⟨fun F hF => absurd hF ((hres t ht).2 F), fun _ => (hres t ht).1⟩
      · have he : execOp a'.eval o = execOp b.eval o := exec_congr (fun cs x => hsel i o cs x ho') fun t ht => agree t ht fun F hF => by
          have := List.all_eq_true.1 (List.all_eq_true.1 hp t ht) _ hF
          simp at this
        refine wp_of_gives (gives_congr he (hF w1 hC1)) fun u w2 ⟨hu, hC2, hR⟩ => hkeep _ _ <| flatJ_step l.toArray S R hG hd hn hst hJ ho hall hC2 hR u fun t' ht' => ?_
        rw [ht] at ht'
        injection ht' with ht'
        subst ht'
        exact ⟨fun F' hF' => by rw [huniq F' hF']; exact hu, fun hno => absurd hmem (hno F)⟩
      · unfold onlyB at hon
        rw [Bool.and_eq_true, List.all_eq_true] at hon
        obtain ⟨hct, hoth⟩ := hon
        have hct : t ∈ o.looksAt l.toArray := by simpa using hct
        obtain ⟨hmf, m, q, hmi, hq, hqt⟩ := f4 _ hmem
        have hlm : listed.getD m false = true := by
          rcases writer t hct m q hq hqt with ⟨_, h1⟩ | ⟨h1, _⟩
          · exact h1
          · omega
        obtain ⟨x, hx, hFx, _⟩ := hL m q t hq hqt hlm
        have hbs : t < b.tmps.size := by rw [f3]; exact hn m q t hq hqt
        have he : execOp a'.eval o = execOp (b.put (some t) x).eval o := exec_congr (fun cs y => hsel i o cs y ho') fun s hs => by
          by_cases e : s = t
          · subst e
            rw [hx, put_slot b s x hbs]
          · rw [put_slot_ne b (some t) x s (by intro h; injection h with h; exact e h.symm)]
            refine agree s hs fun F' hF' => ?_
            have := hoth s hs
            simp only [Bool.or_eq_true, beq_iff_eq, e, false_or] at this
            have := List.all_eq_true.1 this _ hF'
            simp at this
        refine wp_of_gives (gives_congr he (hv w1 x hC1 (hFx F hmf))) fun u w2 ⟨hu, hC2, hR⟩ => hkeep _ _ <| flatJ_step l.toArray S R hG hd hn hst hJ ho hall hC2 hR u fun t ht => ?_
        subst hu
        exact ⟨fun F hF => absurd hF ((hres t ht).2 F), fun _ => (hres t ht).1⟩
    · rw [if_neg hw]
      rw [if_neg hw] at hcase
      exact hkeep _ _ <| flatJ_step l.toArray S R hG hd hn hst hJ ho hall hC1 (hRr w1) undef fun t ht => ⟨fun F hF => absurd hF ((hcase t ht).2 F), fun _ => (hcase t ht).1⟩
  · -- the end
    rcases hJ with ⟨hnl, hC1, hdf, hsz, hls, hU, hL, hD⟩ | ⟨m, hnm, hml, hsz2, hli, hq⟩
    case inr =>
      rcases Nat.lt_or_ge m l.length with h | h
      · exfalso
        have hms : m < l.toArray.size := by simpa using h
        have : m ∈ Region.ready .any l.toArray listed := mem_ready.2 ⟨by
          have h1 := hli m h
          have h2 : m < listed.size := by omega
          simpa [h2] using h1, _, Array.getElem?_eq_getElem hms, fun e he hb => by
            have hlt := (spec m _ (Array.getElem?_eq_getElem hms)).1 e he
            rw [hli e.on (by omega), decide_eq_true_eq]
            exact hlt⟩
        rw [hr] at this
        cases this
      · rw [List.drop_of_length_le h] at hq
        simpa [wpList] using hq
    exfalso
    have hallj : ∀ (j : Nat) (p : Oper), G j = some p → listed.getD j false = true := by
      intro j
      induction j using Nat.strongRecOn with
      | _ j ih =>
        intro p hp
        cases hlj : listed.getD j false with
        | true => rfl
        | false =>
          exfalso
          have hjl : j < listed.size := by rw [hls]; exact (Array.getElem?_eq_some_iff.1 (hG _ _ hp)).1
          have : j ∈ Region.ready .any l.toArray listed := mem_ready.2 ⟨by simpa [hjl] using hlj, p, hG _ _ hp, fun e he hb => by
            have hlt := (spec j p (hG _ _ hp)).1 e he
            have hjn := hGlt j p hp
            have hel : e.on < l.toArray.size := by have := hsize; omega
            exact ih e.on hlt _ (hGof e.on _ (by omega) (Array.getElem?_eq_getElem hel))⟩
          rw [hr] at this
          cases this
    have hnl2 : n < listed.size := by rw [hls]; exact hsize
    have : n ∈ Region.ready .any l.toArray listed := mem_ready.2 ⟨by have h1 := hnl n (Nat.le_refl _); simpa [hnl2] using h1, ol, hol, fun e he hb => by
      have hlt := (spec n ol hol).1 e he
      have hel : e.on < l.toArray.size := by have := hsize; omega
      exact hallj e.on _ (hGof e.on _ hlt (Array.getElem?_eq_getElem hel))⟩
    rw [hr] at this
    cases this
  · rw [replicate_false] at hl; cases hl
  · rw [replicate_false] at hl; cases hl
end Go.Proofs.Ytnnpahjopfkchaa
