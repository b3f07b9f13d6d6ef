/- Layer 12's reference: Drop. -/
import Derived.Test.YtlikngepcbmhdaaRef12S
set_option linter.unusedVariables false
set_option linter.unusedSimpArgs false
namespace Go.Proofs.Ytlikngepcbmhdaa
open Go.ChangeShapes Go.WideShapes Go.ChangeAt Go.RowKit Go.Maps

section
variable {base b most last c : Nat} {w : World} {l a r : List PE} {x x' : PE} {A : Option Addr} {p : Pr}
set_option maxRecDepth 100000 in
set_option maxHeartbeats 1000000 in
theorem rdrop_no {id : Nat} (h : RefAt base w b most last l A c) (hm : l.length ≤ 1000000) (hn : ∀ x ∈ l, x.id ≠ id) :
    Calls Try.prog 18 #[.pointer (some ⟨b, 0, none⟩), .int .u64 (id : Int)] w fun e w' => e = .returned (.int .i64 0) ∧ w = w' := by
  have c1 := rat_none h hm hn
  clear h
  go_enter Try.func18, Try.ntmps18
  go_wp2_with (go_at_call 24; with_reducible refine c1.mono ?_; rintro e w1 ⟨rfl, rfl⟩)
  go_ret
  exact ⟨rfl, rfl⟩
theorem reads_pre {w : World} {B g n : Nat} {xs ys : List Value} (h : Reads w B 11 (some ⟨g, 0, none⟩) n (xs ++ ys)) {m : Nat} (hm : xs.length = m * 11) (hn : m ≤ n) : Reads w B 11 (some ⟨g, 0, none⟩) m xs := by
  refine ⟨hm, fun h0 => ?_⟩
  obtain ⟨ad, e, hb, hc⟩ := h.2 (by omega)
  refine ⟨ad, e, hb, fun j u hu => hc j u ?_⟩
  rw [List.getElem?_append_left (List.getElem?_eq_some_iff.1 hu).1]
  exact hu
theorem flat_one (l : List PE) : ∀ u ∈ l.flatMap peC, u.oneCell' = true := by
  intro u hu
  obtain ⟨x, _, hx⟩ := List.mem_flatMap.1 hu
  exact peC_one x u hx
set_option maxRecDepth 100000 in
set_option maxHeartbeats 4000000 in
theorem rdrop_ok (h : RefAt base w b most last (a ++ x :: r) A c) (hb0 : base ≤ w.heap.size) (hm : (a ++ x :: r).length ≤ 1000000) (hs : (a ++ x :: r).Pairwise (fun a b => a.id < b.id)) :
    Calls Try.prog 18 #[.pointer (some ⟨b, 0, none⟩), .int .u64 (x.id : Int)] w (RPost base b most last (a ++ r) A w (.int .i64 1)) := by
  have c1 := rat_some h hm hs
  have hlen : (a ++ x :: r).length = a.length + (r.length + 1) := by simp
  have hj : a.length < (a ++ x :: r).length := by omega
  obtain ⟨g, cap, cur, hA, hg, _, _, hcap, hcm, _, hr, ht⟩ := h.cells hj
  subst hA
  have hcc : (a ++ x :: r).length ≤ c ∧ c ≤ maxLen := by
    rcases h.row.2 with ⟨e, _⟩ | ⟨g', cap', cur', e, _, _, q3, q4, _⟩
    · cases e
    · injection e with _ _ e
      subst e
      exact ⟨q3, q4⟩
  have hrd := Reads.of_own h.row
  have hfl : (a ++ x :: r).flatMap peC = a.flatMap peC ++ (x :: r).flatMap peC := by simp
  rw [hfl] at hrd
  have hr1 := reads_pre hrd (peflat_len a) (by omega)
  have hr2 := hrd.cut (k := a.length + 1) (cap := c) (by omega) hcc.1
  have hdr : (a.flatMap peC ++ (x :: r).flatMap peC).drop ((a.length + 1) * 11) = r.flatMap peC := by
    rw [List.flatMap_cons, ← List.append_assoc]
    exact List.drop_left' (by rw [List.length_append, peflat_len, peC_len]; omega)
  rw [hdr] at hr2
  have c2 := h.blk.cell 2
  simp only [List.getElem?_toArray, List.getElem?_cons_zero, List.getElem?_cons_succ] at c2
  obtain ⟨L, hL⟩ : ∃ L, L = (a ++ x :: r).length := ⟨_, rfl⟩
  rw [← hL] at c2 hcc hlen hm hr2
  have i1 : (0 : Int) ≤ a.length := by omega
  have i2 : (a.length : Int) ≤ (c : Int) := by omega
  have i3 : ¬ (a.length : Int) < 0 := by omega
  have i4 : (a.length : Int) + 1 ≤ (L : Int) := by omega
  have i5 : (L : Int) ≤ (c : Int) := by omega
  have i6 : (0 : Int) ≤ (a.length : Int) + 1 := by omega
  have i7 : c < 9223372036854775808 := by have := hcc.2; unfold maxLen at this; omega
  obtain ⟨i0, hi0, h0, h1', h22⟩ := infoEn_parts
  have hown : w.ownsRow base 55 11 (.slice none 0 0) 0 [] := World.ownsRow_nil _ _ _ _
  have HX := Lib.hid h
  have hbl := h.blk.lt
  have hlm : a.length + (L - (a.length + 1)) ≤ 1000000 := by omega
  have hpost : ∀ (w1 w2 : World) (v1 : Value) (A2 : Option Addr) (c2 : Nat), w.grownBy w1 none → (v1.ownBlock = none ∨ v1.ownBlock = some w.heap.size) → w1.grownBy w2 v1.ownBlock → ((Value.slice A2 (a.length + (L - (a.length + 1))) c2).ownBlock = v1.ownBlock ∨ (Value.slice A2 (a.length + (L - (a.length + 1))) c2).ownBlock = some w1.heap.size) →
      w2.ownsRow base 55 11 (.slice A2 (a.length + (L - (a.length + 1))) c2) (a.length + (L - (a.length + 1))) (a.flatMap peC ++ r.flatMap peC) →
      RPost base b most last (a ++ r) (some ⟨g, 0, none⟩) w (.int .i64 1) (.returned (.int .i64 1)) (w2.setCell ⟨b, 2, none⟩ (.slice A2 (a.length + (L - (a.length + 1))) c2)) ∧ Blk w2 b 44 #[.int .i64 (most : Int), .int .u64 (last : Int), .slice (some ⟨g, 0, none⟩) L c] := by
    intro w1 w2 v1 A2 c2 hg1 hat1 hg2 hat2 hown2
    have hn : a.length + (L - (a.length + 1)) = (a ++ r).length := by simp; omega
    rw [hn] at hown2 hat2 ⊢
    have hb1 : Blk w1 b 44 #[.int .i64 (most : Int), .int .u64 (last : Int), .slice (some ⟨g, 0, none⟩) L c] := by
      rw [hL]; exact h.blk.grown hg1 (by simp)
    have hb2 := hb1.grown hg2 (by
      rcases hat1 with e | e <;> rw [e]
      · simp
      · intro e2; injection e2 with e2; omega)
    refine ⟨⟨rfl, A2, c2, ⟨?_, ?_⟩, ?_, ?_⟩, hb2⟩
    · have := hb2.set_ 2 (.slice A2 (a ++ r).length c2)
      simpa using this
    · rw [List.flatMap_append]
      refine hown2.kept (only_set (World.grownBy.refl w2 (some b)) 2 _) (.inr ?_)
      exact own_blk_ne hown2 hb2 (by decide)
    · refine Out.set_ (O := ROwn b (some ⟨g, 0, none⟩)) ?_ (.inl rfl) 2 _
      refine ⟨hg2.os.trans hg1.os, hg2.tape.trans hg1.tape, hg2.output.trans hg1.output, Nat.le_trans hg1.size hg2.size, fun i hi _ => ?_⟩
      refine (hg2.block i (Nat.lt_of_lt_of_le hi hg1.size) ?_).trans (hg1.block i hi (by simp))
      rcases hat1 with e | e <;> rw [e]
      · simp
      · intro e2; injection e2 with e2; omega
    · intro g' hg'
      rw [← rowR_eq A2 (a ++ r).length c2] at hg'
      refine .inr ?_
      rcases hat2 with e | e
      · rw [e] at hg'
        rcases hat1 with e1 | e1
        · rw [e1] at hg'; cases hg'
        · rw [e1] at hg'; injection hg' with hg'; omega
      · rw [hg'] at e
        injection e with e
        have := hg1.size
        omega
  have Hr1 := Lib.hid hr1
  clear hr1
  have Hr2 := Lib.hid hr2
  clear hr2
  have Hi0 := Lib.hid hi0
  clear hi0
  have H0 := Lib.hid h0
  clear h0
  have H1' := Lib.hid h1'
  clear h1'
  have H22 := Lib.hid h22
  clear h22
  have Hown := Lib.hid hown
  clear hown
  have HL := Lib.hid hL
  clear hL
  have Hm := Lib.hid hm
  clear hm
  have Hb0 := Lib.hid hb0
  clear hb0
  have Hbl := Lib.hid hbl
  clear hbl
  have Hlm := Lib.hid hlm
  clear hlm
  have Hpost := Lib.hid hpost
  clear hpost
  clear h ht hr hrd hfl hdr hj hs hg hcap hcm hlen
  have Hcc := Lib.hid hcc
  clear hcc
  by_cases hck : c = a.length + 1
  · have hr2 := Hr2.out
    rw [if_pos hck] at hr2
    clear Hr2
    subst hck
    have Hr2 := Lib.hid hr2
    clear hr2
    go_enter Try.func18, Try.ntmps18
    go_wp2_with (first
      | (go_at_call 24; with_reducible refine c1.mono ?_; rintro e w1 ⟨rfl, hw⟩; rw [← hw]; clear hw)
      | (at_builtin; refine wpList_append_any _ rfl _ _ _ rfl base 55 i0 _ 11 56 Try.underlying42 Hi0.out H0.out H1'.out H22.out rfl (by decide) (.slice none 0 0) 0 [] rfl Hown.out w.heap.size (some ⟨g, 0, none⟩) a.length (a.length + 1) (a.flatMap peC) rfl Hr1.out (flat_one a) (by have := Hlm.out; simp only [maxLen]; omega) (by have := Hlm.out; omega) Hb0.out ?_; intro v1 w1 hown1 hg1 hat1; simp only [Nat.zero_add, List.nil_append] at hown1; obtain ⟨A1, k1, rfl, _⟩ := own_slice hown1; have HO1 := Lib.hid (And.intro hown1 (And.intro hg1 hat1)); have c2' : w1.cell? ⟨b, 2, none⟩ = some (.slice (some ⟨g, 0, none⟩) L (a.length + 1)) := (World.cell?_of_block (hg1.block b Hbl.out (by simp [Value.ownBlock]))).trans c2; clear hown1 hg1 hat1)
      | (at_builtin; refine wpList_append_any _ rfl _ _ _ rfl base 55 i0 _ 11 56 Try.underlying42 Hi0.out H0.out H1'.out H22.out rfl (by decide) (.slice A1 a.length k1) a.length (a.flatMap peC) rfl HO1.out.1 w.heap.size (some ⟨g, 0, none⟩) (L - (a.length + 1)) 0 (r.flatMap peC) rfl (Hr2.out.grown HO1.out.2.1 (Nat.le_refl _) (fun g e => by cases e)) (flat_one r) (by have := Hlm.out; simp only [maxLen]; omega) (by have := Hlm.out; omega) (Nat.le_trans Hb0.out HO1.out.2.1.size) ?_; intro v2 w2 hown2 hg2 hat2; obtain ⟨A2, k2, rfl, _⟩ := own_slice hown2; obtain ⟨hfin, hb2⟩ := Hpost.out w1 w2 _ A2 k2 HO1.out.2.1 HO1.out.2.2 hg2 hat2 hown2; have HF := Lib.hid hfin; have c3 := hb2.cell 2; have f3 := hb2.frozen 2; clear hown2 hg2 hat2 hfin hb2))
    go_ret
    exact HF.out
  · have hr2 := Hr2.out
    rw [if_neg hck, show (some (⟨g, 0, none⟩ : Addr)).map (·.add ((a.length + 1) * 11)) = some ⟨g, (a.length + 1) * 11, none⟩ by simp [Addr.add]] at hr2
    clear Hr2
    have Hr2 := Lib.hid hr2
    clear hr2
    go_enter Try.func18, Try.ntmps18
    go_wp2_with (first
      | (go_at_call 24; with_reducible refine c1.mono ?_; rintro e w1 ⟨rfl, hw⟩; rw [← hw]; clear hw)
      | (at_builtin; refine wpList_append_any _ rfl _ _ _ rfl base 55 i0 _ 11 56 Try.underlying42 Hi0.out H0.out H1'.out H22.out rfl (by decide) (.slice none 0 0) 0 [] rfl Hown.out w.heap.size (some ⟨g, 0, none⟩) a.length c (a.flatMap peC) rfl Hr1.out (flat_one a) (by have := Hlm.out; simp only [maxLen]; omega) (by have := Hlm.out; omega) Hb0.out ?_; intro v1 w1 hown1 hg1 hat1; simp only [Nat.zero_add, List.nil_append] at hown1; obtain ⟨A1, k1, rfl, _⟩ := own_slice hown1; have HO1 := Lib.hid (And.intro hown1 (And.intro hg1 hat1)); have c2' : w1.cell? ⟨b, 2, none⟩ = some (.slice (some ⟨g, 0, none⟩) L c) := (World.cell?_of_block (hg1.block b Hbl.out (by simp [Value.ownBlock]))).trans c2; clear hown1 hg1 hat1)
      | (at_builtin; refine wpList_append_any _ rfl _ _ _ rfl base 55 i0 _ 11 56 Try.underlying42 Hi0.out H0.out H1'.out H22.out rfl (by decide) (.slice A1 a.length k1) a.length (a.flatMap peC) rfl HO1.out.1 w.heap.size (some ⟨g, (a.length + 1) * 11, none⟩) (L - (a.length + 1)) (c - (a.length + 1)) (r.flatMap peC) rfl (Hr2.out.grown HO1.out.2.1 (Nat.le_refl _) (fun g e => by cases e)) (flat_one r) (by have := Hlm.out; simp only [maxLen]; omega) (by have := Hlm.out; omega) (Nat.le_trans Hb0.out HO1.out.2.1.size) ?_; intro v2 w2 hown2 hg2 hat2; obtain ⟨A2, k2, rfl, _⟩ := own_slice hown2; obtain ⟨hfin, hb2⟩ := Hpost.out w1 w2 _ A2 k2 HO1.out.2.1 HO1.out.2.2 hg2 hat2 hown2; have HF := Lib.hid hfin; have c3 := hb2.cell 2; have f3 := hb2.frozen 2; clear hown2 hg2 hat2 hfin hb2))
    go_ret
    exact HF.out
end
end Go.Proofs.Ytlikngepcbmhdaa
