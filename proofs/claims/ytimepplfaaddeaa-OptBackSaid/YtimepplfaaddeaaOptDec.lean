/- Layer 7 (opt): Decode: what it holds on its way. -/
import Derived.Test.YtimepplfaaddeaaOptEach
import Derived.Test.YtimepplfaaddeaaFlowUB
import Derived.Test.YtimepplfaaddeaaFlowX
import Derived.Test.YtimepplfaaddeaaOptMay
set_option linter.unusedVariables false
set_option linter.unusedSimpArgs false
namespace Go.Proofs.Ytimepplfaaddeaa
open Go.RowKit Go.BigFrame Go.Shelf Go.Maps

theorem none_any (w : World) : Calls Try.prog 17 #[] w fun e w' => e = .returned (.agg #[.int .u16 0, .int .i64 (-1), .bool false, .slice none 0 0, .bool false, .int .u32 0, .int .u32 0]) ∧ Below w.heap.size w w' := by
  have hb0 : Below w.heap.size w w := Below.refl _ _
  have HB := Lib.hid hb0
  clear hb0
  go_enter Try.func17, Try.ntmps17
  go_upto_region 1 with fail
  have hr := Blk.new w 26 #[.int .u16 0, .int .i64 0, .bool false, .slice none 0 0, .bool false, .int .u32 0, .int .u32 0]
  have hB := HB.out.alloc HB.out.size (.cells #[.int .u16 0, .int .i64 0, .bool false, .slice none 0 0, .bool false, .int .u32 0, .int .u32 0] 26)
  clear HB
  obtain ⟨gr, hge⟩ : ∃ g, g = w.heap.size := ⟨_, rfl⟩
  rw [← hge] at hr ⊢
  have hle_r : w.heap.size ≤ gr := by omega
  clear hge
  generalize w.alloc _ = wn1 at *
  have Hr := Lib.hid hr
  clear hr
  have HB := Lib.hid hB
  clear hB
  have d0 := Hr.out.cell 0
  have d1 := Hr.out.cell 1
  have d2 := Hr.out.cell 2
  have d3 := Hr.out.cell 3
  have d4 := Hr.out.cell 4
  have d5 := Hr.out.cell 5
  have d6 := Hr.out.cell 6
  simp at d0 d1 d2 d3 d4 d5 d6
  have fr := Hr.out.frozen
  go_wp2
  generalize hWf : World.setCell _ _ _ = Wf
  have hf : Blk Wf gr 26 #[.int .u16 0, .int .i64 (-1), .bool false, .slice none 0 0, .bool false, .int .u32 0, .int .u32 0] := by
    rw [← hWf]
    have := ((((((Hr.out.set_ 0 (.int .u16 0)).set_ 1 (.int .i64 (-1))).set_ 2 (.bool false)).set_ 3 (.slice none 0 0)).set_ 4 (.bool false)).set_ 5 (.int .u32 0)).set_ 6 (.int .u32 0)
    simpa using this
  have hBf : Below w.heap.size w Wf := by
    rw [← hWf]
    repeat (refine Below.setCell ?_ hle_r _)
    exact HB.out
  clear hWf d0 d1 d2 d3 d4 d5 d6 fr
  have z0 := hf.cell 0
  have z1 := hf.cell 1
  have z2 := hf.cell 2
  have z3 := hf.cell 3
  have z4 := hf.cell 4
  have z5 := hf.cell 5
  have z6 := hf.cell 6
  simp at z0 z1 z2 z3 z4 z5 z6
  exact bodyPost_ret (v := .agg #[.int .u16 0, .int .i64 (-1), .bool false, .slice none 0 0, .bool false, .int .u32 0, .int .u32 0]) (by simp [results, Try.results17, go_sem, z0, z1, z2, z3, z4, z5, z6]) rfl ⟨rfl, hBf⟩
/-- which kinds were met -/
def metM (met : List Nat) : Lit → Option Value := fun kl => match kl with
  | .int .u8 i => if 0 ≤ i ∧ i.toNat ∈ met then some (.int .i64 1) else none
  | _ => none
theorem lawU8o : Keyed Try.prog 5 := int_keyed Try.underlying5
theorem keyU8o {n : Nat} (h : n < 256) : keyOf Try.prog 5 (.int .u8 (n : Int)) = some (.int .u8 (n : Int)) := keyOf_int_mk Try.underlying5 (by simp [Lit.wf, IntKind.min, IntKind.max, IntKind.signed, IntKind.bits]; omega)
theorem zeroInt (w : World) : (zeroValue 3).run Try.prog w = .ok (.int .i64 0) w := by kernel_rfl
theorem metM_at (met : List Nat) (n : Nat) : metM met (.int .u8 (n : Int)) = if n ∈ met then some (.int .i64 1) else none := by
  simp [metM]
theorem metM_upd (met : List Nat) (n : Nat) : updM (metM met) (.int .u8 (n : Int)) (some (.int .i64 1)) = metM (n :: met) := by
  funext kl
  by_cases h : kl = .int .u8 (n : Int)
  · subst h
    rw [updM_same, metM_at, if_pos List.mem_cons_self]
  · rw [updM_other _ _ h]
    cases kl with
    | int k i =>
      cases k with
      | u8 =>
        simp only [metM, List.mem_cons]
        by_cases hi : 0 ≤ i
        · have hne : i.toNat ≠ n := fun e => h (by rw [← e, Int.toNat_of_nonneg hi])
          simp [hi, hne]
        · simp [hi]
      | _ => rfl
    | _ => rfl
def blkC (p : Int × Int) : List Value := [.int .u32 p.1, .int .u32 p.2]
def optV (o : Op) (v : Value) : Array Value := #[.int .u16 (o.mss : Int), .int .i64 o.scale, .bool o.sack, v, .bool o.time, .int .u32 (o.val : Int), .int .u32 (o.echo : Int)]
/-- options in a block, their blocks in a row of the call's own -/
def OptAt (base go : Nat) (W : World) (o : Op) : Prop := ∃ v, W.ownsRow base 56 2 v o.bl.length (o.bl.flatMap blkC) ∧ Blk W go 26 (optV o v)
def DecI (w : World) (gs go ge gb gm : Nat) (x : ByteArray) (L : List UInt8) (pre : List (PV L)) (W : World) : Prop :=
  Below w.heap.size w W ∧ Blk W gs 9 #[.string x] ∧ Blk W ge 29 #[.int .i64 0] ∧ Blk W gb 49 #[.map (some gm)] ∧
    ∃ o met n, foldD L (pre.map (·.1)) (noneO, []) = some (o, met) ∧ OptAt w.heap.size go W o ∧ MapIs Try.prog 5 W gm n (metM met) ∧ n ≤ pre.length
def zeroV : Array Value := #[.int .u16 0, .int .i64 0, .bool false, .slice none 0 0, .bool false, .int .u32 0, .int .u32 0]
def DecX (w : World) (go ge : Nat) (L : List UInt8) (c : Code) (pre : List (PV L)) (W : World) : Prop :=
  c = .ret ∧ Below w.heap.size w W ∧ foldD L (pre.map (·.1)) (noneO, []) = none ∧ Blk W go 26 zeroV ∧ Blk W ge 29 #[.int .i64 70]
theorem blk_notrow {W W' : World} {row : Option Nat} {g : Nat} {t : TypeId} {cs : Array Value} (h : Blk W g t cs) (hg : W.grownBy W' row) (hr : ∀ r, row = some r → ∃ o : Obj, W.heap[r]? = some o ∧ o.isCells = false) : Blk W' g t cs :=
  h.grown hg (fun e => by
    obtain ⟨o, h1, h2⟩ := hr g e.symm
    rw [show W.heap[g]? = _ from h] at h1
    cases h1
    cases h2)
theorem own_notrow {W W' : World} {row : Option Nat} {base n size : Nat} {e : TypeId} {v : Value} {xs : List Value} (h : W.ownsRow base e size v n xs) (hg : W.grownBy W' row) (hr : ∀ r, row = some r → ∃ o : Obj, W.heap[r]? = some o ∧ o.isCells = false) : W'.ownsRow base e size v n xs := by
  refine h.kept hg ?_
  rcases h.2 with ⟨rfl, _⟩ | ⟨g, cap, cur, rfl, _, hgg, _⟩
  · exact .inl rfl
  · refine .inr (fun he => ?_)
    obtain ⟨o, h1, h2⟩ := hr g he.symm
    rw [hgg] at h1
    cases h1
    cases h2
theorem DecI.own {w w0 : World} {gs go ge gb gm : Nat} {x : ByteArray} {L : List UInt8} {B : Nat} (hw : w.heap.size ≤ B) (hgm : gm < B) : OwnFrom B (DecI w gs go ge gb gm x L) := by
  intro pre W W' row ⟨h1, h2, h3, h4, o, met, n, h5, ⟨v, h6, h7⟩, h8, h9⟩ hg hr
  have hr2 : ∀ r, row = some r → ∃ o : Obj, W.heap[r]? = some o ∧ o.isCells = false := fun r e => (hr r e).2
  refine ⟨ownFrom_below (Nat.le_refl _) hw pre W W' row h1 hg hr, blk_notrow h2 hg hr2, blk_notrow h3 hg hr2, blk_notrow h4 hg hr2, o, met, n, h5, ⟨v, own_notrow h6 hg hr2, blk_notrow h7 hg hr2⟩, h8.kept hg (fun e => ?_), h9⟩
  have := (hr gm e.symm).1
  omega
theorem DecX.own {w : World} {go ge : Nat} {L : List UInt8} {B : Nat} (hw : w.heap.size ≤ B) (c : Code) : OwnFrom B (DecX w go ge L c) := by
  intro pre W W' row ⟨h0, h1, h2, h3, h4⟩ hg hr
  have hr2 : ∀ r, row = some r → ∃ o : Obj, W.heap[r]? = some o ∧ o.isCells = false := fun r e => (hr r e).2
  exact ⟨h0, ownFrom_below (Nat.le_refl _) hw pre W W' row h1 hg hr, h2, blk_notrow h3 hg hr2, blk_notrow h4 hg hr2⟩
theorem keepsFrom_out {O : Nat → Prop} {B : Nat} {W W' : World} (h : Out O W W') (hO : ∀ i, O i → i < B ∨ ∃ cs t d, W.heap[i]? = some (.cells cs t d)) : KeepsFrom B W W' :=
  ⟨h.size, fun k o hB hk ho => (h.block k (Array.getElem?_eq_some_iff.1 hk).1 (fun hOk => by
    rcases hO k hOk with h1 | ⟨cs, t, d, h1⟩
    · omega
    · rw [hk] at h1; cases h1; cases ho)).trans hk⟩
theorem own_cells {W : World} {base n size : Nat} {e : TypeId} {v : Value} {xs : List Value} (h : W.ownsRow base e size v n xs) {i : Nat} (hi : v.ownBlock = some i) : base ≤ i ∧ ∃ cs, W.heap[i]? = some (.cells cs e (0, 0)) := by
  rcases h.2 with ⟨rfl, _⟩ | ⟨g, cap, cur, rfl, hb, hgg, _⟩
  · cases hi
  · cases hi
    exact ⟨hb, cur, hgg⟩
theorem map_not_blk {P : Program} {k : TypeId} {W : World} {b n g : Nat} {M : Lit → Option Value} {t : TypeId} {cs : Array Value} (h : MapIs P k W b n M) (hb : Blk W g t cs) : g ≠ b := by
  rintro rfl
  obtain ⟨es, cl, h1, _⟩ := h.size
  rw [show W.heap[g]? = _ from hb] at h1
  cases h1
/-- what a round may turn -/
def DecO (go gm : Nat) (v : Value) : Nat → Prop := fun i => i = go ∨ i = gm ∨ v.ownBlock = some i
theorem dec_next {w W W' : World} {gs go ge gb gm B n : Nat} {x : ByteArray} {L : List UInt8} {v : Value} {l : List (Int × Int)} {cs : Array Value} {M : Lit → Option Value} {pre' : List (PV L)}
    (hB : Below w.heap.size w W) (hs : Blk W gs 9 #[.string x]) (he : Blk W ge 29 #[.int .i64 0]) (hb : Blk W gb 49 #[.map (some gm)])
    (hv : W.ownsRow w.heap.size 56 2 v l.length (l.flatMap blkC)) (ho : Blk W go 26 cs) (hM : MapIs Try.prog 5 W gm n M)
    (h1 : w.heap.size ≤ go) (h2 : w.heap.size ≤ gm) (h3 : go < B) (h4 : gm < B) (hout : Out (DecO go gm v) W W')
    (hnew : ∃ o met n, foldD L (pre'.map (·.1)) (noneO, []) = some (o, met) ∧ OptAt w.heap.size go W' o ∧ MapIs Try.prog 5 W' gm n (metM met) ∧ n ≤ pre'.length) :
    KeepsFrom B W W' ∧ KeepsS w.heap.size W W' ∧ DecI w gs go ge gb gm x L pre' W' := by
  have hbase : ∀ i, DecO go gm v i → w.heap.size ≤ i := by
    rintro i (rfl | rfl | h)
    · exact h1
    · exact h2
    · exact (own_cells hv h).1
  have hty : ∀ {g : Nat} {t : TypeId} {cs' : Array Value}, Blk W g t cs' → t ≠ 26 → t ≠ 56 → Blk W' g t cs' := by
    intro g t cs' hg h5 h6
    refine (hout.block g hg.lt ?_).trans hg
    rintro (rfl | rfl | h)
    · have ho2 : W.heap[g]? = _ := ho
      rw [show W.heap[g]? = _ from hg] at ho2
      injection ho2 with e
      injection e with _ e
      exact h5 e
    · exact map_not_blk hM hg rfl
    · obtain ⟨_, c, hc⟩ := own_cells hv h
      rw [show W.heap[g]? = _ from hg] at hc
      injection hc with e
      injection e with _ e
      exact h6 e
  have hbw : Below w.heap.size W W' := hout.below hB.size (fun i hi h => by have := hbase i h; omega)
  refine ⟨keepsFrom_out hout ?_, ⟨hbw, fun i cs' hi => hty hi (by decide) (by decide)⟩, hB.trans hbw, hty hs (by decide) (by decide), hty he (by decide) (by decide), hty hb (by decide) (by decide), hnew⟩
  rintro i (rfl | rfl | h)
  · exact .inl h3
  · exact .inl h4
  · obtain ⟨_, c, hc⟩ := own_cells hv h
    exact .inr ⟨_, _, _, hc⟩
theorem dec_stop {w W W' : World} {go ge gm B : Nat} {L : List UInt8} {v : Value} {l : List (Int × Int)} {pre' : List (PV L)}
    (hB : Below w.heap.size w W) (hv : W.ownsRow w.heap.size 56 2 v l.length (l.flatMap blkC))
    (h1 : w.heap.size ≤ go) (h2 : w.heap.size ≤ gm) (h5 : w.heap.size ≤ ge) (h3 : go < B) (h4 : gm < B) (h6 : ge < B) (hout : Out (fun i => DecO go gm v i ∨ i = ge) W W')
    (hf : foldD L (pre'.map (·.1)) (noneO, []) = none) (ho : Blk W' go 26 zeroV) (he : Blk W' ge 29 #[.int .i64 70]) :
    KeepsFrom B W W' ∧ DecX w go ge L .ret pre' W' := by
  have hbase : ∀ i, (DecO go gm v i ∨ i = ge) → w.heap.size ≤ i := by
    rintro i ((rfl | rfl | h) | rfl)
    · exact h1
    · exact h2
    · exact (own_cells hv h).1
    · exact h5
  have hbw : Below w.heap.size W W' := hout.below hB.size (fun i hi h => by have := hbase i h; omega)
  refine ⟨keepsFrom_out hout ?_, rfl, hB.trans hbw, hf, ho, he⟩
  rintro i ((rfl | rfl | h) | rfl)
  · exact .inl h3
  · exact .inl h4
  · obtain ⟨_, c, hc⟩ := own_cells hv h
    exact .inr ⟨_, _, _, hc⟩
  · exact .inl h6
theorem places_len (L : List UInt8) : ∀ (f i : Nat), (placesF f L i).length ≤ f := by
  intro f
  induction f with
  | zero => intro i; simp [placesF]
  | succ f ih =>
    intro i
    simp only [placesF]
    split
    · split
      · have := ih (i + 1); omega
      · rw [List.length_cons]
        split
        · simp
        · have := ih (i + stepN L i); omega
    · simp
theorem blocksF_eq : ∀ (f g : Nat) (B : List UInt8), B.length ≤ f → B.length ≤ g → blocksF f B = blocksF g B := by
  intro f
  induction f with
  | zero =>
    intro g B h _
    have : B = [] := List.length_eq_zero_iff.1 (by omega)
    subst this
    cases g <;> simp [blocksF]
  | succ f ih =>
    intro g B hf hg
    cases g with
    | zero =>
      have : B = [] := List.length_eq_zero_iff.1 (by omega)
      subst this
      simp [blocksF]
    | succ g =>
      simp only [blocksF]
      by_cases hB : B = []
      · rw [if_pos hB, if_pos hB]
      · rw [if_neg hB, if_neg hB]
        have hl : 0 < B.length := List.length_pos_iff.2 hB
        rw [ih g (B.drop 8) (by rw [List.length_drop]; omega) (by rw [List.length_drop]; omega)]
def blocksL (B : List UInt8) : List (Int × Int) := blocksF B.length B
theorem blocksL_nil : blocksL [] = [] := rfl
theorem blocksL_step {B : List UInt8} (h : B ≠ []) : blocksL B = (((numL (B.take 4) : Nat) : Int), ((numL ((B.drop 4).take 4) : Nat) : Int)) :: blocksL (B.drop 8) := by
  have hl : 0 < B.length := List.length_pos_iff.2 h
  obtain ⟨n, hn⟩ : ∃ n, B.length = n + 1 := ⟨B.length - 1, by omega⟩
  unfold blocksL
  rw [hn]
  simp only [blocksF]
  rw [if_neg h]
  congr 1
  exact blocksF_eq _ _ _ (by rw [List.length_drop]; omega) (Nat.le_refl _)
theorem infoBo : (Try.prog.info? 56).map (fun i => (i.zero, i.size, i.bytes)) = some (some (.agg #[.int .u32 0, .int .u32 0]), 2, 8) := by kernel_rfl
theorem foldD_append (L : List UInt8) (l m : List (Nat × Nat)) (st : Op × List Nat) : foldD L (l ++ m) st = (foldD L l st).bind fun s => foldD L m s := by
  unfold foldD
  rw [List.foldlM_append]
  rfl
theorem foldD_snoc (L : List UInt8) (l : List (Nat × Nat)) (p : Nat × Nat) (st : Op × List Nat) : foldD L (l ++ [p]) st = (foldD L l st).bind fun s => stepD L s p := by
  unfold foldD
  rw [List.foldlM_append]
  simp
theorem blocksF_len : ∀ (f : Nat) (B : List UInt8), (blocksF f B).length ≤ f := by
  intro f
  induction f with
  | zero => intro B; simp [blocksF]
  | succ f ih =>
    intro B
    simp only [blocksF]
    split
    · simp
    · rw [List.length_cons]
      have := ih (B.drop 8)
      omega
theorem body_len (L : List UInt8) (p : Nat × Nat) : (bodyL L p).length ≤ L.length := by
  unfold bodyL
  rw [List.length_take, List.length_drop]
  omega
theorem takeP_bl {L : List UInt8} {o o2 : Op} {p : Nat × Nat} (h : takeP L o p = some o2) : o2.bl.length ≤ o.bl.length + L.length := by
  unfold takeP at h
  simp only at h
  split at h
  · split at h
    · cases h
    · cases h; simp
  split at h
  · cases h; simp
  split at h
  · cases h; simp
  split at h
  · cases h; simp
  split at h
  · cases h
    have h1 := blocksF_len (bodyL L p).length (bodyL L p)
    have h2 := body_len L p
    simp only [List.length_append]
    omega
  · cases h; simp
theorem fold_bl (L : List UInt8) : ∀ (l : List (Nat × Nat)) (st : Op × List Nat) (o : Op) (met : List Nat), foldD L l st = some (o, met) → o.bl.length ≤ st.1.bl.length + L.length * l.length := by
  intro l
  induction l with
  | nil =>
    intro st o met h
    have : some st = some (o, met) := h
    cases this
    simp
  | cons p l ih =>
    intro st o met h
    have h1 : (stepD L st p).bind (fun s => foldD L l s) = some (o, met) := by
      unfold foldD at h
      rw [List.foldlM_cons] at h
      exact h
    cases hs : stepD L st p with
    | none => rw [hs] at h1; cases h1
    | some s2 =>
      rw [hs] at h1
      have h2 := ih s2 o met h1
      unfold stepD at hs
      split at hs
      · cases hs
      · cases ht : takeP L st.1 p with
        | none => rw [ht] at hs; cases hs
        | some o2 =>
          rw [ht] at hs
          cases hs
          have h3 := takeP_bl ht
          simp only [List.length_cons] at *
          rw [Nat.mul_succ]
          omega
end Go.Proofs.Ytimepplfaaddeaa
