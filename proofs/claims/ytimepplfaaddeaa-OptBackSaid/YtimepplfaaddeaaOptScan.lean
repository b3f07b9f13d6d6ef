/- Layer 7 (opt), in plain Lean: options' bytes, item by item; what was written is read. -/
import Derived.Test.YtimepplfaaddeaaOptDecA
import Derived.Test.YtimepplfaaddeaaOptPlaces
import Derived.Test.YtimepplfaaddeaaOptAdd
set_option linter.unusedVariables false
set_option linter.unusedSimpArgs false
namespace Go.Proofs.Ytimepplfaaddeaa

/-- an option: its kind, its bytes (none: it may not be) -/
abbrev It := Nat × Option (List UInt8)
def scanF : Nat → List UInt8 → List It
  | 0, _ => []
  | _ + 1, [] => []
  | f + 1, k :: r => if k.toNat = 0 then [] else if k.toNat = 1 then scanF f r else
    match r with
    | [] => [(k.toNat, none)]
    | n :: b => if longB k.toNat n.toNat = true ∧ n.toNat ≤ b.length + 2 then (k.toNat, some (b.take (n.toNat - 2))) :: scanF f (b.drop (n.toNat - 2)) else [(k.toNat, none)]
theorem scanF_zero (f : Nat) {k : UInt8} (r : List UInt8) (h : k.toNat = 0) : scanF (f + 1) (k :: r) = [] := by cases r <;> simp [scanF, h]
theorem scanF_one (f : Nat) {k : UInt8} (r : List UInt8) (h : k.toNat = 1) : scanF (f + 1) (k :: r) = scanF f r := by cases r <;> simp [scanF, h]
theorem scanF_end (f : Nat) {k : UInt8} (h0 : k.toNat ≠ 0) (h1 : k.toNat ≠ 1) : scanF (f + 1) [k] = [(k.toNat, none)] := by simp only [scanF]; rw [if_neg h0, if_neg h1]
theorem scanF_opt (f : Nat) {k n : UInt8} {b : List UInt8} (h0 : k.toNat ≠ 0) (h1 : k.toNat ≠ 1) (hc : longB k.toNat n.toNat = true ∧ n.toNat ≤ b.length + 2) : scanF (f + 1) (k :: n :: b) = (k.toNat, some (b.take (n.toNat - 2))) :: scanF f (b.drop (n.toNat - 2)) := by simp only [scanF]; rw [if_neg h0, if_neg h1, if_pos hc]
theorem scanF_bad (f : Nat) {k n : UInt8} {b : List UInt8} (h0 : k.toNat ≠ 0) (h1 : k.toNat ≠ 1) (hc : ¬ (longB k.toNat n.toNat = true ∧ n.toNat ≤ b.length + 2)) : scanF (f + 1) (k :: n :: b) = [(k.toNat, none)] := by simp only [scanF]; rw [if_neg h0, if_neg h1, if_neg hc]
def itemOf (L : List UInt8) (p : Nat × Nat) : It := (byteN L p.1, if p.2 = 0 then none else some (bodyL L p))
theorem byteN_drop {L : List UInt8} {i : Nat} {k : UInt8} {r : List UInt8} (h : L.drop i = k :: r) : byteN L i = k.toNat := by
  have h1 : (L.drop i)[0]? = some k := by rw [h]; rfl
  rw [List.getElem?_drop] at h1
  unfold byteN
  rw [show i + 0 = i from rfl] at h1
  rw [h1]
  rfl
theorem drop_next {L : List UInt8} {i : Nat} {k : UInt8} {r : List UInt8} (h : L.drop i = k :: r) : L.drop (i + 1) = r := by
  have := congrArg List.tail h
  rwa [List.tail_drop] at this
theorem drop_lt {L : List UInt8} {i : Nat} {k : UInt8} {r : List UInt8} (h : L.drop i = k :: r) : L.length = i + r.length + 1 := by
  have := congrArg List.length h
  rw [List.length_drop, List.length_cons] at this
  omega
theorem drop_drop_ (L : List UInt8) (i j : Nat) : (L.drop i).drop j = L.drop (i + j) := by
  rw [List.drop_drop]
theorem stepN_drop2 {L : List UInt8} {i : Nat} {k n : UInt8} {b : List UInt8} (h : L.drop i = k :: n :: b) : stepN L i = if longB k.toNat n.toNat = true ∧ n.toNat ≤ b.length + 2 then n.toNat else 0 := by
  have h1 := byteN_drop h
  have h2 := byteN_drop (drop_next h)
  have h3 := drop_lt h
  rw [List.length_cons] at h3
  unfold stepN
  rw [h1, h2]
  by_cases hc : longB k.toNat n.toNat = true ∧ n.toNat ≤ b.length + 2
  · rw [if_pos hc, if_pos ⟨by omega, hc.1, by omega⟩]
  · rw [if_neg hc, if_neg (fun h => hc ⟨h.2.1, by omega⟩)]
theorem stepN_drop1 {L : List UInt8} {i : Nat} {k : UInt8} (h : L.drop i = [k]) : stepN L i = 0 := by
  have h3 := drop_lt h
  unfold stepN
  rw [if_neg]
  rintro ⟨h1, _⟩
  simp at h3
  omega
theorem scan_placesF : ∀ (f : Nat) (L : List UInt8) (i : Nat), (placesF f L i).map (itemOf L) = scanF f (L.drop i) := by
  intro f
  induction f with
  | zero => intro L i; rfl
  | succ f ih =>
    intro L i
    cases hd : L.drop i with
    | nil =>
      have : L.length ≤ i := List.drop_eq_nil_iff.1 hd
      rw [placesF, if_neg (fun h => by omega), scanF]
      rfl
    | cons k r =>
      have hk := byteN_drop hd
      have hr := drop_next hd
      have hl := drop_lt hd
      rw [placesF]
      by_cases h0 : k.toNat = 0
      · rw [if_neg (fun h => h.2 (hk.trans h0)), scanF_zero _ _ h0]
        rfl
      rw [if_pos ⟨by omega, by rw [hk]; exact h0⟩]
      by_cases h1 : k.toNat = 1
      · rw [if_pos (hk.trans h1), scanF_one _ _ h1, ih, hr]
      rw [if_neg (by rw [hk]; exact h1), List.map_cons]
      cases r with
      | nil =>
        have hs := stepN_drop1 hd
        rw [hs, if_pos rfl, scanF_end _ h0 h1]
        simp only [itemOf, hk, List.map_nil, if_true]
      | cons n b =>
        have hs := stepN_drop2 hd
        by_cases hc : longB k.toNat n.toNat = true ∧ n.toNat ≤ b.length + 2
        · rw [if_pos hc] at hs
          have h2 := longB_two hc.1
          rw [hs, if_neg (by omega), scanF_opt _ h0 h1 hc, ih]
          have hb : L.drop (i + 2) = b := drop_next hr
          congr 1
          · unfold itemOf bodyL
            simp only []
            rw [if_neg (by omega), hk, hb]
          · rw [← hb, drop_drop_, show i + 2 + (n.toNat - 2) = i + n.toNat by omega]
        · rw [if_neg hc] at hs
          rw [hs, if_pos rfl, scanF_bad _ h0 h1 hc]
          simp only [itemOf, hk, List.map_nil, if_true]
theorem scanF_eq : ∀ (f g : Nat) (L : List UInt8), L.length < f → L.length < g → scanF f L = scanF g L := by
  intro f
  induction f with
  | zero => intro g L h; omega
  | succ f ih =>
    intro g L hf hg
    cases g with
    | zero => omega
    | succ g =>
      match L with
      | [] => rfl
      | [k] =>
        simp only [scanF]
        rw [ih g [] (by simp at *; omega) (by simp at *; omega)]
      | k :: n :: b =>
        simp only [scanF]
        simp only [List.length_cons] at hf hg
        rw [ih g (n :: b) (by simp; omega) (by simp; omega), ih g (b.drop (n.toNat - 2)) (by rw [List.length_drop]; omega) (by rw [List.length_drop]; omega)]
def scan (L : List UInt8) : List It := scanF (L.length + 1) L
theorem scan_places (L : List UInt8) : (placesAt L 0).map (itemOf L) = scan L := by
  unfold placesAt scan
  rw [scan_placesF]
  rfl
theorem scan_nil : scan [] = [] := rfl
theorem scan_zero {k : UInt8} (r : List UInt8) (h : k.toNat = 0) : scan (k :: r) = [] := by
  unfold scan
  rw [scanF_zero _ _ h]
theorem scan_one {k : UInt8} (r : List UInt8) (h : k.toNat = 1) : scan (k :: r) = scan r := by
  unfold scan
  rw [scanF_one _ _ h]
  exact scanF_eq _ _ _ (by simp) (by simp)
theorem scan_opt {k n : UInt8} (b r : List UInt8) (h0 : k.toNat ≠ 0) (h1 : k.toNat ≠ 1) (hl : longB k.toNat n.toNat = true) (hn : n.toNat = b.length + 2) : scan (k :: n :: (b ++ r)) = (k.toNat, some b) :: scan r := by
  unfold scan
  rw [scanF_opt _ h0 h1 ⟨hl, by rw [List.length_append]; omega⟩, hn, Nat.add_sub_cancel, List.take_left, List.drop_left]
  congr 1
  exact scanF_eq _ _ _ (by simp; omega) (by simp)
/-- one option, read -/
def takeI (o : Op) (k : Nat) (B : List UInt8) : Option Op :=
  if k = 2 then (if numL B % 65536 = 0 then none else some { o with mss := numL B % 65536 })
  else if k = 3 then some { o with scale := min ((byteN B 0 : Nat) : Int) 14 }
  else if k = 4 then some { o with sack := true }
  else if k = 8 then some { o with time := true, val := numL (B.take 4), echo := numL (B.drop 4) }
  else if k = 5 then some { o with bl := o.bl ++ blocksF B.length B }
  else some o
theorem takeP_I (L : List UInt8) (o : Op) (p : Nat × Nat) : takeP L o p = takeI o (byteN L p.1) (bodyL L p) := rfl
def stepI (st : Op × List Nat) (x : It) : Option (Op × List Nat) := match x.2 with
  | none => none
  | some B => if x.1 ∈ st.2 then none else (takeI st.1 x.1 B).map fun o => (o, if metB x.1 = true then x.1 :: st.2 else st.2)
theorem stepD_I (L : List UInt8) (st : Op × List Nat) (p : Nat × Nat) : stepD L st p = stepI st (itemOf L p) := by
  unfold stepD stepI itemOf
  by_cases h : p.2 = 0
  · rw [if_pos (.inl h)]
    simp only [h, if_true]
  · simp only [h, if_false, false_or]
    rw [takeP_I]
def foldI (l : List It) (st : Op × List Nat) : Option (Op × List Nat) := l.foldlM stepI st
theorem foldI_nil (st : Op × List Nat) : foldI [] st = some st := rfl
theorem foldI_cons (x : It) (l : List It) (st : Op × List Nat) : foldI (x :: l) st = (stepI st x).bind fun s => foldI l s := by
  unfold foldI
  rw [List.foldlM_cons]
  rfl
theorem foldI_append (l m : List It) (st : Op × List Nat) : foldI (l ++ m) st = (foldI l st).bind fun s => foldI m s := by
  unfold foldI
  rw [List.foldlM_append]
  rfl
theorem foldD_I (L : List UInt8) : ∀ (l : List (Nat × Nat)) (st : Op × List Nat), foldD L l st = foldI (l.map (itemOf L)) st := by
  intro l
  induction l with
  | nil => intro st; rfl
  | cons p l ih =>
    intro st
    rw [List.map_cons, foldI_cons, ← stepD_I]
    unfold foldD
    rw [List.foldlM_cons]
    cases stepD L st p with
    | none => rfl
    | some s => exact ih s
theorem decL_I (L : List UInt8) : decL L = (foldI (scan L) (noneO, [])).map (·.1) := by
  unfold decL
  rw [foldD_I, scan_places]

/-! what was written is read -/
theorem numL4 (a b c d : UInt8) : numL [a, b, c, d] = a.toNat * 16777216 + b.toNat * 65536 + c.toNat * 256 + d.toNat := by
  have h1 := UInt8.toNat_lt a
  have h2 := UInt8.toNat_lt b
  have h3 := UInt8.toNat_lt c
  have h4 := UInt8.toNat_lt d
  simp only [numL, List.foldl_cons, List.foldl_nil]
  omega
theorem numL2 (a b : UInt8) : numL [a, b] = a.toNat * 256 + b.toNat := by
  have h1 := UInt8.toNat_lt a
  have h2 := UInt8.toNat_lt b
  simp only [numL, List.foldl_cons, List.foldl_nil]
  omega
theorem numL_be4 {x : Nat} (h : x < 4294967296) : numL (be4 x) = x := by
  unfold be4
  rw [numL4]
  simp only [UInt8.toNat_ofNat']
  omega
theorem numL_be2 {x : Nat} (h : x < 65536) : numL (be2 x) = x := by
  unfold be2
  rw [numL2]
  simp only [UInt8.toNat_ofNat']
  omega
theorem be4_numL {X : List UInt8} (h : X.length = 4) : be4 (numL X) = X := by
  match X, h with
  | [a, b, c, d], _ =>
    have h1 := UInt8.toNat_lt a
    have h2 := UInt8.toNat_lt b
    have h3 := UInt8.toNat_lt c
    have h4 := UInt8.toNat_lt d
    rw [numL4]
    unfold be4
    have e : ∀ (x : UInt8) (n : Nat), n % 256 = x.toNat → UInt8.ofNat n = x := fun x n hn => by
      apply UInt8.toNat_inj.1
      rw [UInt8.toNat_ofNat']
      exact hn
    rw [e a _ (by omega), e b _ (by omega), e c _ (by omega), e d _ (by omega)]
theorem be4_len (x : Nat) : (be4 x).length = 4 := rfl
theorem be2_len (x : Nat) : (be2 x).length = 2 := rfl
def mssI (o : Op) : List It := if o.mss = 0 then [] else [(2, some (be2 o.mss))]
def scaleI (o : Op) : List It := if o.scale < 0 then [] else [(3, some [UInt8.ofNat o.scale.toNat])]
def sackI (o : Op) : List It := if o.sack then [(4, some [])] else []
def timeI (o : Op) : List It := if o.time then [(8, some (be4 o.val ++ be4 o.echo))] else []
def blkI (o : Op) : List It := if o.bl.length = 0 then [] else [(5, some (blksL o.bl))]
def itemsO (o : Op) : List It := mssI o ++ scaleI o ++ sackI o ++ timeI o ++ blkI o
theorem scan_mss (o : Op) (r : List UInt8) : scan (mssL o ++ r) = mssI o ++ scan r := by
  unfold mssL mssI
  split
  · rfl
  · rw [show [2, 4] ++ be2 o.mss ++ r = (2 : UInt8) :: 4 :: (be2 o.mss ++ r) by simp, scan_opt _ _ (by decide) (by decide) (by decide) rfl]
    rfl
theorem scan_scale (o : Op) (r : List UInt8) : scan (scaleL o ++ r) = scaleI o ++ scan r := by
  unfold scaleL scaleI
  split
  · rfl
  · rw [show [1, 3, 3, UInt8.ofNat o.scale.toNat] ++ r = (1 : UInt8) :: 3 :: 3 :: ([UInt8.ofNat o.scale.toNat] ++ r) by simp, scan_one _ (by decide), scan_opt _ _ (by decide) (by decide) (by decide) rfl]
    rfl
theorem scan_sack (o : Op) (r : List UInt8) : scan (sackL o ++ r) = sackI o ++ scan r := by
  unfold sackL sackI
  split
  · rw [show [1, 1, 4, 2] ++ r = (1 : UInt8) :: 1 :: 4 :: 2 :: ([] ++ r) by simp, scan_one _ (by decide), scan_one _ (by decide), scan_opt _ _ (by decide) (by decide) (by decide) rfl]
    rfl
  · rfl
theorem scan_time (o : Op) (r : List UInt8) : scan (timeL o ++ r) = timeI o ++ scan r := by
  unfold timeL timeI
  split
  · rw [show [1, 1, 8, 10] ++ (be4 o.val ++ be4 o.echo) ++ r = (1 : UInt8) :: 1 :: 8 :: 10 :: ((be4 o.val ++ be4 o.echo) ++ r) by simp, scan_one _ (by decide), scan_one _ (by decide), scan_opt _ _ (by decide) (by decide) (by decide) rfl]
    rfl
  · rfl
theorem scan_blk (o : Op) (r : List UInt8) (h : o.bl.length ≤ 4) : scan (bheadL o.bl.length ++ blksL o.bl ++ r) = blkI o ++ scan r := by
  unfold bheadL blkI
  by_cases h0 : o.bl.length = 0
  · rw [if_pos h0, if_pos h0, List.length_eq_zero_iff.1 h0]
    rfl
  · rw [if_neg h0, if_neg h0]
    have hl := blks_len o.bl
    have hb : (UInt8.ofNat (2 + 8 * o.bl.length)).toNat = 2 + 8 * o.bl.length := by rw [UInt8.toNat_ofNat']; omega
    rw [show [1, 1, 5, UInt8.ofNat (2 + 8 * o.bl.length)] ++ blksL o.bl ++ r = (1 : UInt8) :: 1 :: 5 :: UInt8.ofNat (2 + 8 * o.bl.length) :: (blksL o.bl ++ r) by simp, scan_one _ (by decide), scan_one _ (by decide), scan_opt _ _ (by decide) (by decide) ?_ (by rw [hb, hl]; omega)]
    · rfl
    · rw [hb]
      have : o.bl.length = 1 ∨ o.bl.length = 2 ∨ o.bl.length = 3 ∨ o.bl.length = 4 := by omega
      rcases this with h | h | h | h <;> rw [h] <;> rfl
theorem scan_raw (o : Op) (r : List UInt8) (h : o.bl.length ≤ 4) : scan (rawL o ++ r) = itemsO o ++ scan r := by
  unfold rawL itemsO
  simp only [List.append_assoc]
  rw [scan_mss, scan_scale, scan_sack, scan_time, ← List.append_assoc (bheadL o.bl.length), scan_blk o r h]
theorem blocksF_blks : ∀ (l : List (Int × Int)) (f : Nat), (blksL l).length ≤ f → (∀ p ∈ l, (0 ≤ p.1 ∧ p.1 ≤ 4294967295) ∧ 0 ≤ p.2 ∧ p.2 ≤ 4294967295) → blocksF f (blksL l) = l := by
  intro l
  induction l with
  | nil =>
    intro f _ _
    cases f <;> simp [blocksF, blksL]
  | cons p l ih =>
    intro f hf hb
    have h1 : blksL (p :: l) = be4 p.1.toNat ++ (be4 p.2.toNat ++ blksL l) := by simp [blksL]
    have hp := hb p List.mem_cons_self
    rw [h1] at hf ⊢
    rw [List.length_append, List.length_append, be4_len, be4_len] at hf
    cases f with
    | zero => omega
    | succ f =>
      rw [blocksF, if_neg (by simp [be4])]
      rw [List.take_append_of_le_length (by rw [be4_len]; exact Nat.le_refl _), List.take_of_length_le (by rw [be4_len]; exact Nat.le_refl _)]
      rw [List.drop_append_of_le_length (by rw [be4_len]; exact Nat.le_refl _), List.drop_of_length_le (by rw [be4_len]; exact Nat.le_refl _), List.nil_append]
      rw [List.take_append_of_le_length (by rw [be4_len]; exact Nat.le_refl _), List.take_of_length_le (by rw [be4_len]; exact Nat.le_refl _)]
      rw [show (be4 p.1.toNat ++ (be4 p.2.toNat ++ blksL l)).drop 8 = blksL l by rw [← List.append_assoc]; exact List.drop_left' (by simp [be4])]
      rw [numL_be4 (by omega), numL_be4 (by omega), ih f (by omega) (fun q hq => hb q (List.mem_cons_of_mem _ hq))]
      congr 1
      apply Prod.ext <;> simp <;> omega
/-- what is read of options' own items: they, where the others were not met -/
theorem fold_items (o : Op) (hw : o.wf) (hm : mayB o = true) (met : List Nat) (hmet : ∀ k ∈ met, metB k = false) : ∃ met', foldI (itemsO o) (noneO, met) = some (o, met') ∧ ∀ k ∈ met', k ∈ met ∨ metB k = true := by
  obtain ⟨h1, h2, h3, h4⟩ := mayB_parts hm
  have hn : ∀ k, metB k = true → k ∉ met := fun k hk hin => by rw [hmet k hin] at hk; cases hk
  have n2 := hn 2 rfl
  have n3 := hn 3 rfl
  have n4 := hn 4 rfl
  have n5 := hn 5 rfl
  have n8 := hn 8 rfl
  have htv : o.time = false → o.val = 0 ∧ o.echo = 0 := by
    intro ht
    unfold mayB at hm
    rw [ht] at hm
    simp only [Bool.and_eq_true, decide_eq_true_eq, Bool.false_or, beq_iff_eq] at hm
    exact hm.2.2.2.1
  -- the five parts, one behind the other
  have p1 : ∃ m1, foldI (mssI o) (noneO, met) = some ({ noneO with mss := o.mss }, m1) ∧ ∀ k ∈ m1, k ∈ met ∨ k = 2 := by
    unfold mssI
    split
    · rename_i h; exact ⟨met, by rw [foldI_nil, h]; rfl, fun k hk => .inl hk⟩
    · rename_i h
      refine ⟨2 :: met, ?_, fun k hk => by rcases List.mem_cons.1 hk with rfl | hk; exact .inr rfl; exact .inl hk⟩
      rw [foldI_cons]
      unfold stepI takeI
      simp only [if_neg n2, if_true, numL_be2 hw.mss]
      rw [Nat.mod_eq_of_lt hw.mss, if_neg h]
      rfl
  obtain ⟨m1, q1, r1⟩ := p1
  have p2 : ∃ m2, foldI (scaleI o) ({ noneO with mss := o.mss }, m1) = some ({ noneO with mss := o.mss, scale := o.scale }, m2) ∧ ∀ k ∈ m2, k ∈ met ∨ k = 2 ∨ k = 3 := by
    unfold scaleI
    split
    · rename_i h
      exact ⟨m1, by rw [foldI_nil, show o.scale = -1 by omega]; rfl, fun k hk => (r1 k hk).imp id .inl⟩
    · rename_i h
      have n3' : 3 ∉ m1 := fun hk => by rcases r1 3 hk with hk | hk; exact n3 hk; omega
      refine ⟨3 :: m1, ?_, fun k hk => by rcases List.mem_cons.1 hk with rfl | hk; exact .inr (.inr rfl); exact (r1 k hk).imp id .inl⟩
      rw [foldI_cons]
      unfold stepI takeI
      have hb : byteN [UInt8.ofNat o.scale.toNat] 0 = o.scale.toNat := by
        show (UInt8.ofNat o.scale.toNat).toNat = _
        rw [UInt8.toNat_ofNat']
        omega
      simp only [if_neg n3', hb]
      rw [show min ((o.scale.toNat : Nat) : Int) 14 = o.scale by omega]
      rfl
  obtain ⟨m2, q2, r2⟩ := p2
  have p3 : ∃ m3, foldI (sackI o) ({ noneO with mss := o.mss, scale := o.scale }, m2) = some ({ noneO with mss := o.mss, scale := o.scale, sack := o.sack }, m3) ∧ ∀ k ∈ m3, k ∈ met ∨ k = 2 ∨ k = 3 ∨ k = 4 := by
    unfold sackI
    cases hs : o.sack with
    | false => exact ⟨m2, rfl, fun k hk => (r2 k hk).imp id (fun h => h.imp id .inl)⟩
    | true =>
      have n4' : 4 ∉ m2 := fun hk => by rcases r2 4 hk with hk | hk; exact n4 hk; omega
      refine ⟨4 :: m2, ?_, fun k hk => by rcases List.mem_cons.1 hk with rfl | hk; exact .inr (.inr (.inr rfl)); exact (r2 k hk).imp id (fun h => h.imp id .inl)⟩
      rw [if_pos rfl, foldI_cons]
      unfold stepI takeI
      simp only [if_neg n4']
      rfl
  obtain ⟨m3, q3, r3⟩ := p3
  have p4 : ∃ m4, foldI (timeI o) ({ noneO with mss := o.mss, scale := o.scale, sack := o.sack }, m3) = some ({ noneO with mss := o.mss, scale := o.scale, sack := o.sack, time := o.time, val := o.val, echo := o.echo }, m4) ∧ ∀ k ∈ m4, k ∈ met ∨ k = 2 ∨ k = 3 ∨ k = 4 ∨ k = 8 := by
    unfold timeI
    cases ht : o.time with
    | false =>
      obtain ⟨e1, e2⟩ := htv ht
      exact ⟨m3, by rw [e1, e2]; rfl, fun k hk => (r3 k hk).imp id (fun h => by omega)⟩
    | true =>
      have n8' : 8 ∉ m3 := fun hk => by rcases r3 8 hk with hk | hk; exact n8 hk; omega
      refine ⟨8 :: m3, ?_, fun k hk => by rcases List.mem_cons.1 hk with rfl | hk; exact .inr (.inr (.inr (.inr rfl))); exact (r3 k hk).imp id (fun h => by omega)⟩
      rw [if_pos rfl, foldI_cons]
      unfold stepI takeI
      have e1 : (be4 o.val ++ be4 o.echo).take 4 = be4 o.val := rfl
      have e2 : (be4 o.val ++ be4 o.echo).drop 4 = be4 o.echo := rfl
      simp only [if_neg n8', e1, e2, numL_be4 hw.val, numL_be4 hw.echo]
      rfl
  obtain ⟨m4, q4, r4⟩ := p4
  have p5 : ∃ m5, foldI (blkI o) ({ noneO with mss := o.mss, scale := o.scale, sack := o.sack, time := o.time, val := o.val, echo := o.echo }, m4) = some (o, m5) ∧ ∀ k ∈ m5, k ∈ met ∨ k = 2 ∨ k = 3 ∨ k = 4 ∨ k = 8 ∨ k = 5 := by
    unfold blkI
    by_cases h : o.bl.length = 0
    · rw [if_pos h]
      refine ⟨m4, ?_, fun k hk => (r4 k hk).imp id (fun h => by omega)⟩
      rw [foldI_nil]
      have := List.length_eq_zero_iff.1 h
      cases o
      simp only at this
      subst this
      rfl
    · rw [if_neg h]
      have n5' : 5 ∉ m4 := fun hk => by rcases r4 5 hk with hk | hk; exact n5 hk; omega
      refine ⟨5 :: m4, ?_, fun k hk => by rcases List.mem_cons.1 hk with rfl | hk; exact .inr (by omega); exact (r4 k hk).imp id (fun h => by omega)⟩
      rw [foldI_cons]
      unfold stepI takeI
      simp only [if_neg n5', blocksF_blks o.bl _ (Nat.le_refl _) hw.bl]
      rfl
  obtain ⟨m5, q5, r5⟩ := p5
  refine ⟨m5, ?_, fun k hk => (r5 k hk).imp id (fun h => by rcases h with rfl | rfl | rfl | rfl | rfl <;> rfl)⟩
  unfold itemsO
  simp only [List.append_assoc, foldI_append, q1, q2, q3, q4, q5, Option.bind_some]
theorem dec_raw (o : Op) (hw : o.wf) (hm : mayB o = true) : decL (rawL o) = some o := by
  obtain ⟨h1, h2, h3, h4⟩ := mayB_parts hm
  obtain ⟨m, hf, _⟩ := fold_items o hw hm [] (fun k hk => by cases hk)
  have := scan_raw o [] h3
  rw [List.append_nil, scan_nil, List.append_nil] at this
  rw [decL_I, this, hf]
  rfl
theorem raw_four (o : Op) : (rawL o).length % 4 = 0 := by
  unfold rawL
  simp only [List.length_append, blks_len]
  unfold mssL scaleL sackL timeL bheadL
  repeat' split
  all_goals simp [be2, be4]
  all_goals omega
/-- options among unknown ones -/
theorem dec_among (o : Op) (hw : o.wf) (hm : mayB o = true) (k n : UInt8) (b r : List UInt8) (hk : k.toNat = 30) (hn : n.toNat = b.length + 2) : decL (k :: n :: (b ++ (rawL o ++ (k :: n :: (b ++ (0 :: r)))))) = some o := by
  obtain ⟨h1, h2, h3, h4⟩ := mayB_parts hm
  have hl : longB k.toNat n.toNat = true := by
    rw [hk, hn]
    unfold longB
    simp
  have hs : ∀ st : Op × List Nat, 30 ∉ st.2 → stepI st (30, some b) = some st := by
    intro st h
    unfold stepI takeI
    simp only [if_neg h]
    rfl
  obtain ⟨m, hf, hmm⟩ := fold_items o hw hm [] (fun k hk => by cases hk)
  rw [decL_I, scan_opt _ _ (by omega) (by omega) hl hn, scan_raw o _ h3, scan_opt _ _ (by omega) (by omega) hl hn, scan_zero _ rfl, hk, foldI_cons, hs _ (by simp), Option.bind_some, foldI_append, hf, Option.bind_some, foldI_cons, hs, Option.bind_some, foldI_nil]
  · rfl
  · intro h
    rcases hmm 30 h with h | h
    · cases h
    · simp [metB] at h
/-- the reference's way to read -/
def rdecR (L : List UInt8) : Op × Int := if 40 < L.length then (zeroO, 4) else if goodR L (placesAt L 0) [] = true then (match (placesAt L 0).foldlM (takeP L) noneO with
  | none => (zeroO, 70)
  | some o => (o, 0)) else (zeroO, 70)
theorem fold_good (L : List UInt8) : ∀ (l : List (Nat × Nat)) (o : Op) (met met' : List Nat), (∀ k, metB k = true → (k ∈ met ↔ k ∈ met')) → (∀ k ∈ met, metB k = true) → (foldD L l (o, met)).map (·.1) = if goodR L l met' = true then l.foldlM (takeP L) o else none := by
  intro l
  induction l with
  | nil => intro o met met' _ _; rfl
  | cons p l ih =>
    intro o met met' h1 h2
    have hc : foldD L (p :: l) (o, met) = (stepD L (o, met) p).bind fun s => foldD L l s := by
      unfold foldD
      rw [List.foldlM_cons]
      rfl
    rw [hc, goodR, List.foldlM_cons]
    unfold stepD
    by_cases hp : p.2 = 0
    · rw [if_pos (.inl hp)]
      simp [hp]
    · by_cases hm : byteN L p.1 ∈ met
      · have hb := h2 _ hm
        rw [if_pos (.inr hm)]
        have := (h1 _ hb).1 hm
        simp [hb, this]
      · rw [if_neg (by rintro (h | h); exact hp h; exact hm h)]
        have hz : (!(p.2 == 0)) = true := by simp [hp]
        have hd : (!(decide (byteN L p.1 ∈ met') && metB (byteN L p.1))) = true := by
          cases hb : metB (byteN L p.1) with
          | false => simp
          | true =>
            have : byteN L p.1 ∉ met' := fun h => hm ((h1 _ hb).2 h)
            simp [this]
        rw [hz, hd, Bool.true_and, Bool.true_and]
        cases ht : takeP L o p with
        | none => simp
        | some o2 =>
          simp only [Option.map_some, Option.bind_some]
          rw [ih o2 _ (byteN L p.1 :: met')]
          · rfl
          · intro k hk
            by_cases hb : metB (byteN L p.1) = true
            · rw [if_pos hb, List.mem_cons, List.mem_cons, h1 k hk]
            · rw [if_neg hb, List.mem_cons, h1 k hk]
              constructor
              · exact .inr
              · rintro (rfl | h)
                · exact absurd hk hb
                · exact h
          · intro k hk
            by_cases hb : metB (byteN L p.1) = true
            · rw [if_pos hb] at hk
              rcases List.mem_cons.1 hk with rfl | hk
              · exact hb
              · exact h2 k hk
            · rw [if_neg hb] at hk
              exact h2 k hk
theorem dec_same (L : List UInt8) : decR L = rdecR L := by
  unfold decR rdecR
  split
  · rfl
  · have := fold_good L (placesAt L 0) noneO [] [] (fun _ _ => Iff.rfl) (fun k hk => by cases hk)
    unfold decL
    rw [this]
    cases goodR L (placesAt L 0) [] with
    | true =>
      rw [if_pos rfl, if_pos rfl]
      cases List.foldlM (takeP L) noneO (placesAt L 0) <;> rfl
    | false =>
      rw [if_neg (by decide), if_neg (by decide)]
end Go.Proofs.Ytimepplfaaddeaa
