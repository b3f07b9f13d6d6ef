/- Contracts and plain lemmas: OptScan, PktPlain, PktDecP, OptTurnP, PktTurnS, OptRTurn, OptRep, OptTurnW, PktLay, PktRewP, PktWf. -/
import Derived.Laws.Bits64
import Derived.StillTailTactics
import Derived.Laws.CopyOwn
import Derived.Test.YtengegcnocdkoaaRb10
import Derived.Test.YtengegcnocdkoaaRb3
import Derived.Test.YtengegcnocdkoaaRb4
import Derived.Test.YtengegcnocdkoaaRb8
import Derived.Test.YtengegcnocdkoaaRb9
import Derived.Test.YtengegcnocdkoaaRb7
import Derived.Test.YtengegcnocdkoaaRb5
import Derived.Test.YtengegcnocdkoaaRb6
section
set_option linter.unusedVariables false
set_option linter.unusedSimpArgs false
set_option maxRecDepth 20000
namespace Go.Proofs.Ytengegcnocdkoaa
/-- an option: its kind, its bytes (none: it may not be) -/
abbrev It := Nat × Option (List UInt8)
def scanF : Nat → List UInt8 → List It
  | 0, _ => []
  | _ + 1, [] => []
  | f + 1, k :: r => if k.toNat = 0 then [] else if k.toNat = 1 then scanF f r else
    match r with
    | [] => [(k.toNat, none)]
    | n :: b => if longB k.toNat n.toNat = true ∧ n.toNat ≤ b.length + 2 then (k.toNat, some (b.take (n.toNat - 2))) :: scanF f (b.drop (n.toNat - 2)) else [(k.toNat, none)]
theorem scanF_zero (f : Nat) {k : UInt8} (r : List UInt8) (h : k.toNat = 0) : scanF (f + 1) (k :: r) = [] := by cases r <;> simp [scanF, h]
theorem scanF_one (f : Nat) {k : UInt8} (r : List UInt8) (h : k.toNat = 1) : scanF (f + 1) (k :: r) = scanF f r := by cases r <;> simp [scanF, h]
theorem scanF_end (f : Nat) {k : UInt8} (h0 : k.toNat ≠ 0) (h1 : k.toNat ≠ 1) : scanF (f + 1) [k] = [(k.toNat, none)] := by simp only [scanF]; rw [if_neg h0, if_neg h1]
theorem scanF_opt (f : Nat) {k n : UInt8} {b : List UInt8} (h0 : k.toNat ≠ 0) (h1 : k.toNat ≠ 1) (hc : longB k.toNat n.toNat = true ∧ n.toNat ≤ b.length + 2) : scanF (f + 1) (k :: n :: b) = (k.toNat, some (b.take (n.toNat - 2))) :: scanF f (b.drop (n.toNat - 2)) := by simp only [scanF]; rw [if_neg h0, if_neg h1, if_pos hc]
theorem scanF_bad (f : Nat) {k n : UInt8} {b : List UInt8} (h0 : k.toNat ≠ 0) (h1 : k.toNat ≠ 1) (hc : ¬ (longB k.toNat n.toNat = true ∧ n.toNat ≤ b.length + 2)) : scanF (f + 1) (k :: n :: b) = [(k.toNat, none)] := by simp only [scanF]; rw [if_neg h0, if_neg h1, if_neg hc]
def itemOf (L : List UInt8) (p : Nat × Nat) : It := (byteN L p.1, if p.2 = 0 then none else some (bodyL L p))
theorem byteN_drop {L : List UInt8} {i : Nat} {k : UInt8} {r : List UInt8} (h : L.drop i = k :: r) : byteN L i = k.toNat := by
  have h1 : (L.drop i)[0]? = some k := by rw [h]; rfl
  rw [List.getElem?_drop] at h1
  unfold byteN
  rw [show i + 0 = i from rfl] at h1
  rw [h1]
  rfl
theorem drop_next {L : List UInt8} {i : Nat} {k : UInt8} {r : List UInt8} (h : L.drop i = k :: r) : L.drop (i + 1) = r := by
  have := congrArg List.tail h
  rwa [List.tail_drop] at this
theorem drop_lt {L : List UInt8} {i : Nat} {k : UInt8} {r : List UInt8} (h : L.drop i = k :: r) : L.length = i + r.length + 1 := by
  have := congrArg List.length h
  rw [List.length_drop, List.length_cons] at this
  omega
theorem drop_drop_ (L : List UInt8) (i j : Nat) : (L.drop i).drop j = L.drop (i + j) := by
  rw [List.drop_drop]
theorem stepN_drop2 {L : List UInt8} {i : Nat} {k n : UInt8} {b : List UInt8} (h : L.drop i = k :: n :: b) : stepN L i = if longB k.toNat n.toNat = true ∧ n.toNat ≤ b.length + 2 then n.toNat else 0 := by
  have h1 := byteN_drop h
  have h2 := byteN_drop (drop_next h)
  have h3 := drop_lt h
  rw [List.length_cons] at h3
  unfold stepN
  rw [h1, h2]
  by_cases hc : longB k.toNat n.toNat = true ∧ n.toNat ≤ b.length + 2
  · rw [if_pos hc, if_pos ⟨by omega, hc.1, by omega⟩]
  · rw [if_neg hc, if_neg (fun h => hc ⟨h.2.1, by omega⟩)]
theorem stepN_drop1 {L : List UInt8} {i : Nat} {k : UInt8} (h : L.drop i = [k]) : stepN L i = 0 := by
  have h3 := drop_lt h
  unfold stepN
  rw [if_neg]
  rintro ⟨h1, _⟩
  simp at h3
  omega
theorem scan_placesF : ∀ (f : Nat) (L : List UInt8) (i : Nat), (placesF f L i).map (itemOf L) = scanF f (L.drop i) := by
  intro f
  induction f with
  | zero => intro L i; rfl
  | succ f ih =>
    intro L i
    cases hd : L.drop i with
    | nil =>
      have : L.length ≤ i := List.drop_eq_nil_iff.1 hd
      rw [placesF, if_neg (fun h => by omega), scanF]
      rfl
    | cons k r =>
      have hk := byteN_drop hd
      have hr := drop_next hd
      have hl := drop_lt hd
      rw [placesF]
      by_cases h0 : k.toNat = 0
      · rw [if_neg (fun h => h.2 (hk.trans h0)), scanF_zero _ _ h0]
        rfl
      rw [if_pos ⟨by omega, by rw [hk]; exact h0⟩]
      by_cases h1 : k.toNat = 1
      · rw [if_pos (hk.trans h1), scanF_one _ _ h1, ih, hr]
      rw [if_neg (by rw [hk]; exact h1), List.map_cons]
      cases r with
      | nil =>
        have hs := stepN_drop1 hd
        rw [hs, if_pos rfl, scanF_end _ h0 h1]
        simp only [itemOf, hk, List.map_nil, if_true]
      | cons n b =>
        have hs := stepN_drop2 hd
        by_cases hc : longB k.toNat n.toNat = true ∧ n.toNat ≤ b.length + 2
        · rw [if_pos hc] at hs
          have h2 := longB_two hc.1
          rw [hs, if_neg (by omega), scanF_opt _ h0 h1 hc, ih]
          have hb : L.drop (i + 2) = b := drop_next hr
          congr 1
          · unfold itemOf bodyL
            simp only []
            rw [if_neg (by omega), hk, hb]
          · rw [← hb, drop_drop_, show i + 2 + (n.toNat - 2) = i + n.toNat by omega]
        · rw [if_neg hc] at hs
          rw [hs, if_pos rfl, scanF_bad _ h0 h1 hc]
          simp only [itemOf, hk, List.map_nil, if_true]
theorem scanF_eq : ∀ (f g : Nat) (L : List UInt8), L.length < f → L.length < g → scanF f L = scanF g L := by
  intro f
  induction f with
  | zero => intro g L h; omega
  | succ f ih =>
    intro g L hf hg
    cases g with
    | zero => omega
    | succ g =>
      match L with
      | [] => rfl
      | [k] =>
        simp only [scanF]
        rw [ih g [] (by simp at *; omega) (by simp at *; omega)]
      | k :: n :: b =>
        simp only [scanF]
        simp only [List.length_cons] at hf hg
        rw [ih g (n :: b) (by simp; omega) (by simp; omega), ih g (b.drop (n.toNat - 2)) (by rw [List.length_drop]; omega) (by rw [List.length_drop]; omega)]
def scan (L : List UInt8) : List It := scanF (L.length + 1) L
theorem scan_places (L : List UInt8) : (placesAt L 0).map (itemOf L) = scan L := by
  unfold placesAt scan
  rw [scan_placesF]
  rfl
theorem scan_nil : scan [] = [] := rfl
theorem scan_one {k : UInt8} (r : List UInt8) (h : k.toNat = 1) : scan (k :: r) = scan r := by
  unfold scan
  rw [scanF_one _ _ h]
  exact scanF_eq _ _ _ (by simp) (by simp)
theorem scan_opt {k n : UInt8} (b r : List UInt8) (h0 : k.toNat ≠ 0) (h1 : k.toNat ≠ 1) (hl : longB k.toNat n.toNat = true) (hn : n.toNat = b.length + 2) : scan (k :: n :: (b ++ r)) = (k.toNat, some b) :: scan r := by
  unfold scan
  rw [scanF_opt _ h0 h1 ⟨hl, by rw [List.length_append]; omega⟩, hn, Nat.add_sub_cancel, List.take_left, List.drop_left]
  congr 1
  exact scanF_eq _ _ _ (by simp; omega) (by simp)
/-- one option, read -/
def takeI (o : Op) (k : Nat) (B : List UInt8) : Option Op :=
  if k = 2 then (if numL B % 65536 = 0 then none else some { o with mss := numL B % 65536 })
  else if k = 3 then some { o with scale := min ((byteN B 0 : Nat) : Int) 14 }
  else if k = 4 then some { o with sack := true }
  else if k = 8 then some { o with time := true, val := numL (B.take 4), echo := numL (B.drop 4) }
  else if k = 5 then some { o with bl := o.bl ++ blocksF B.length B }
  else some o
theorem takeP_I (L : List UInt8) (o : Op) (p : Nat × Nat) : takeP L o p = takeI o (byteN L p.1) (bodyL L p) := rfl
def stepI (st : Op × List Nat) (x : It) : Option (Op × List Nat) := match x.2 with
  | none => none
  | some B => if x.1 ∈ st.2 then none else (takeI st.1 x.1 B).map fun o => (o, if metB x.1 = true then x.1 :: st.2 else st.2)
theorem stepD_I (L : List UInt8) (st : Op × List Nat) (p : Nat × Nat) : stepD L st p = stepI st (itemOf L p) := by
  unfold stepD stepI itemOf
  by_cases h : p.2 = 0
  · rw [if_pos (.inl h)]
    simp only [h, if_true]
  · simp only [h, if_false, false_or]
    rw [takeP_I]
def foldI (l : List It) (st : Op × List Nat) : Option (Op × List Nat) := l.foldlM stepI st
theorem foldI_nil (st : Op × List Nat) : foldI [] st = some st := rfl
theorem foldI_cons (x : It) (l : List It) (st : Op × List Nat) : foldI (x :: l) st = (stepI st x).bind fun s => foldI l s := by
  unfold foldI
  rw [List.foldlM_cons]
  rfl
theorem foldI_append (l m : List It) (st : Op × List Nat) : foldI (l ++ m) st = (foldI l st).bind fun s => foldI m s := by
  unfold foldI
  rw [List.foldlM_append]
  rfl
theorem foldD_I (L : List UInt8) : ∀ (l : List (Nat × Nat)) (st : Op × List Nat), foldD L l st = foldI (l.map (itemOf L)) st := by
  intro l
  induction l with
  | nil => intro st; rfl
  | cons p l ih =>
    intro st
    rw [List.map_cons, foldI_cons, ← stepD_I]
    unfold foldD
    rw [List.foldlM_cons]
    cases stepD L st p with
    | none => rfl
    | some s => exact ih s
theorem decL_I (L : List UInt8) : decL L = (foldI (scan L) (noneO, [])).map (·.1) := by
  unfold decL
  rw [foldD_I, scan_places]
/-! what was written is read -/
theorem numL4 (a b c d : UInt8) : numL [a, b, c, d] = a.toNat * 16777216 + b.toNat * 65536 + c.toNat * 256 + d.toNat := by
  have h1 := UInt8.toNat_lt a
  have h2 := UInt8.toNat_lt b
  have h3 := UInt8.toNat_lt c
  have h4 := UInt8.toNat_lt d
  simp only [numL, List.foldl_cons, List.foldl_nil]
  omega
theorem numL2 (a b : UInt8) : numL [a, b] = a.toNat * 256 + b.toNat := by
  have h1 := UInt8.toNat_lt a
  have h2 := UInt8.toNat_lt b
  simp only [numL, List.foldl_cons, List.foldl_nil]
  omega
theorem numL_be4 {x : Nat} (h : x < 4294967296) : numL (be4 x) = x := by
  unfold be4
  rw [numL4]
  simp only [UInt8.toNat_ofNat']
  omega
theorem numL_be2 {x : Nat} (h : x < 65536) : numL (be2 x) = x := by
  unfold be2
  rw [numL2]
  simp only [UInt8.toNat_ofNat']
  omega
theorem be4_numL {X : List UInt8} (h : X.length = 4) : be4 (numL X) = X := by
  match X, h with
  | [a, b, c, d], _ =>
    have h1 := UInt8.toNat_lt a
    have h2 := UInt8.toNat_lt b
    have h3 := UInt8.toNat_lt c
    have h4 := UInt8.toNat_lt d
    rw [numL4]
    unfold be4
    have e : ∀ (x : UInt8) (n : Nat), n % 256 = x.toNat → UInt8.ofNat n = x := fun x n hn => by
      apply UInt8.toNat_inj.1
      rw [UInt8.toNat_ofNat']
      exact hn
    rw [e a _ (by omega), e b _ (by omega), e c _ (by omega), e d _ (by omega)]
theorem be4_len (x : Nat) : (be4 x).length = 4 := rfl
theorem be2_len (x : Nat) : (be2 x).length = 2 := rfl
def mssI (o : Op) : List It := if o.mss = 0 then [] else [(2, some (be2 o.mss))]
def scaleI (o : Op) : List It := if o.scale < 0 then [] else [(3, some [UInt8.ofNat o.scale.toNat])]
def sackI (o : Op) : List It := if o.sack then [(4, some [])] else []
def timeI (o : Op) : List It := if o.time then [(8, some (be4 o.val ++ be4 o.echo))] else []
def blkI (o : Op) : List It := if o.bl.length = 0 then [] else [(5, some (blksL o.bl))]
def itemsO (o : Op) : List It := mssI o ++ scaleI o ++ sackI o ++ timeI o ++ blkI o
theorem scan_mss (o : Op) (r : List UInt8) : scan (mssL o ++ r) = mssI o ++ scan r := by
  unfold mssL mssI
  split
  · rfl
  · rw [show [2, 4] ++ be2 o.mss ++ r = (2 : UInt8) :: 4 :: (be2 o.mss ++ r) by simp, scan_opt _ _ (by decide) (by decide) (by decide) rfl]
    rfl
theorem scan_scale (o : Op) (r : List UInt8) : scan (scaleL o ++ r) = scaleI o ++ scan r := by
  unfold scaleL scaleI
  split
  · rfl
  · rw [show [1, 3, 3, UInt8.ofNat o.scale.toNat] ++ r = (1 : UInt8) :: 3 :: 3 :: ([UInt8.ofNat o.scale.toNat] ++ r) by simp, scan_one _ (by decide), scan_opt _ _ (by decide) (by decide) (by decide) rfl]
    rfl
theorem scan_sack (o : Op) (r : List UInt8) : scan (sackL o ++ r) = sackI o ++ scan r := by
  unfold sackL sackI
  split
  · rw [show [1, 1, 4, 2] ++ r = (1 : UInt8) :: 1 :: 4 :: 2 :: ([] ++ r) by simp, scan_one _ (by decide), scan_one _ (by decide), scan_opt _ _ (by decide) (by decide) (by decide) rfl]
    rfl
  · rfl
theorem scan_time (o : Op) (r : List UInt8) : scan (timeL o ++ r) = timeI o ++ scan r := by
  unfold timeL timeI
  split
  · rw [show [1, 1, 8, 10] ++ (be4 o.val ++ be4 o.echo) ++ r = (1 : UInt8) :: 1 :: 8 :: 10 :: ((be4 o.val ++ be4 o.echo) ++ r) by simp, scan_one _ (by decide), scan_one _ (by decide), scan_opt _ _ (by decide) (by decide) (by decide) rfl]
    rfl
  · rfl
theorem scan_blk (o : Op) (r : List UInt8) (h : o.bl.length ≤ 4) : scan (bheadL o.bl.length ++ blksL o.bl ++ r) = blkI o ++ scan r := by
  unfold bheadL blkI
  by_cases h0 : o.bl.length = 0
  · rw [if_pos h0, if_pos h0, List.length_eq_zero_iff.1 h0]
    rfl
  · rw [if_neg h0, if_neg h0]
    have hl := blks_len o.bl
    have hb : (UInt8.ofNat (2 + 8 * o.bl.length)).toNat = 2 + 8 * o.bl.length := by rw [UInt8.toNat_ofNat']; omega
    rw [show [1, 1, 5, UInt8.ofNat (2 + 8 * o.bl.length)] ++ blksL o.bl ++ r = (1 : UInt8) :: 1 :: 5 :: UInt8.ofNat (2 + 8 * o.bl.length) :: (blksL o.bl ++ r) by simp, scan_one _ (by decide), scan_one _ (by decide), scan_opt _ _ (by decide) (by decide) ?_ (by rw [hb, hl]; omega)]
    · rfl
    · rw [hb]
      have : o.bl.length = 1 ∨ o.bl.length = 2 ∨ o.bl.length = 3 ∨ o.bl.length = 4 := by omega
      rcases this with h | h | h | h <;> rw [h] <;> rfl
theorem scan_raw (o : Op) (r : List UInt8) (h : o.bl.length ≤ 4) : scan (rawL o ++ r) = itemsO o ++ scan r := by
  unfold rawL itemsO
  simp only [List.append_assoc]
  rw [scan_mss, scan_scale, scan_sack, scan_time, ← List.append_assoc (bheadL o.bl.length), scan_blk o r h]
theorem blocksF_blks : ∀ (l : List (Int × Int)) (f : Nat), (blksL l).length ≤ f → (∀ p ∈ l, (0 ≤ p.1 ∧ p.1 ≤ 4294967295) ∧ 0 ≤ p.2 ∧ p.2 ≤ 4294967295) → blocksF f (blksL l) = l := by
  intro l
  induction l with
  | nil =>
    intro f _ _
    cases f <;> simp [blocksF, blksL]
  | cons p l ih =>
    intro f hf hb
    have h1 : blksL (p :: l) = be4 p.1.toNat ++ (be4 p.2.toNat ++ blksL l) := by simp [blksL]
    have hp := hb p List.mem_cons_self
    rw [h1] at hf ⊢
    rw [List.length_append, List.length_append, be4_len, be4_len] at hf
    cases f with
    | zero => omega
    | succ f =>
      rw [blocksF, if_neg (by simp [be4])]
      rw [List.take_append_of_le_length (by rw [be4_len]; exact Nat.le_refl _), List.take_of_length_le (by rw [be4_len]; exact Nat.le_refl _)]
      rw [List.drop_append_of_le_length (by rw [be4_len]; exact Nat.le_refl _), List.drop_of_length_le (by rw [be4_len]; exact Nat.le_refl _), List.nil_append]
      rw [List.take_append_of_le_length (by rw [be4_len]; exact Nat.le_refl _), List.take_of_length_le (by rw [be4_len]; exact Nat.le_refl _)]
      rw [show (be4 p.1.toNat ++ (be4 p.2.toNat ++ blksL l)).drop 8 = blksL l by rw [← List.append_assoc]; exact List.drop_left' (by simp [be4])]
      rw [numL_be4 (by omega), numL_be4 (by omega), ih f (by omega) (fun q hq => hb q (List.mem_cons_of_mem _ hq))]
      congr 1
      apply Prod.ext <;> simp <;> omega
/-- what is read of options' own items: they, where the others were not met -/
theorem fold_items (o : Op) (hw : o.wf) (hm : mayB o = true) (met : List Nat) (hmet : ∀ k ∈ met, metB k = false) : ∃ met', foldI (itemsO o) (noneO, met) = some (o, met') ∧ ∀ k ∈ met', k ∈ met ∨ metB k = true := by
  obtain ⟨h1, h2, h3, h4⟩ := mayB_parts hm
  have hn : ∀ k, metB k = true → k ∉ met := fun k hk hin => by rw [hmet k hin] at hk; cases hk
  have n2 := hn 2 rfl
  have n3 := hn 3 rfl
  have n4 := hn 4 rfl
  have n5 := hn 5 rfl
  have n8 := hn 8 rfl
  have htv : o.time = false → o.val = 0 ∧ o.echo = 0 := by
    intro ht
    unfold mayB at hm
    rw [ht] at hm
    simp only [Bool.and_eq_true, decide_eq_true_eq, Bool.false_or, beq_iff_eq] at hm
    exact hm.2.2.2.1
  -- the five parts, one behind the other
  have p1 : ∃ m1, foldI (mssI o) (noneO, met) = some ({ noneO with mss := o.mss }, m1) ∧ ∀ k ∈ m1, k ∈ met ∨ k = 2 := by
    unfold mssI
    split
    · rename_i h; exact ⟨met, by rw [foldI_nil, h]; rfl, fun k hk => .inl hk⟩
    · rename_i h
      refine ⟨2 :: met, ?_, fun k hk => by rcases List.mem_cons.1 hk with rfl | hk; exact .inr rfl; exact .inl hk⟩
      rw [foldI_cons]
      unfold stepI takeI
      simp only [if_neg n2, if_true, numL_be2 hw.mss]
      rw [Nat.mod_eq_of_lt hw.mss, if_neg h]
      rfl
  obtain ⟨m1, q1, r1⟩ := p1
  have p2 : ∃ m2, foldI (scaleI o) ({ noneO with mss := o.mss }, m1) = some ({ noneO with mss := o.mss, scale := o.scale }, m2) ∧ ∀ k ∈ m2, k ∈ met ∨ k = 2 ∨ k = 3 := by
    unfold scaleI
    split
    · rename_i h
      exact ⟨m1, by rw [foldI_nil, show o.scale = -1 by omega]; rfl, fun k hk => (r1 k hk).imp id .inl⟩
    · rename_i h
      have n3' : 3 ∉ m1 := fun hk => by rcases r1 3 hk with hk | hk; exact n3 hk; omega
      refine ⟨3 :: m1, ?_, fun k hk => by rcases List.mem_cons.1 hk with rfl | hk; exact .inr (.inr rfl); exact (r1 k hk).imp id .inl⟩
      rw [foldI_cons]
      unfold stepI takeI
      have hb : byteN [UInt8.ofNat o.scale.toNat] 0 = o.scale.toNat := by
        show (UInt8.ofNat o.scale.toNat).toNat = _
        rw [UInt8.toNat_ofNat']
        omega
      simp only [if_neg n3', hb]
      rw [show min ((o.scale.toNat : Nat) : Int) 14 = o.scale by omega]
      rfl
  obtain ⟨m2, q2, r2⟩ := p2
  have p3 : ∃ m3, foldI (sackI o) ({ noneO with mss := o.mss, scale := o.scale }, m2) = some ({ noneO with mss := o.mss, scale := o.scale, sack := o.sack }, m3) ∧ ∀ k ∈ m3, k ∈ met ∨ k = 2 ∨ k = 3 ∨ k = 4 := by
    unfold sackI
    cases hs : o.sack with
    | false => exact ⟨m2, rfl, fun k hk => (r2 k hk).imp id (fun h => h.imp id .inl)⟩
    | true =>
      have n4' : 4 ∉ m2 := fun hk => by rcases r2 4 hk with hk | hk; exact n4 hk; omega
      refine ⟨4 :: m2, ?_, fun k hk => by rcases List.mem_cons.1 hk with rfl | hk; exact .inr (.inr (.inr rfl)); exact (r2 k hk).imp id (fun h => h.imp id .inl)⟩
      rw [if_pos rfl, foldI_cons]
      unfold stepI takeI
      simp only [if_neg n4']
      rfl
  obtain ⟨m3, q3, r3⟩ := p3
  have p4 : ∃ m4, foldI (timeI o) ({ noneO with mss := o.mss, scale := o.scale, sack := o.sack }, m3) = some ({ noneO with mss := o.mss, scale := o.scale, sack := o.sack, time := o.time, val := o.val, echo := o.echo }, m4) ∧ ∀ k ∈ m4, k ∈ met ∨ k = 2 ∨ k = 3 ∨ k = 4 ∨ k = 8 := by
    unfold timeI
    cases ht : o.time with
    | false =>
      obtain ⟨e1, e2⟩ := htv ht
      exact ⟨m3, by rw [e1, e2]; rfl, fun k hk => (r3 k hk).imp id (fun h => by omega)⟩
    | true =>
      have n8' : 8 ∉ m3 := fun hk => by rcases r3 8 hk with hk | hk; exact n8 hk; omega
      refine ⟨8 :: m3, ?_, fun k hk => by rcases List.mem_cons.1 hk with rfl | hk; exact .inr (.inr (.inr (.inr rfl))); exact (r3 k hk).imp id (fun h => by omega)⟩
      rw [if_pos rfl, foldI_cons]
      unfold stepI takeI
      have e1 : (be4 o.val ++ be4 o.echo).take 4 = be4 o.val := rfl
      have e2 : (be4 o.val ++ be4 o.echo).drop 4 = be4 o.echo := rfl
      simp only [if_neg n8', e1, e2, numL_be4 hw.val, numL_be4 hw.echo]
      rfl
  obtain ⟨m4, q4, r4⟩ := p4
  have p5 : ∃ m5, foldI (blkI o) ({ noneO with mss := o.mss, scale := o.scale, sack := o.sack, time := o.time, val := o.val, echo := o.echo }, m4) = some (o, m5) ∧ ∀ k ∈ m5, k ∈ met ∨ k = 2 ∨ k = 3 ∨ k = 4 ∨ k = 8 ∨ k = 5 := by
    unfold blkI
    by_cases h : o.bl.length = 0
    · rw [if_pos h]
      refine ⟨m4, ?_, fun k hk => (r4 k hk).imp id (fun h => by omega)⟩
      rw [foldI_nil]
      have := List.length_eq_zero_iff.1 h
      cases o
      simp only at this
      subst this
      rfl
    · rw [if_neg h]
      have n5' : 5 ∉ m4 := fun hk => by rcases r4 5 hk with hk | hk; exact n5 hk; omega
      refine ⟨5 :: m4, ?_, fun k hk => by rcases List.mem_cons.1 hk with rfl | hk; exact .inr (by omega); exact (r4 k hk).imp id (fun h => by omega)⟩
      rw [foldI_cons]
      unfold stepI takeI
      simp only [if_neg n5', blocksF_blks o.bl _ (Nat.le_refl _) hw.bl]
      rfl
  obtain ⟨m5, q5, r5⟩ := p5
  refine ⟨m5, ?_, fun k hk => (r5 k hk).imp id (fun h => by rcases h with rfl | rfl | rfl | rfl | rfl <;> rfl)⟩
  unfold itemsO
  simp only [List.append_assoc, foldI_append, q1, q2, q3, q4, q5, Option.bind_some]
theorem dec_raw (o : Op) (hw : o.wf) (hm : mayB o = true) : decL (rawL o) = some o := by
  obtain ⟨h1, h2, h3, h4⟩ := mayB_parts hm
  obtain ⟨m, hf, _⟩ := fold_items o hw hm [] (fun k hk => by cases hk)
  have := scan_raw o [] h3
  rw [List.append_nil, scan_nil, List.append_nil] at this
  rw [decL_I, this, hf]
  rfl
theorem raw_four (o : Op) : (rawL o).length % 4 = 0 := by
  unfold rawL
  simp only [List.length_append, blks_len]
  unfold mssL scaleL sackL timeL bheadL
  repeat' split
  all_goals simp [be2, be4]
  all_goals omega
end Go.Proofs.Ytengegcnocdkoaa
end
section
set_option linter.unusedVariables false
set_option linter.unusedSimpArgs false
namespace Go.Proofs.Ytengegcnocdkoaa
open Go.RowKit
/-- a segment -/
structure Sg where
  s0 : Nat
  s1 : Nat
  s2 : Nat
  s3 : Nat
  s4 : Nat
  s5 : Nat
  f : Nat
  s7 : Nat
  o : Op
  d : ByteArray
structure Sg.wf (s : Sg) : Prop where
  b0 : s.s0 < 4294967296
  b1 : s.s1 < 65536
  b2 : s.s2 < 4294967296
  b3 : s.s3 < 65536
  b4 : s.s4 < 4294967296
  b5 : s.s5 < 4294967296
  f : s.f < 256
  b7 : s.s7 < 65536
  o : s.o.wf
def Sg.c (s : Sg) (A : Option Addr) (c : Nat) : Array Value := segO s.s0 s.s1 s.s2 s.s3 s.s4 s.s5 s.f s.s7 s.o A c s.d
def Sg.may (s : Sg) : Bool := pmayB s.f s.o s.d
def Sg.th (s : Sg) : T.TCPh := ⟨s.s1, s.s3, s.s4, s.s5, UInt8.ofNat s.f, s.s7, 0, ⟨(rawL s.o).toArray⟩⟩
def Sg.ih (s : Sg) : I.IPh := ⟨s.s0, s.s2, 6, 64, 0, 0, true⟩
def Sg.tl (s : Sg) : List UInt8 := T.encL s.s0 s.s2 s.th s.d.data.toList
def Sg.pl (s : Sg) : List UInt8 := I.encL s.ih s.tl
def pencR (s : Sg) : ByteArray × Int := if s.may = true then (⟨s.pl.toArray⟩, 0) else (⟨#[]⟩, 2)
section
variable {s : Sg}
theorem Sg.may_parts (h : s.may = true) : flagsB s.f = true ∧ mayB s.o = true ∧ s.d.size ≤ 1460 := by
  unfold Sg.may pmayB at h
  simp only [Bool.and_eq_true, decide_eq_true_eq] at h
  exact ⟨h.1.1, h.1.2, h.2⟩
theorem flagsB_lt {f : Nat} (h : flagsB f = true) : f < 32 := by
  unfold flagsB at h
  simp only [Bool.and_eq_true, decide_eq_true_eq] at h
  exact h.1
theorem Sg.enc_o (h : s.may = true) : encR s.o = (⟨(rawL s.o).toArray⟩, 0) := by
  unfold encR
  rw [if_pos (Sg.may_parts h).2.1]
theorem Sg.th_ok (h : s.wf) : s.th.ok := ⟨h.b1, h.b3, h.b4, h.b5, h.b7, by show 0 < 65536; omega⟩
theorem Sg.ih_ok (h : s.wf) : s.ih.ok := ⟨h.b0, h.b2, by show 0 < 65536; omega⟩
theorem Sg.th_size : s.th.opts.size = (rawL s.o).length := by
  show (rawL s.o).toArray.size = _
  simp
theorem Sg.th_flags (h : s.wf) : s.th.flags.toNat = s.f := by
  have := h.f
  show (UInt8.ofNat s.f).toNat = s.f
  rw [UInt8.toNat_ofNat']
  omega
theorem Sg.th_may (w : s.wf) (h : s.may = true) : s.th.may := by
  obtain ⟨h1, h2, h3⟩ := Sg.may_parts h
  have := flagsB_lt h1
  refine ⟨?_, ?_, ?_⟩
  · rw [Sg.th_size]; exact raw_four _
  · rw [Sg.th_size]; exact (mayB_parts h2).2.2.2
  · rw [Sg.th_flags w]; omega
theorem Sg.len (w : s.wf) (h : s.may = true) : s.th.opts.size ≤ 40 ∧ s.d.size ≤ 1460 ∧ s.tl.length = 20 + s.th.opts.size + s.d.size ∧ s.pl.length = 40 + s.th.opts.size + s.d.size := by
  have h1 : s.tl.length = 20 + s.th.opts.size + s.d.size := T.enc_len _ _ _ _
  refine ⟨(Sg.th_may w h).2.1, (Sg.may_parts h).2.2, h1, ?_⟩
  have : s.pl.length = 20 + s.tl.length := I.enc_len _ _
  omega
theorem Sg.enc_t (w : s.wf) (h : s.may = true) : T.encV s.s0 s.s2 s.th s.d = .tuple #[.string ⟨s.tl.toArray⟩, .int .i64 0] := by
  have hl := Sg.len w h
  have hm := Sg.th_may w h
  unfold T.encV T.encS T.encE
  rw [if_pos ⟨hm, by omega⟩, if_pos hm, if_pos (by omega)]
  rfl
theorem Sg.enc_i (w : s.wf) (h : s.may = true) : I.encV s.ih ⟨s.tl.toArray⟩ = .tuple #[.string ⟨s.pl.toArray⟩, .int .i64 0] := by
  have hl := Sg.len w h
  have : (⟨s.tl.toArray⟩ : ByteArray).size = s.tl.length := by
    show s.tl.toArray.size = _
    simp
  unfold I.encV
  rw [if_neg (by omega)]
  unfold Sg.pl
  simp
end
end Go.Proofs.Ytengegcnocdkoaa
end
section
set_option linter.unusedVariables false
set_option linter.unusedSimpArgs false
namespace Go.Proofs.Ytengegcnocdkoaa
open Go.RowKit
def zeroSg : Sg := ⟨0, 0, 0, 0, 0, 0, 0, 0, zeroO, ⟨#[]⟩⟩
/-- a packet's heads, its options, what they say, its data -/
def hI (L : List UInt8) : I.IPh := I.decH L
def hT (L : List UInt8) : T.TCPh := T.decH (L.drop 20)
def oB (L : List UInt8) : List UInt8 := (hT L).opts.data.toList
def dB (L : List UInt8) : ByteArray := ⟨((L.drop 20).drop (T.endN (L.drop 20))).toArray⟩
def sgL (L : List UInt8) : Sg := ⟨(hI L).src, (hT L).src, (hI L).dst, (hT L).dst, (hT L).seq, (hT L).ack, (hT L).flags.toNat, (hT L).window, (decR (oB L)).1, dB L⟩
def pdecE (L : List UInt8) : Int :=
  if I.decE L ≠ 0 then (I.decE L : Int) else if (hI L).proto ≠ 6 then 80 else if T.decE (hI L).src (hI L).dst (L.drop 20) ≠ 0 then (T.decE (hI L).src (hI L).dst (L.drop 20) : Int)
  else if (decR (oB L)).2 ≠ 0 then (decR (oB L)).2 else if flagsB (hT L).flags.toNat = false then 81 else if 1460 < (dB L).size then 4 else 0
def pdecR (L : List UInt8) : Sg × Int := if pdecE L = 0 then (sgL L, 0) else (zeroSg, pdecE L)
/-- how Decode ends -/
def PDecPost (w : World) (L : List UInt8) (e : Ending) (w' : World) : Prop :=
  ∃ (s : Sg) (A : Option Addr) (c : Nat) (code : Int), e = .returned (.tuple #[.agg (s.c A c), .int .i64 code]) ∧ BlR w' A s.o.bl ∧ Below w.heap.size w w' ∧ (s, code) = pdecR L
section
variable {L : List UInt8}
theorem pdec_of {e : Int} (h : pdecE L = e) (h0 : e ≠ 0) : pdecR L = (zeroSg, e) := by
  unfold pdecR
  rw [h, if_neg h0]
theorem pdec_i {k : Nat} (h : I.decE L = k) (h0 : k ≠ 0) : pdecR L = (zeroSg, (k : Int)) := by
  refine pdec_of ?_ (by omega)
  unfold pdecE
  rw [h, if_pos h0]
theorem pdec_p (h : I.decE L = 0) (h1 : (hI L).proto ≠ 6) : pdecR L = (zeroSg, 80) := by
  refine pdec_of ?_ (by omega)
  unfold pdecE
  rw [if_neg (by simp [h]), if_pos h1]
theorem pdec_t {k : Nat} (h : I.decE L = 0) (h1 : (hI L).proto = 6) (h2 : T.decE (hI L).src (hI L).dst (L.drop 20) = k) (h0 : k ≠ 0) : pdecR L = (zeroSg, (k : Int)) := by
  refine pdec_of ?_ (by omega)
  unfold pdecE
  rw [if_neg (by simp [h]), if_neg (by simp [h1]), h2, if_pos h0]
theorem pdec_o (h : I.decE L = 0) (h1 : (hI L).proto = 6) (h2 : T.decE (hI L).src (hI L).dst (L.drop 20) = 0) (h3 : (decR (oB L)).2 ≠ 0) : pdecR L = (zeroSg, (decR (oB L)).2) := by
  refine pdec_of ?_ h3
  unfold pdecE
  rw [if_neg (by simp [h]), if_neg (by simp [h1]), if_neg (by simp [h2]), if_pos h3]
theorem pdec_f (h : I.decE L = 0) (h1 : (hI L).proto = 6) (h2 : T.decE (hI L).src (hI L).dst (L.drop 20) = 0) (h3 : (decR (oB L)).2 = 0) (h4 : flagsB (hT L).flags.toNat = false) : pdecR L = (zeroSg, 81) := by
  refine pdec_of ?_ (by omega)
  unfold pdecE
  rw [if_neg (by simp [h]), if_neg (by simp [h1]), if_neg (by simp [h2]), if_neg (by simp [h3]), if_pos h4]
theorem pdec_d (h : I.decE L = 0) (h1 : (hI L).proto = 6) (h2 : T.decE (hI L).src (hI L).dst (L.drop 20) = 0) (h3 : (decR (oB L)).2 = 0) (h4 : flagsB (hT L).flags.toNat = true) (h5 : 1460 < (dB L).size) : pdecR L = (zeroSg, 4) := by
  refine pdec_of ?_ (by omega)
  unfold pdecE
  rw [if_neg (by simp [h]), if_neg (by simp [h1]), if_neg (by simp [h2]), if_neg (by simp [h3]), if_neg (by simp [h4]), if_pos h5]
theorem pdec_ok (h : I.decE L = 0) (h1 : (hI L).proto = 6) (h2 : T.decE (hI L).src (hI L).dst (L.drop 20) = 0) (h3 : (decR (oB L)).2 = 0) (h4 : flagsB (hT L).flags.toNat = true) (h5 : (dB L).size ≤ 1460) : pdecR L = (sgL L, 0) := by
  have h : pdecE L = 0 := by
    unfold pdecE
    rw [if_neg (by simp [h]), if_neg (by simp [h1]), if_neg (by simp [h2]), if_neg (by simp [h3]), if_neg (by simp [h4]), if_neg (by omega)]
  unfold pdecR
  rw [if_pos h]
end
theorem numL_lt32 (l : List UInt8) : numL l < 4294967296 := by have := numL_lt l; omega
theorem hI_src (L : List UInt8) : (hI L).src < 4294967296 := numL_lt32 ((L.drop 12).take 4)
theorem hI_dst (L : List UInt8) : (hI L).dst < 4294967296 := numL_lt32 ((L.drop 16).take 4)
/-- what ip.Decode, tcp.Decode answer, in one form -/
structure PD (L : List UInt8) (h : I.IPh) (ld : ByteArray) (k : Nat) : Prop where
  v : I.decV L = .tuple #[.agg #[.int .u32 (h.src : Int), .int .u32 (h.dst : Int), .int .u8 (h.proto.toNat : Int), .int .u8 (h.ttl.toNat : Int), .int .u8 (h.tos.toNat : Int), .int .u16 (h.id : Int), .bool h.df], .string ld, .int .i64 (k : Int)]
  e : I.decE L = k
  ok : k = 0 → h = hI L ∧ ld = ⟨(L.drop 20).toArray⟩
  src : h.src < 4294967296
  dst : h.dst < 4294967296
  ld : ld.size ≤ L.length
theorem pd_of (L : List UInt8) : ∃ h ld k, PD L h ld k := by
  by_cases h : I.decE L = 0
  · refine ⟨hI L, ⟨(L.drop 20).toArray⟩, 0, I.decV_ok h, h, fun _ => ⟨rfl, rfl⟩, hI_src L, hI_dst L, ?_⟩
    show (L.drop 20).toArray.size ≤ _
    simp
  · exact ⟨⟨0, 0, 0, 0, 0, 0, false⟩, ⟨#[]⟩, I.decE L, I.decV_bad rfl h, rfl, fun e => absurd e h, by decide, by decide, by show 0 ≤ _; omega⟩
structure PT (s d : Nat) (l : List UInt8) (t : T.TCPh) (dd : ByteArray) (k : Nat) : Prop where
  v : T.decV s d l = .tuple #[.agg #[.int .u16 (t.src : Int), .int .u16 (t.dst : Int), .int .u32 (t.seq : Int), .int .u32 (t.ack : Int), .int .u8 (t.flags.toNat : Int), .int .u16 (t.window : Int), .int .u16 (t.urgent : Int), .string t.opts], .string dd, .int .i64 (k : Int)]
  e : T.decE s d l = k
  ok : k = 0 → t = T.decH l ∧ dd = ⟨(l.drop (T.endN l)).toArray⟩
  dd : dd.size ≤ l.length
theorem pt_of (s d : Nat) (l : List UInt8) : ∃ t dd k, PT s d l t dd k := by
  by_cases h : T.decE s d l = 0
  · refine ⟨T.decH l, ⟨(l.drop (T.endN l)).toArray⟩, 0, T.decV_ok h, h, fun _ => ⟨rfl, rfl⟩, ?_⟩
    show (l.drop (T.endN l)).toArray.size ≤ _
    simp
  · exact ⟨⟨0, 0, 0, 0, 0, 0, 0, ⟨#[]⟩⟩, ⟨#[]⟩, T.decE s d l, T.decV_bad rfl h, rfl, fun e => absurd e h, by show 0 ≤ _; omega⟩
section
variable {L : List UInt8} {h : I.IPh} {ld : ByteArray} {k : Nat} (p : PD L h ld k) {t : T.TCPh} {dd : ByteArray} {k2 : Nat} (q : PT h.src h.dst ld.data.toList t dd k2)
include p
theorem PD.bad (hk : k ≠ 0) : pdecR L = (zeroSg, (k : Int)) := pdec_i p.e hk
theorem PD.proto (hk : k = 0) (hp : h.proto.toNat ≠ 6) : pdecR L = (zeroSg, 80) := by
  obtain ⟨rfl, _⟩ := p.ok hk
  exact pdec_p (p.e.trans hk) (fun e => hp (by rw [e]; rfl))
include q
theorem PD.parts (hk : k = 0) (hp : h.proto.toNat = 6) : I.decE L = 0 ∧ (hI L).proto = 6 ∧ T.decE (hI L).src (hI L).dst (L.drop 20) = k2 ∧ h = hI L ∧ (k2 = 0 → t = hT L ∧ dd = dB L) := by
  obtain ⟨rfl, rfl⟩ := p.ok hk
  refine ⟨p.e.trans hk, UInt8.toNat_inj.1 (by rw [hp]; rfl), q.e, rfl, fun h2 => ?_⟩
  obtain ⟨h3, h4⟩ := q.ok h2
  exact ⟨h3, h4⟩
theorem PD.tcp (hk : k = 0) (hp : h.proto.toNat = 6) (h2 : k2 ≠ 0) : pdecR L = (zeroSg, (k2 : Int)) := by
  obtain ⟨a, b, c, d, e⟩ := PD.parts p q hk hp
  exact pdec_t a b c h2
theorem PD.opt (hk : k = 0) (hp : h.proto.toNat = 6) (h2 : k2 = 0) (r : Op) (code : Int) (hr : (r, code) = decR t.opts.data.toList) (hc : code ≠ 0) : pdecR L = (zeroSg, code) := by
  obtain ⟨a, b, c, d, e⟩ := PD.parts p q hk hp
  obtain ⟨rfl, rfl⟩ := e h2
  have h3 : (decR (oB L)).2 = code := by unfold oB; rw [← hr]
  rw [pdec_o a b (c.trans h2) (by rw [h3]; exact hc), h3]
theorem PD.flags (hk : k = 0) (hp : h.proto.toNat = 6) (h2 : k2 = 0) (r : Op) (hr : (r, (0 : Int)) = decR t.opts.data.toList) (hf : flagsB t.flags.toNat = false) : pdecR L = (zeroSg, 81) := by
  obtain ⟨a, b, c, d, e⟩ := PD.parts p q hk hp
  obtain ⟨rfl, rfl⟩ := e h2
  have h3 : (decR (oB L)).2 = 0 := by unfold oB; rw [← hr]
  exact pdec_f a b (c.trans h2) h3 hf
theorem PD.long (hk : k = 0) (hp : h.proto.toNat = 6) (h2 : k2 = 0) (r : Op) (hr : (r, (0 : Int)) = decR t.opts.data.toList) (hf : flagsB t.flags.toNat = true) (hd : 1460 < dd.size) : pdecR L = (zeroSg, 4) := by
  obtain ⟨a, b, c, d, e⟩ := PD.parts p q hk hp
  obtain ⟨rfl, rfl⟩ := e h2
  have h3 : (decR (oB L)).2 = 0 := by unfold oB; rw [← hr]
  exact pdec_d a b (c.trans h2) h3 hf hd
theorem PD.fine (hk : k = 0) (hp : h.proto.toNat = 6) (h2 : k2 = 0) (r : Op) (hr : (r, (0 : Int)) = decR t.opts.data.toList) (hf : flagsB t.flags.toNat = true) (hd : dd.size ≤ 1460) :
    pdecR L = (⟨h.src, t.src, h.dst, t.dst, t.seq, t.ack, t.flags.toNat, t.window, r, dd⟩, 0) := by
  obtain ⟨a, b, c, d, e⟩ := PD.parts p q hk hp
  obtain ⟨rfl, rfl⟩ := e h2
  have h3 : (decR (oB L)).2 = 0 := by unfold oB; rw [← hr]
  have h4 : (decR (oB L)).1 = r := by unfold oB; rw [← hr]
  rw [pdec_ok a b (c.trans h2) h3 hf hd, d]
  unfold sgL
  rw [h4]
end
end Go.Proofs.Ytengegcnocdkoaa
end
section
set_option linter.unusedVariables false
set_option linter.unusedSimpArgs false
set_option maxRecDepth 20000
namespace Go.Proofs.Ytengegcnocdkoaa
def addWF (d : Nat) : Nat → List UInt8 → List UInt8
  | 0, _ => []
  | f + 1, B => if B = [] then [] else be4 ((numL (B.take 4) + d) % 4294967296) ++ addWF d f (B.drop 4)
def tb (bl va ec k : Nat) (B : List UInt8) : List UInt8 :=
  if k = 8 then be4 ((numL (B.take 4) + va) % 4294967296) ++ be4 ((numL (B.drop 4) + ec) % 4294967296)
  else if k = 5 then addWF bl B.length B else B
def turnF (t : Nat → List UInt8 → List UInt8) : Nat → List UInt8 → List UInt8
  | 0, L => L
  | _ + 1, [] => []
  | f + 1, k :: r => if k.toNat = 0 then k :: r else if k.toNat = 1 then k :: turnF t f r else
    match r with
    | [] => [k]
    | n :: b => if longB k.toNat n.toNat = true ∧ n.toNat ≤ b.length + 2 then k :: n :: (t k.toNat (b.take (n.toNat - 2)) ++ turnF t f (b.drop (n.toNat - 2))) else k :: n :: b
section
variable (t : Nat → List UInt8 → List UInt8) (f : Nat)
theorem turnF_zero {k : UInt8} (r : List UInt8) (h : k.toNat = 0) : turnF t (f + 1) (k :: r) = k :: r := by cases r <;> simp [turnF, h]
theorem turnF_one {k : UInt8} (r : List UInt8) (h : k.toNat = 1) : turnF t (f + 1) (k :: r) = k :: turnF t f r := by cases r <;> simp [turnF, h]
theorem turnF_end {k : UInt8} (h0 : k.toNat ≠ 0) (h1 : k.toNat ≠ 1) : turnF t (f + 1) [k] = [k] := by simp only [turnF]; rw [if_neg h0, if_neg h1]
theorem turnF_opt {k n : UInt8} {b : List UInt8} (h0 : k.toNat ≠ 0) (h1 : k.toNat ≠ 1) (hc : longB k.toNat n.toNat = true ∧ n.toNat ≤ b.length + 2) : turnF t (f + 1) (k :: n :: b) = k :: n :: (t k.toNat (b.take (n.toNat - 2)) ++ turnF t f (b.drop (n.toNat - 2))) := by simp only [turnF]; rw [if_neg h0, if_neg h1, if_pos hc]
theorem turnF_bad {k n : UInt8} {b : List UInt8} (h0 : k.toNat ≠ 0) (h1 : k.toNat ≠ 1) (hc : ¬ (longB k.toNat n.toNat = true ∧ n.toNat ≤ b.length + 2)) : turnF t (f + 1) (k :: n :: b) = k :: n :: b := by simp only [turnF]; rw [if_neg h0, if_neg h1, if_neg hc]
end
def LenT (t : Nat → List UInt8 → List UInt8) : Prop := ∀ k B, longB k (B.length + 2) = true → (t k B).length = B.length
/-- the bytes of an option that may be -/
theorem opt_body {k n : UInt8} {b : List UInt8} (hc : longB k.toNat n.toNat = true ∧ n.toNat ≤ b.length + 2) : (b.take (n.toNat - 2)).length + 2 = n.toNat := by
  have := longB_two hc.1
  rw [List.length_take]
  omega
theorem turnF_len {t : Nat → List UInt8 → List UInt8} (ht : LenT t) : ∀ (f : Nat) (L : List UInt8), (turnF t f L).length = L.length := by
  intro f
  induction f with
  | zero => intro L; rfl
  | succ f ih =>
    intro L
    match L with
    | [] => rfl
    | [k] =>
      by_cases h0 : k.toNat = 0
      · rw [turnF_zero _ _ _ h0]
      by_cases h1 : k.toNat = 1
      · rw [turnF_one _ _ _ h1, List.length_cons, ih]; rfl
      rw [turnF_end _ _ h0 h1]
    | k :: n :: b =>
      by_cases h0 : k.toNat = 0
      · rw [turnF_zero _ _ _ h0]
      by_cases h1 : k.toNat = 1
      · rw [turnF_one _ _ _ h1, List.length_cons, ih]; rfl
      by_cases hc : longB k.toNat n.toNat = true ∧ n.toNat ≤ b.length + 2
      · have hb := opt_body hc
        rw [turnF_opt _ _ h0 h1 hc, List.length_cons, List.length_cons, List.length_append, ih, ht _ _ (by rw [hb]; exact hc.1), List.length_cons, List.length_cons, List.length_take, List.length_drop]
        omega
      · rw [turnF_bad _ _ h0 h1 hc]
theorem scan_turnF {t : Nat → List UInt8 → List UInt8} (ht : LenT t) : ∀ (f : Nat) (L : List UInt8), scanF f (turnF t f L) = (scanF f L).map fun x => (x.1, x.2.map (t x.1)) := by
  intro f
  induction f with
  | zero => intro L; rfl
  | succ f ih =>
    intro L
    match L with
    | [] => rfl
    | [k] =>
      by_cases h0 : k.toNat = 0
      · rw [turnF_zero _ _ _ h0, scanF_zero _ _ h0]; rfl
      by_cases h1 : k.toNat = 1
      · rw [turnF_one _ _ _ h1, scanF_one _ _ h1, scanF_one _ _ h1, ih]
      rw [turnF_end _ _ h0 h1, scanF_end _ h0 h1]
      rfl
    | k :: n :: b =>
      by_cases h0 : k.toNat = 0
      · rw [turnF_zero _ _ _ h0, scanF_zero _ _ h0]; rfl
      by_cases h1 : k.toNat = 1
      · rw [turnF_one _ _ _ h1, scanF_one _ _ h1, scanF_one _ _ h1, ih]
      by_cases hc : longB k.toNat n.toNat = true ∧ n.toNat ≤ b.length + 2
      · have hb := opt_body hc
        have hl := ht k.toNat _ (by rw [hb]; exact hc.1)
        rw [turnF_opt _ _ h0 h1 hc, scanF_opt _ h0 h1 hc, scanF_opt _ h0 h1 ⟨hc.1, by rw [List.length_append, hl, turnF_len ht, List.length_drop]; omega⟩, List.map_cons]
        rw [List.take_left' (by rw [hl]; omega), List.drop_left' (by rw [hl]; omega), ih]
        rfl
      · rw [turnF_bad _ _ h0 h1 hc, scanF_bad _ h0 h1 hc]
        rfl
theorem scanF_ok : ∀ (f : Nat) (L : List UInt8), ∀ x ∈ scanF f L, ∀ B, x.2 = some B → longB x.1 (B.length + 2) = true := by
  intro f
  induction f with
  | zero => intro L x h; cases h
  | succ f ih =>
    intro L x hx B hB
    match L with
    | [] => cases hx
    | [k] =>
      simp only [scanF] at hx
      split at hx
      · cases hx
      split at hx
      · exact ih _ x hx B hB
      · simp at hx
        subst hx
        cases hB
    | k :: n :: b =>
      simp only [scanF] at hx
      split at hx
      · cases hx
      split at hx
      · exact ih _ x hx B hB
      split at hx
      · rename_i hc
        rcases List.mem_cons.1 hx with rfl | hx
        · injection hB with hB
          subst hB
          rw [opt_body hc]
          exact hc.1
        · exact ih _ x hx B hB
      · simp at hx
        subst hx
        cases hB
/-! the numbers in an option's bytes -/
theorem long8 {n : Nat} (h : longB 8 (n + 2) = true) : n = 8 := by
  unfold longB at h
  simp at h
  omega
theorem long5 {n : Nat} (h : longB 5 (n + 2) = true) : n = 8 ∨ n = 16 ∨ n = 24 ∨ n = 32 := by
  unfold longB at h
  simp at h
  omega
theorem take4_be4 (x : Nat) (r : List UInt8) : (be4 x ++ r).take 4 = be4 x := List.take_left' rfl
theorem drop4_be4 (x : Nat) (r : List UInt8) : (be4 x ++ r).drop 4 = r := List.drop_left' rfl
theorem numL_be4m (x : Nat) : numL (be4 (x % 4294967296)) = x % 4294967296 := numL_be4 (Nat.mod_lt _ (by decide))
theorem be4_ne (x : Nat) (r : List UInt8) : be4 x ++ r ≠ [] := by simp [be4]
theorem addWF_len (d : Nat) : ∀ (f : Nat) (B : List UInt8), B.length ≤ f → B.length % 4 = 0 → (addWF d f B).length = B.length := by
  intro f
  induction f with
  | zero =>
    intro B h _
    rw [addWF]
    simp at h
    rw [h]
  | succ f ih =>
    intro B h hm
    rw [addWF]
    by_cases hB : B = []
    · rw [if_pos hB, hB]
    · have hp : 0 < B.length := List.length_pos_iff.2 hB
      rw [if_neg hB, List.length_append, be4_len, ih _ (by rw [List.length_drop]; omega) (by rw [List.length_drop]; omega), List.length_drop]
      omega
def tP (d : Nat) (p : Int × Int) : Int × Int := ((p.1 + (d : Int)) % 4294967296, (p.2 + (d : Int)) % 4294967296)
theorem blocksF_add (d : Nat) : ∀ (f g h : Nat) (B : List UInt8), B.length ≤ f → B.length ≤ g → B.length ≤ h → B.length % 8 = 0 → blocksF g (addWF d f B) = (blocksF h B).map (tP d) := by
  intro f
  induction f using Nat.strongRecOn with
  | ind f ih =>
    intro g h B hf hg hh hm
    by_cases hB : B = []
    · subst hB
      have h1 : addWF d f [] = [] := by cases f <;> simp [addWF]
      rw [h1]
      cases g <;> cases h <;> simp [blocksF]
    · have hp : 0 < B.length := List.length_pos_iff.2 hB
      obtain ⟨f, rfl⟩ : ∃ f', f = f' + 2 := ⟨f - 2, by omega⟩
      obtain ⟨g, rfl⟩ : ∃ g', g = g' + 1 := ⟨g - 1, by omega⟩
      obtain ⟨h, rfl⟩ : ∃ h', h = h' + 1 := ⟨h - 1, by omega⟩
      have hB4 : B.drop 4 ≠ [] := fun e => by have := congrArg List.length e; rw [List.length_drop] at this; simp at this; omega
      rw [addWF, if_neg hB, addWF, if_neg hB4, blocksF, if_neg (be4_ne _ _), take4_be4, drop4_be4, take4_be4]
      rw [blocksF, if_neg hB, List.map_cons]
      rw [show ∀ x y r, (be4 x ++ (be4 y ++ r)).drop 8 = r from fun x y r => by rw [← List.append_assoc]; exact List.drop_left' rfl]
      rw [List.drop_drop, show (4 + 4 : Nat) = 8 from rfl]
      rw [ih f (by omega) g h (B.drop 8) (by rw [List.length_drop]; omega) (by rw [List.length_drop]; omega) (by rw [List.length_drop]; omega) (by rw [List.length_drop]; omega)]
      rw [numL_be4m, numL_be4m]
      congr 1
theorem tb_len (bl va ec : Nat) : LenT (tb bl va ec) := by
  intro k B h
  unfold tb
  by_cases h8 : k = 8
  · subst h8
    rw [if_pos rfl, long8 h]
    rfl
  rw [if_neg h8]
  by_cases h5 : k = 5
  · subst h5
    rw [if_pos rfl]
    exact addWF_len _ _ _ (Nat.le_refl _) (by rcases long5 h with e | e | e | e <;> rw [e])
  rw [if_neg h5]
/-- options, turned -/
def turnO (bl va ec : Nat) (o : Op) : Op := { o with bl := o.bl.map (tP bl), val := if o.time then (o.val + va) % 4294967296 else o.val, echo := if o.time then (o.echo + ec) % 4294967296 else o.echo }
def itT (bl va ec : Nat) (x : It) : It := (x.1, x.2.map (tb bl va ec x.1))
theorem stepI_turn (bl va ec : Nat) (st : Op × List Nat) (x : It) (hx : ∀ B, x.2 = some B → longB x.1 (B.length + 2) = true) : stepI (turnO bl va ec st.1, st.2) (itT bl va ec x) = (stepI st x).map fun s => (turnO bl va ec s.1, s.2) := by
  obtain ⟨k, B⟩ := x
  cases B with
  | none => rfl
  | some B =>
    have h := hx B rfl
    unfold stepI itT
    simp only [Option.map_some]
    by_cases hm : k ∈ st.2
    · rw [if_pos hm, if_pos hm]; rfl
    rw [if_neg hm, if_neg hm]
    have key : takeI (turnO bl va ec st.1) k (tb bl va ec k B) = (takeI st.1 k B).map (turnO bl va ec) := by
      have e : k ≠ 8 → k ≠ 5 → tb bl va ec k B = B := fun h8 h5 => by unfold tb; rw [if_neg h8, if_neg h5]
      unfold takeI
      by_cases h2 : k = 2
      · rw [if_pos h2, if_pos h2, e (by omega) (by omega)]
        split <;> rfl
      rw [if_neg h2, if_neg h2]
      by_cases h3 : k = 3
      · rw [if_pos h3, if_pos h3, e (by omega) (by omega)]
        rfl
      rw [if_neg h3, if_neg h3]
      by_cases h4 : k = 4
      · rw [if_pos h4, if_pos h4]
        rfl
      rw [if_neg h4, if_neg h4]
      by_cases h8 : k = 8
      · rw [if_pos h8, if_pos h8]
        unfold tb
        rw [if_pos h8, take4_be4, drop4_be4, numL_be4m, numL_be4m]
        rfl
      rw [if_neg h8, if_neg h8]
      by_cases h5 : k = 5
      · rw [if_pos h5, if_pos h5]
        subst h5
        have hm : B.length % 8 = 0 := by rcases long5 h with e | e | e | e <;> rw [e]
        have hl : (addWF bl B.length B).length = B.length := addWF_len _ _ _ (Nat.le_refl _) (by omega)
        unfold tb
        rw [if_neg h8, if_pos rfl, hl, blocksF_add bl _ _ _ B (Nat.le_refl _) (Nat.le_refl _) (Nat.le_refl _) hm]
        simp only [Option.map_some, turnO, List.map_append]
      rw [if_neg h5, if_neg h5]
      rfl
    rw [key]
    cases takeI st.1 k B <;> rfl
theorem foldI_turn (bl va ec : Nat) : ∀ (l : List It) (st : Op × List Nat), (∀ x ∈ l, ∀ B, x.2 = some B → longB x.1 (B.length + 2) = true) → foldI (l.map (itT bl va ec)) (turnO bl va ec st.1, st.2) = (foldI l st).map fun s => (turnO bl va ec s.1, s.2) := by
  intro l
  induction l with
  | nil => intro st _; rfl
  | cons x l ih =>
    intro st h
    rw [List.map_cons, foldI_cons, foldI_cons, stepI_turn _ _ _ _ _ (h x List.mem_cons_self)]
    cases stepI st x with
    | none => rfl
    | some s => exact ih s (fun y hy => h y (List.mem_cons_of_mem _ hy))
def turnT (bl va ec : Nat) (L : List UInt8) : List UInt8 := turnF (tb bl va ec) (L.length + 1) L
theorem turnL_len (bl va ec : Nat) (L : List UInt8) : (turnT bl va ec L).length = L.length := turnF_len (tb_len _ _ _) _ _
theorem dec_turn (bl va ec : Nat) (L : List UInt8) : decL (turnT bl va ec L) = (decL L).map (turnO bl va ec) := by
  rw [decL_I, decL_I]
  have h1 : scan (turnT bl va ec L) = (scan L).map (itT bl va ec) := by
    unfold scan
    rw [turnL_len]
    exact scan_turnF (tb_len _ _ _) _ _
  rw [h1]
  have h2 := foldI_turn bl va ec (scan L) (noneO, []) (scanF_ok _ _)
  rw [show turnO bl va ec noneO = noneO from rfl] at h2
  rw [h2]
  cases foldI (scan L) (noneO, []) <;> rfl
/-! what the walks do, place by place -/
/-- four bytes, written over -/
def putL (M : List UInt8) (k : Nat) (x : Nat) : List UInt8 := M.take k ++ be4 x ++ M.drop (k + 4)
theorem putL_len {M : List UInt8} {k x : Nat} (h : k + 4 ≤ M.length) : (putL M k x).length = M.length := by
  unfold putL
  rw [List.length_append, List.length_append, be4_len, List.length_take, List.length_drop]
  omega
/-- the number that stands at a place -/
def atL (L : List UInt8) (k : Nat) : Nat := numL ((L.drop k).take 4)
/-- what a place's words become: the words of S from k on, written into M -/
def wordsT (S : List UInt8) (d : Nat) : Nat → Nat → List UInt8 → List UInt8
  | 0, _, M => M
  | n + 1, k, M => wordsT S d n (k + 4) (putL M k ((atL S k + d) % 4294967296))
/-- the program's way: it reads the text that came in -/
def stepO (L : List UInt8) (bl va ec : Nat) (M : List UInt8) (p : Nat × Nat) : List UInt8 :=
  if byteN L p.1 = 8 then putL (putL M (p.1 + 2) ((atL L (p.1 + 2) + va) % 4294967296)) (p.1 + 6) ((atL L (p.1 + 6) + ec) % 4294967296)
  else if byteN L p.1 = 5 then wordsT L bl ((p.2 - 2) / 4) (p.1 + 2) M else M
theorem drop_app (P R : List UInt8) (j : Nat) : (P ++ R).drop (P.length + j) = R.drop j := by
  rw [List.drop_append, List.drop_of_length_le (by omega), List.nil_append, Nat.add_sub_cancel_left]
theorem atL_app (P R : List UInt8) (j : Nat) : atL (P ++ R) (P.length + j) = atL R j := by
  unfold atL
  rw [drop_app]
theorem putL_app (P R : List UInt8) (j x : Nat) : putL (P ++ R) (P.length + j) x = P ++ putL R j x := by
  unfold putL
  rw [List.take_append, List.drop_append, List.take_of_length_le (by omega), List.drop_of_length_le (by omega)]
  simp only [Nat.add_sub_cancel_left, List.nil_append, List.append_assoc]
  rw [show P.length + j + 4 - P.length = j + 4 by omega]
theorem atL_zero (B r : List UInt8) (h : 4 ≤ B.length) : atL (B ++ r) 0 = numL (B.take 4) := by
  unfold atL
  rw [List.drop_zero, List.take_append_of_le_length h]
theorem putL_head (B r : List UInt8) (x : Nat) (h : 4 ≤ B.length) : putL (B ++ r) 0 x = be4 x ++ (B.drop 4 ++ r) := by
  unfold putL
  rw [List.take_zero, List.nil_append, Nat.zero_add, List.drop_append_of_le_length h]
/-- words, in both ways: behind a head that is done, the rest of S and M is the same -/
theorem wordsL_do (S : List UInt8) (d : Nat) : ∀ (n f : Nat) (P Q B r : List UInt8), S = Q ++ (B ++ r) → Q.length = P.length → B.length = 4 * n → B.length ≤ f → wordsT S d n P.length (P ++ (B ++ r)) = P ++ (addWF d f B ++ r) := by
  intro n
  induction n with
  | zero =>
    intro f P Q B r _ _ hB _
    have : B = [] := List.length_eq_zero_iff.1 (by omega)
    subst this
    cases f <;> simp [wordsT, addWF]
  | succ n ih =>
    intro f P Q B r hS hQ hB hf
    have h4 : 4 ≤ B.length := by omega
    have hne : B ≠ [] := fun e => by rw [e] at h4; simp at h4
    obtain ⟨f, rfl⟩ : ∃ f', f = f' + 1 := ⟨f - 1, by omega⟩
    rw [wordsT]
    have h1 : atL S P.length = numL (B.take 4) := by
      rw [hS, ← hQ]
      have := atL_app Q (B ++ r) 0
      rw [Nat.add_zero] at this
      rw [this, atL_zero _ _ h4]
    have h2 : ∀ x, putL (P ++ (B ++ r)) P.length x = (P ++ be4 x) ++ (B.drop 4 ++ r) := fun x => by
      have := putL_app P (B ++ r) 0 x
      rw [Nat.add_zero] at this
      rw [this, putL_head _ _ _ h4, List.append_assoc]
    rw [h1, h2, addWF, if_neg hne]
    have h3 := ih f (P ++ be4 ((numL (B.take 4) + d) % 4294967296)) (Q ++ B.take 4) (B.drop 4) r (by rw [hS]; simp only [List.append_assoc]; rw [← List.append_assoc (B.take 4), List.take_append_drop]) (by rw [List.length_append, List.length_append, be4_len, List.length_take]; omega) (by rw [List.length_drop]; omega) (by rw [List.length_drop]; omega)
    rw [List.length_append, be4_len] at h3
    rw [h3]
    simp only [List.append_assoc]
theorem byteN_app {P R : List UInt8} {k : UInt8} : byteN (P ++ k :: R) P.length = k.toNat := by
  unfold byteN
  rw [List.getElem?_append_right (Nat.le_refl _), Nat.sub_self]
  rfl
theorem stepO_do (L : List UInt8) (bl va ec : Nat) (P Q : List UInt8) (k n : UInt8) (B r : List UInt8) (hL : L = Q ++ (k :: n :: (B ++ r))) (hQ : Q.length = P.length) (hl : longB k.toNat n.toNat = true) (hn : B.length + 2 = n.toNat) :
    stepO L bl va ec (P ++ (k :: n :: (B ++ r))) (P.length, n.toNat) = P ++ (k :: n :: (tb bl va ec k.toNat B ++ r)) := by
  have hk : byteN L P.length = k.toNat := by rw [hL, ← hQ]; exact byteN_app
  rw [← hn] at hl
  unfold stepO tb
  simp only []
  rw [hk]
  by_cases h8 : k.toNat = 8
  · rw [if_pos h8, if_pos h8]
    rw [h8] at hl
    have hB := long8 hl
    match B, hB with
    | [b0, b1, b2, b3, b4, b5, b6, b7], _ =>
      have a1 : atL L (P.length + 2) = numL [b0, b1, b2, b3] := by rw [hL, ← hQ, atL_app]; rfl
      have a2 : atL L (P.length + 6) = numL [b4, b5, b6, b7] := by rw [hL, ← hQ, atL_app]; rfl
      rw [a1, a2, putL_app, putL_app]
      rfl
  rw [if_neg h8, if_neg h8]
  by_cases h5 : k.toNat = 5
  · rw [if_pos h5, if_pos h5]
    rw [h5] at hl
    have hB := long5 hl
    have h3 := wordsL_do L bl ((n.toNat - 2) / 4) B.length (P ++ [k, n]) (Q ++ [k, n]) B r (by rw [hL]; simp) (by simp [hQ]) (by omega) (Nat.le_refl _)
    simp only [List.length_append, List.length_cons, List.length_nil, List.append_assoc, List.cons_append, List.nil_append] at h3
    exact h3
  rw [if_neg h5, if_neg h5]
/-- .. and of all places together: the bytes, turned (where each place may be) -/
theorem steps_do (L : List UInt8) (bl va ec : Nat) (st : List UInt8 → Nat × Nat → List UInt8)
    (hst : ∀ (P Q : List UInt8) (k n : UInt8) (B r : List UInt8), L = Q ++ (k :: n :: (B ++ r)) → Q.length = P.length → longB k.toNat n.toNat = true → B.length + 2 = n.toNat → st (P ++ (k :: n :: (B ++ r))) (P.length, n.toNat) = P ++ (k :: n :: (tb bl va ec k.toNat B ++ r))) :
    ∀ (f : Nat) (P Q S : List UInt8), L = Q ++ S → Q.length = P.length → (∀ p ∈ placesF f L P.length, p.2 ≠ 0) → (placesF f L P.length).foldl st (P ++ S) = P ++ turnF (tb bl va ec) f S := by
  intro f
  induction f with
  | zero => intro P Q S _ _ _; rfl
  | succ f ih =>
    intro P Q S hL hQ hok
    have hd : L.drop P.length = S := by rw [hL, ← hQ]; exact List.drop_left
    rw [placesF] at hok ⊢
    match S with
    | [] =>
      have : L.length ≤ P.length := List.drop_eq_nil_iff.1 hd
      rw [if_neg (fun h => by omega)]
      rfl
    | [k] =>
      have hk := byteN_drop hd
      have hl := drop_lt hd
      by_cases h0 : k.toNat = 0
      · rw [if_neg (fun h => h.2 (hk.trans h0)), turnF_zero _ _ _ h0]
        rfl
      rw [if_pos ⟨by omega, by rw [hk]; exact h0⟩] at hok ⊢
      by_cases h1 : k.toNat = 1
      · rw [if_pos (hk.trans h1)] at hok ⊢
        rw [turnF_one _ _ _ h1]
        have h3 := ih (P ++ [k]) (Q ++ [k]) [] (by rw [hL]; simp) (by simp [hQ]) (by simpa using hok)
        simp only [List.length_append, List.length_cons, List.length_nil, List.append_assoc, List.cons_append, List.nil_append] at h3
        exact h3
      rw [if_neg (by rw [hk]; exact h1)] at hok
      exact absurd (stepN_drop1 hd) (hok _ List.mem_cons_self)
    | k :: n :: b =>
      have hk := byteN_drop hd
      have hl := drop_lt hd
      by_cases h0 : k.toNat = 0
      · rw [if_neg (fun h => h.2 (hk.trans h0)), turnF_zero _ _ _ h0]
        rfl
      rw [if_pos ⟨by omega, by rw [hk]; exact h0⟩] at hok ⊢
      by_cases h1 : k.toNat = 1
      · rw [if_pos (hk.trans h1)] at hok ⊢
        rw [turnF_one _ _ _ h1]
        have h3 := ih (P ++ [k]) (Q ++ [k]) (n :: b) (by rw [hL]; simp) (by simp [hQ]) (by simpa using hok)
        simp only [List.length_append, List.length_cons, List.length_nil, List.append_assoc, List.cons_append, List.nil_append] at h3
        exact h3
      rw [if_neg (by rw [hk]; exact h1)] at hok ⊢
      have hs := stepN_drop2 hd
      by_cases hc : longB k.toNat n.toNat = true ∧ n.toNat ≤ b.length + 2
      · rw [if_pos hc] at hs
        have h2 := longB_two hc.1
        have hB := opt_body hc
        rw [hs, if_neg (by omega)] at hok ⊢
        rw [List.foldl_cons, turnF_opt _ _ h0 h1 hc]
        have hb := (List.take_append_drop (n.toNat - 2) b).symm
        generalize hB1 : b.take (n.toNat - 2) = B at *
        generalize hB2 : b.drop (n.toNat - 2) = r at *
        rw [hb] at hL ⊢
        rw [hst P Q k n B r hL hQ hc.1 hB]
        have htl := tb_len bl va ec k.toNat B (by rw [hB]; exact hc.1)
        have h3 := ih (P ++ (k :: n :: tb bl va ec k.toNat B)) (Q ++ (k :: n :: B)) r (by rw [hL]; simp) (by simp [hQ, htl]) (by
          intro p hp
          refine hok p (List.mem_cons_of_mem _ ?_)
          have e : (P ++ (k :: n :: tb bl va ec k.toNat B)).length = P.length + n.toNat := by
            simp only [List.length_append, List.length_cons, htl]
            omega
          rw [e] at hp
          exact hp)
        have e : (P ++ (k :: n :: tb bl va ec k.toNat B)).length = P.length + n.toNat := by
          simp only [List.length_append, List.length_cons, htl]
          omega
        rw [e] at h3
        simp only [List.append_assoc, List.cons_append] at h3
        exact h3
      · rw [if_neg hc] at hs
        exact absurd hs (hok _ List.mem_cons_self)
theorem stepsO (L : List UInt8) (bl va ec : Nat) (hok : ∀ p ∈ placesAt L 0, p.2 ≠ 0) : (placesAt L 0).foldl (stepO L bl va ec) L = turnT bl va ec L := by
  have := steps_do L bl va ec (stepO L bl va ec) (fun P Q k n B r h1 h2 h3 h4 => stepO_do L bl va ec P Q k n B r h1 h2 h3 h4) (L.length - 0 + 1) [] [] L rfl rfl hok
  exact this
/-- what is read has no place that may not be -/
theorem places_fine {L : List UInt8} {o : Op} (h : decL L = some o) : ∀ p ∈ placesAt L 0, p.2 ≠ 0 := by
  intro p hp h0
  obtain ⟨l1, l2, he⟩ := List.append_of_mem hp
  unfold decL at h
  rw [he] at h
  unfold foldD at h
  rw [List.foldlM_append] at h
  cases h1 : l1.foldlM (stepD L) (noneO, []) with
  | none => rw [h1] at h; simp at h
  | some s =>
    rw [h1] at h
    rw [show (some s >>= fun s => List.foldlM (stepD L) s (p :: l2)) = List.foldlM (stepD L) s (p :: l2) from rfl, List.foldlM_cons] at h
    have : stepD L s p = none := by unfold stepD; rw [if_pos (.inl h0)]
    rw [this] at h
    cases h
/-- words, each with a number of its own -/
def putsL (S : List UInt8) (f : Nat → Nat) : Nat → Nat → Nat → List UInt8 → List UInt8
  | 0, _, _, M => M
  | n + 1, j, k, M => putsL S f n (j + 1) (k + 4) (putL M k ((atL S k + f j) % 4294967296))
theorem putsL_words (S : List UInt8) (d : Nat) : ∀ (n j k : Nat) (M : List UInt8), putsL S (fun _ => d) n j k M = wordsT S d n k M := by
  intro n
  induction n with
  | zero => intro j k M; rfl
  | succ n ih => intro j k M; exact ih (j + 1) (k + 4) _
theorem stepO_time {L M : List UInt8} {bl va ec i m : Nat} (h : byteN L i = 8) : stepO L bl va ec M (i, m) = putsL L (fun j => if j = 0 then va else ec) 2 0 (i + 2) M := by
  unfold stepO
  simp only [h]
  rw [if_pos trivial]
  rfl
theorem stepO_blocks {L M : List UInt8} {bl va ec i m : Nat} (h : byteN L i = 5) : stepO L bl va ec M (i, m) = putsL L (fun _ => bl) ((m - 2) / 4) 0 (i + 2) M := by
  unfold stepO
  simp only [h]
  rw [if_neg (by decide), if_pos trivial, putsL_words]
theorem stepO_other {L M : List UInt8} {bl va ec i m : Nat} (h8 : byteN L i ≠ 8) (h5 : byteN L i ≠ 5) : stepO L bl va ec M (i, m) = M := by
  unfold stepO
  simp only []
  rw [if_neg h8, if_neg h5]
theorem wordsL_len (S : List UInt8) (d : Nat) : ∀ (n k : Nat) (M : List UInt8), k + 4 * n ≤ M.length → (wordsT S d n k M).length = M.length := by
  intro n
  induction n with
  | zero => intro k M _; rfl
  | succ n ih =>
    intro k M h
    have h1 : (putL M k ((atL S k + d) % 4294967296)).length = M.length := putL_len (by omega)
    rw [wordsT, ih _ _ (by rw [h1]; omega), h1]
theorem stepO_len {L M : List UInt8} (bl va ec : Nat) {p : Nat × Nat} (ok : OkP L p) (h0 : p.2 ≠ 0) (hM : M.length = L.length) : (stepO L bl va ec M p).length = L.length := by
  obtain ⟨i, m⟩ := p
  obtain ⟨q1, q2, q3, q4⟩ := ok
  dsimp only at q1 q2 q3 q4 h0
  obtain ⟨r1, r2, r3, r4, r5⟩ := stepN_pos (L := L) (i := i) (by rw [← q4]; exact h0)
  rw [← q4] at r3 r4 r5
  rw [← r4] at r2
  by_cases h8 : byteN L i = 8
  · rw [h8] at r2
    have hm : m = 10 := by simpa [longB] using r2
    unfold stepO
    simp only [h8]
    rw [if_pos trivial, putL_len, putL_len, hM]
    · omega
    · rw [putL_len] <;> omega
  by_cases h5 : byteN L i = 5
  · unfold stepO
    simp only [h5]
    rw [if_neg (by decide), if_pos trivial, wordsL_len, hM]
    omega
  rw [stepO_other h8 h5, hM]
theorem foldO_len {L : List UInt8} (bl va ec : Nat) : ∀ (l : List (Nat × Nat)) (M : List UInt8), (∀ p ∈ l, OkP L p ∧ p.2 ≠ 0) → M.length = L.length → (l.foldl (stepO L bl va ec) M).length = L.length := by
  intro l
  induction l with
  | nil => intro M _ h; exact h
  | cons p l ih =>
    intro M h hM
    rw [List.foldl_cons]
    exact ih _ (fun q hq => h q (List.mem_cons_of_mem _ hq)) (stepO_len bl va ec (h p List.mem_cons_self).1 (h p List.mem_cons_self).2 hM)
end Go.Proofs.Ytengegcnocdkoaa
end
section
set_option linter.unusedVariables false
set_option linter.unusedSimpArgs false
set_option maxRecDepth 20000
namespace Go.Proofs.Ytengegcnocdkoaa
open Go.RowKit
/-- a shift -/
structure Sh where
  x0 : Nat
  x1 : Nat
  x2 : Nat
  x3 : Nat
  x4 : Nat
  x5 : Nat
  x6 : Nat
  x7 : Nat
  x8 : Int
  x9 : Int
structure Sh.wf (x : Sh) : Prop where
  b0 : x.x0 < 4294967296
  b1 : x.x1 < 65536
  b2 : x.x2 < 4294967296
  b3 : x.x3 < 65536
  b4 : x.x4 < 4294967296
  b5 : x.x5 < 4294967296
  b6 : x.x6 < 4294967296
  b7 : x.x7 < 4294967296
def Sh.c (x : Sh) : Array Value := #[.int .u32 (x.x0 : Int), .int .u16 (x.x1 : Int), .int .u32 (x.x2 : Int), .int .u16 (x.x3 : Int), .int .u32 (x.x4 : Int), .int .u32 (x.x5 : Int), .int .u32 (x.x6 : Int), .int .u32 (x.x7 : Int), .int .i64 x.x8, .int .i64 x.x9]
def ackB (f : Nat) : Bool := bits .and .u8 (f : Int) 16 != 0
def turnS (s : Sg) (x : Sh) : Sg := ⟨x.x0, x.x1, x.x2, x.x3, (s.s4 + x.x4) % 4294967296, if ackB s.f = true then (s.s5 + x.x5) % 4294967296 else s.s5, s.f, (winT s.s7 x.x8 x.x9).toNat, turnO x.x5 x.x6 x.x7 s.o, s.d⟩
theorem winT_nn (a : Nat) (u v : Int) : 0 ≤ winT a u v := by
  unfold winT
  have hp : (0 : Int) < 2 ^ scN u := Int.pow_pos (by decide)
  have hq : (0 : Int) < 2 ^ scN v := Int.pow_pos (by decide)
  have hm : (0 : Int) ≤ (a : Int) * 2 ^ scN u := Int.mul_nonneg (by omega) (by omega)
  have := Int.ediv_nonneg hm (Int.le_of_lt hq)
  omega
theorem cast_am (a b : Nat) : (((a + b) % 4294967296 : Nat) : Int) = ((a : Int) + (b : Int)) % 4294967296 := by omega
theorem cast_if (p : Prop) [Decidable p] (a b : Nat) : ((if p then a else b : Nat) : Int) = if p then (a : Int) else (b : Int) := by split <;> rfl
theorem turnedC_S (s : Sg) (x : Sh) (A : Option Addr) (c : Nat) : turnedC s.s4 s.s5 s.f s.s7 s.o.mss s.o.scale s.o.sack s.o.time s.o.val s.o.echo s.d x.x0 x.x1 x.x2 x.x3 x.x4 x.x5 x.x6 x.x7 x.x8 x.x9 (.slice A (turnS s x).o.bl.length c) = (turnS s x).c A c := by
  have hw : (((winT s.s7 x.x8 x.x9).toNat : Nat) : Int) = winT s.s7 x.x8 x.x9 := Int.toNat_of_nonneg (winT_nn _ _ _)
  unfold turnedC Sg.c segO turnS turnO ackB
  simp only [hw]
  congr 1
  simp only [cast_if, cast_am]
def TurnSP (s : Sg) (x : Sh) (w : World) (e : Ending) (w' : World) : Prop := ∃ A c, e = .returned (.agg ((turnS s x).c A c)) ∧ BlR w' A (turnS s x).o.bl ∧ Below w.heap.size w w'
theorem pturned_any (w : World) (s : Sg) (x : Sh) (A : Option Addr) (c : Nat) (hs : s.wf) (hr : BlR w A s.o.bl) (hn : s.o.bl.length ≤ 1000) : Calls Try.prog 23 #[.agg (s.c A c), .agg x.c] w (TurnSP s x w) := by
  have h := turned_any s.s0 s.s1 s.s2 s.s3 s.s4 s.s5 s.f s.s7 s.o.mss s.o.scale s.o.sack s.o.time A s.o.bl.length c s.o.val s.o.echo s.d x.x0 x.x1 x.x2 x.x3 x.x4 x.x5 x.x6 x.x7 x.x8 x.x9 s.o.bl w rfl hr (by omega) (by omega) (by have := hs.b7; omega)
  refine h.mono ?_
  rintro e w' ⟨A', c', _, rfl, ho, hb⟩
  refine ⟨A', c', ?_, ?_, hb⟩
  · have hl : (s.o.bl.map (turnB x.x5)).length = (turnS s x).o.bl.length := by
      show _ = (s.o.bl.map (tP x.x5)).length
      simp
    rw [hl, turnedC_S]
  · obtain ⟨A2, c2, e1, e2⟩ := own_blrC ho
    injection e1 with e1
    subst e1
    exact e2
end Go.Proofs.Ytengegcnocdkoaa
end
section
set_option linter.unusedVariables false
set_option linter.unusedSimpArgs false
set_option maxRecDepth 20000
namespace Go.Proofs.Ytengegcnocdkoaa
open Go.RowKit Go.BigFrame
def turnR (bl va ec : Nat) (L : List UInt8) : List UInt8 × Int := if (decR L).2 = 0 then (turnT bl va ec L, 0) else ([], (decR L).2)
def TurnPost (bl va ec : Nat) (w : World) (L : List UInt8) (e : Ending) (w' : World) : Prop := e = .returned (.tuple #[.string ⟨(turnR bl va ec L).1.toArray⟩, .int .i64 (turnR bl va ec L).2]) ∧ Below w.heap.size w w'
theorem decR_ok {L : List UInt8} (h : (decR L).2 = 0) : L.length ≤ 40 ∧ ∃ o, decL L = some o ∧ decR L = (o, 0) := by
  unfold decR at h ⊢
  split at h
  · cases h
  · rename_i hl
    rw [if_neg hl]
    cases hd : decL L with
    | none => rw [hd] at h; cases h
    | some o => exact ⟨by omega, o, rfl, rfl⟩
end Go.Proofs.Ytengegcnocdkoaa
end
section
set_option linter.unusedVariables false
set_option linter.unusedSimpArgs false
set_option maxRecDepth 20000
namespace Go.Proofs.Ytengegcnocdkoaa
open Go.RowKit Go.BigFrame
theorem mul64_2 (w : World) : Calls Try.prog 102 #[.int .u64 1, .int .u64 2] w fun e w' => e = .returned (.tuple #[.int .u64 0, .int .u64 2]) ∧ w = w' := by
  go_enter Try.func102, Try.ntmps102
  go_wp2
  go_ret2
  exact ⟨rfl, rfl⟩
theorem mulu_2 (w : World) : Calls Try.prog 99 #[.int .u64 1, .int .u64 2] w fun e w' => e = .returned (.tuple #[.int .u64 0, .int .u64 2]) ∧ w = w' := by
  have h := mul64_2
  have H := Lib.hid h
  clear h
  go_enter Try.func99, Try.ntmps99
  go_wp2_with fail
  with_reducible refine (H.out _).mono ?_
  rintro e w' ⟨rfl, rfl⟩
  go_wp2
  go_ret2
  exact ⟨rfl, rfl⟩
theorem mul64_4 (w : World) : Calls Try.prog 102 #[.int .u64 1, .int .u64 4] w fun e w' => e = .returned (.tuple #[.int .u64 0, .int .u64 4]) ∧ w = w' := by
  go_enter Try.func102, Try.ntmps102
  go_wp2
  go_ret2
  exact ⟨rfl, rfl⟩
theorem mulu_4 (w : World) : Calls Try.prog 99 #[.int .u64 1, .int .u64 4] w fun e w' => e = .returned (.tuple #[.int .u64 0, .int .u64 4]) ∧ w = w' := by
  have h := mul64_4
  have H := Lib.hid h
  clear h
  go_enter Try.func99, Try.ntmps99
  go_wp2_with fail
  with_reducible refine (H.out _).mono ?_
  rintro e w' ⟨rfl, rfl⟩
  go_wp2
  go_ret2
  exact ⟨rfl, rfl⟩
theorem mul64_6 (w : World) : Calls Try.prog 102 #[.int .u64 1, .int .u64 6] w fun e w' => e = .returned (.tuple #[.int .u64 0, .int .u64 6]) ∧ w = w' := by
  go_enter Try.func102, Try.ntmps102
  go_wp2
  go_ret2
  exact ⟨rfl, rfl⟩
theorem mulu_6 (w : World) : Calls Try.prog 99 #[.int .u64 1, .int .u64 6] w fun e w' => e = .returned (.tuple #[.int .u64 0, .int .u64 6]) ∧ w = w' := by
  have h := mul64_6
  have H := Lib.hid h
  clear h
  go_enter Try.func99, Try.ntmps99
  go_wp2_with fail
  with_reducible refine (H.out _).mono ?_
  rintro e w' ⟨rfl, rfl⟩
  go_wp2
  go_ret2
  exact ⟨rfl, rfl⟩
theorem mul64_8 (w : World) : Calls Try.prog 102 #[.int .u64 1, .int .u64 8] w fun e w' => e = .returned (.tuple #[.int .u64 0, .int .u64 8]) ∧ w = w' := by
  go_enter Try.func102, Try.ntmps102
  go_wp2
  go_ret2
  exact ⟨rfl, rfl⟩
theorem mulu_8 (w : World) : Calls Try.prog 99 #[.int .u64 1, .int .u64 8] w fun e w' => e = .returned (.tuple #[.int .u64 0, .int .u64 8]) ∧ w = w' := by
  have h := mul64_8
  have H := Lib.hid h
  clear h
  go_enter Try.func99, Try.ntmps99
  go_wp2_with fail
  with_reducible refine (H.out _).mono ?_
  rintro e w' ⟨rfl, rfl⟩
  go_wp2
  go_ret2
  exact ⟨rfl, rfl⟩
theorem infoU32r : (Try.prog.info? 22).map (·.size) = some 1 := by kernel_rfl
theorem makeU32 (m : Nat) (hm : m = 2 ∨ m = 4 ∨ m = 6 ∨ m = 8) (W : World) : (Instr.makeSlice 125 (.int .i64 (m : Int)) (.int .i64 (m : Int))).run Try.prog W = .ok (.slice (some ⟨W.heap.size, 0, none⟩) m m) (W.alloc (.cells ((List.replicate m (Value.int .u32 0)).toArray) 22)) := by
  rcases hm with rfl | rfl | rfl | rfl <;> kernel_rfl
set_option maxHeartbeats 2000000 in
theorem rep_any (w : World) (g c : Nat) (b : Int) (hB : Blk w g 22 #[.int .u32 b]) (m : Nat) (hm : m = 2 ∨ m = 4 ∨ m = 6 ∨ m = 8) :
    Calls Try.prog 85 #[.slice (some ⟨g, 0, none⟩) 1 c, .int .i64 (m : Int)] w fun e w' => ∃ r, e = .returned (.slice (some ⟨r, 0, none⟩) m m) ∧ Blk w' r 22 ((List.replicate m (Value.int .u32 b)).toArray) ∧ w.heap.size ≤ r ∧ Below w.heap.size w w' := by
  have hmul : ∀ w, Calls Try.prog 99 #[.int .u64 1, .int .u64 (m : Int)] w fun e w' => e = .returned (.tuple #[.int .u64 0, .int .u64 (m : Int)]) ∧ w = w' := by
    intro w
    rcases hm with rfl | rfl | rfl | rfl
    · exact mulu_2 w
    · exact mulu_4 w
    · exact mulu_6 w
    · exact mulu_8 w
  have hmk := makeU32 m hm
  have m0 : (0 : Int) ≤ (m : Int) := by omega
  have m8 : (m : Int) ≤ 8 := by omega
  have m2 : (2 : Int) ≤ (m : Int) := by omega
  have hb0 : Below w.heap.size w (w.alloc (.cells ((List.replicate m (Value.int .u32 0)).toArray) 22)) := (Below.refl _ _).alloc (Nat.le_refl _) _
  have hN := Blk.new w 22 ((List.replicate m (Value.int .u32 0)).toArray)
  have hB1 := hB.alloc (.cells ((List.replicate m (Value.int .u32 0)).toArray) 22)
  obtain ⟨r, hr⟩ : ∃ r, r = w.heap.size := ⟨_, rfl⟩
  have hrl : w.heap.size ≤ r := by omega
  have hgr : g ≠ r := by have := hB.lt; omega
  rw [← hr] at hN
  obtain ⟨Z, hZ⟩ : ∃ Z : List Value, Z = List.replicate m (Value.int .u32 0) := ⟨_, rfl⟩
  have hZl : Z.length = m := by rw [hZ, List.length_replicate]
  have hmk' : ∀ W : World, (Instr.makeSlice 125 (.int .i64 (m : Int)) (.int .i64 (m : Int))).run Try.prog W = .ok (.slice (some ⟨W.heap.size, 0, none⟩) m m) (W.alloc (.cells Z.toArray 22)) := by rw [hZ]; exact hmk
  clear hmk
  rw [← hZ] at hN hb0 hB1
  have hBc := hB1.cell 0
  simp at hBc
  obtain ⟨X1, hX1⟩ : ∃ X : List Value, X = [.int .u32 b] := ⟨_, rfl⟩
  have l1 : X1.length = 1 := by rw [hX1]; rfl
  have o1 : ∀ v ∈ X1, v.oneCell' = true := by rw [hX1]; intro v hv; simp at hv; subst hv; rfl
  have src1 : ∀ j v, X1[j]? = some v → (w.alloc (.cells Z.toArray 22)).cell? ((⟨g, 0, none⟩ : Addr).add j) = some v := by
    intro j v hv
    rw [hX1] at hv
    cases j with
    | zero => simp at hv; subst hv; exact hBc
    | succ j => simp at hv
  have hfin : ∀ n k : Nat, 1 ≤ n → n + k ≤ m → splice (List.replicate n (Value.int .u32 b) ++ List.replicate (m - n) (Value.int .u32 0)) n (List.replicate k (Value.int .u32 b)) = List.replicate (n + k) (Value.int .u32 b) ++ List.replicate (m - (n + k)) (Value.int .u32 0) := by
    intro n k _ h
    unfold splice
    rw [List.take_left' (by simp), List.length_replicate, ← List.append_assoc, List.replicate_append_replicate]
    congr 1
    rw [List.drop_append, List.drop_of_length_le (by simp), List.nil_append, List.length_replicate, Nat.add_sub_cancel_left, List.drop_replicate]
    congr 1
    omega
  have hst0 : splice Z 0 X1 = List.replicate 1 (Value.int .u32 b) ++ List.replicate (m - 1) (Value.int .u32 0) := by
    rw [hZ, hX1]
    unfold splice
    rw [List.take_zero, List.nil_append, List.drop_replicate]
    rfl
  have Hmul := Lib.hid hmul
  clear hmul
  have Hb0 := Lib.hid hb0
  clear hb0
  have HN := Lib.hid hN
  clear hN
  have HB1 := Lib.hid hB1
  clear hB1
  have Hm := Lib.hid hm
  clear hm
  have HB := Lib.hid hB
  clear hB
  have HZ := Lib.hid hZ
  clear hZ
  have HX1 := Lib.hid hX1
  clear hX1
  have L1 := Lib.hid l1
  clear l1
  have Hfin := Lib.hid hfin
  clear hfin
  have Hst0 := Lib.hid hst0
  clear hst0
  have Hr := Lib.hid hr
  clear hr
  have HZl := Lib.hid hZl
  clear hZl
  clear hBc
  go_enter Try.func85, Try.ntmps85
  go_wp2_with fail
  with_reducible refine (Hmul.out _).mono ?_
  rintro e w' ⟨rfl, rfl⟩
  go_upto_region 7 with fail
  rw [← Hr.out]
  generalize hW1 : w.alloc _ = W1 at *
  clear hW1
  have hcp := run_copy_row (P := Try.prog) W1 125 125 3 22 r 0 m m ⟨g, 0, none⟩ 1 c Z.toArray 22 X1 Try.underlying125 infoU32r HN.out (by rw [L1.out]; show 1 = min 1 m; omega) src1 (by rw [L1.out]; simp; have := HZl.out; omega) o1
  have hrow := setRow_heap W1 r _ ((Z.take 0 ++ X1 ++ Z.drop (0 + X1.length)).toArray) 22 (0, 0) HN.out
  have hbl := below_setRow Hb0.out hrl ((Z.take 0 ++ X1 ++ Z.drop (0 + X1.length)).toArray)
  simp only [List.toList_toArray] at hcp
  have hg2 : Blk (W1.setRow r ((Z.take 0 ++ X1 ++ Z.drop (0 + X1.length)).toArray)) r 22 ((List.replicate 1 (Value.int .u32 b) ++ List.replicate (m - 1) (Value.int .u32 0)).toArray) := by
    have h := Hst0.out
    unfold splice at h
    rw [← h, ← List.append_assoc]
    exact hrow
  rw [L1.out] at hcp
  have hcp : (Builtin.copy_ #[125, 125] 3 #[.slice (some ⟨r, 0, none⟩) m m, .slice (some ⟨g, 0, none⟩) 1 c]).run Try.prog W1 = .ok (.int .i64 1) (W1.setRow r ((Z.take 0 ++ X1 ++ Z.drop (0 + 1)).toArray)) := hcp
  rw [L1.out] at hg2 hbl
  generalize (W1.setRow r ((Z.take 0 ++ X1 ++ Z.drop (0 + 1)).toArray)) = w2 at *
  have hB2 : Below w.heap.size w w2 := hbl
  clear hrow hbl
  clear src1 o1
  have Hg2 := Lib.hid hg2
  clear hg2
  have HB2 := Lib.hid hB2
  clear hB2
  go_wp2_with fail
  go_loopw [8] (fun i wr => ∃ n : Nat, i = .int .i64 (n : Int) ∧ 1 ≤ n ∧ n ≤ m ∧ Blk wr r 22 ((List.replicate n (Value.int .u32 b) ++ List.replicate (m - n) (Value.int .u32 0)).toArray) ∧ Below w.heap.size w wr) (fun i _ => m - (intOf i).toNat)
  case atStart => exact ⟨1, rfl, Nat.le_refl _, by omega, Hg2.out, HB2.out⟩
  case round =>
    obtain ⟨n, rfl, hn1, hnm, hk, hb⟩ := hrel
    by_cases hn : n < m
    · have j1 : (n : Int) < (m : Int) := by omega
      have j2 : (0 : Int) ≤ (n : Int) := by omega
      have j3 : (n : Int) ≤ (m : Int) := by omega
      obtain ⟨k, hkk⟩ : ∃ k, k = min n (m - n) := ⟨_, rfl⟩
      have hk1 : n + k ≤ m := by omega
      have hk2 : 1 ≤ k := by omega
      have hk3 : (n : Int) + (k : Int) ≤ 8 := by omega
      obtain ⟨X2, hX2⟩ : ∃ X : List Value, X = List.replicate k (.int .u32 b) := ⟨_, rfl⟩
      have l2 : X2.length = k := by rw [hX2, List.length_replicate]
      have o2 : ∀ v ∈ X2, v.oneCell' = true := by rw [hX2]; intro v hv; rw [(List.mem_replicate.1 hv).2]; rfl
      obtain ⟨Y, hY⟩ : ∃ Y : List Value, Y = List.replicate n (Value.int .u32 b) ++ List.replicate (m - n) (Value.int .u32 0) := ⟨_, rfl⟩
      have hYl : Y.length = m := by rw [hY, List.length_append, List.length_replicate, List.length_replicate]; omega
      rw [← hY] at hk
      have hspl : splice Y n X2 = List.replicate (n + k) (Value.int .u32 b) ++ List.replicate (m - (n + k)) (Value.int .u32 0) := by rw [hY, hX2]; exact Hfin.out n k hn1 hk1
      have hS0 : Out (fun i => i = r) wr wr.drew := Out.of_below (Below.drew (Below.refl _ _))
      have ne : Nonempty (Cls (fun W => Out (fun i => i = r) wr W)) := ⟨⟨_, hS0⟩⟩
      have hU0 : ∀ q ∈ ([(7, fun W => Blk W r 22 Y.toArray)] : List (Nat × (World → Prop))), q.2 wr.drew := by
        intro q hq
        obtain rfl := List.mem_singleton.1 hq
        exact hk.drew
      have hUs : ∀ q ∈ ([(7, fun W => Blk W r 22 Y.toArray)] : List (Nat × (World → Prop))), ∀ i w w', i ≠ q.1 → RApp 7 (some r) i w w' → q.2 w → q.2 w' := by
        intro q hq i w w' hi hr hw
        obtain rfl := List.mem_singleton.1 hq
        exact Blk.below hw (hr.below hi) (Blk.lt hw)
      have hcopy : ∀ W, Out (fun i => i = r) wr W → untilU [(7, fun W => Blk W r 22 Y.toArray)] 7 W → ∃ W', (Builtin.copy_ #[125, 125] 3 #[.slice (some ⟨r, n, none⟩) (m - n) (m - n), .slice (some ⟨r, 0, none⟩) n m]).run Try.prog W = .ok (.int .i64 (k : Int)) W' ∧
          Blk W' r 22 ((List.replicate (n + k) (Value.int .u32 b) ++ List.replicate (m - (n + k)) (Value.int .u32 0)).toArray) ∧ Out (fun i => i = r) wr W' ∧ RApp 7 (some r) 7 W W' := by
        intro W hW hut
        have hkW : Blk W r 22 Y.toArray := hut _ List.mem_cons_self rfl
        have src2 : ∀ j v, X2[j]? = some v → W.cell? ((⟨r, 0, none⟩ : Addr).add j) = some v := by
          intro j v hv
          have hj : j < k := by
            rcases Nat.lt_or_ge j k with c | c
            · exact c
            · rw [List.getElem?_eq_none (by omega)] at hv; cases hv
          rw [add_plain, Nat.zero_add, hkW.cell j, ← hv, hX2, hY]
          simp only [List.getElem?_toArray]
          rw [List.getElem?_append_left (by rw [List.length_replicate]; omega), List.getElem?_replicate, List.getElem?_replicate, if_pos (by omega), if_pos hj]
        have hcp := run_copy_row (P := Try.prog) W 125 125 3 22 r n (m - n) (m - n) ⟨r, 0, none⟩ n m Y.toArray 22 X2 Try.underlying125 infoU32r hkW (by rw [l2, hkk]) src2 (by rw [l2]; simp only [List.size_toArray]; omega) o2
        simp only [List.toList_toArray] at hcp
        rw [l2] at hcp
        have hrow := setRow_heap W r _ ((Y.take n ++ X2 ++ Y.drop (n + k)).toArray) 22 (0, 0) hkW
        have hgr2 : W.grownBy (W.setRow r ((Y.take n ++ X2 ++ Y.drop (n + k)).toArray)) (some r) := ⟨rfl, rfl, rfl, by simp [World.setRow], fun i hi hne => setRow_other W r i _ (fun e => hne (by rw [e]))⟩
        refine ⟨_, hcp, ?_, Out.trans hW (Out.grown (O := fun i => i = r) hgr2 rfl) (fun _ _ e => e), hgr2⟩
        unfold splice at hspl
        rw [l2] at hspl
        rw [← hspl, ← List.append_assoc]
        exact hrow
      have Hk := Lib.hid hk
      clear hk
      have Hb := Lib.hid hb
      clear hb
      have Hkk := Lib.hid hkk
      clear hkk
      have HX2 := Lib.hid hX2
      clear hX2
      have L2 := Lib.hid l2
      clear l2
      have HY := Lib.hid hY
      clear hY
      have HYl := Lib.hid hYl
      clear hYl
      have Hspl := Lib.hid hspl
      clear hspl
      have HS0 := Lib.hid hS0
      clear hS0
      have HU0 := Lib.hid hU0
      clear hU0
      have HUs := Lib.hid hUs
      clear hUs
      have Hcopy := Lib.hid hcopy
      clear hcopy
      clear o2
      go_upto_region 9 with fail
      refine wp_region_flowu 10 (fun W => Out (fun i => i = r) wr W) (RApp 7 (some r)) [(7, fun W => Blk W r 22 Y.toArray)] (by kernel_rfl) (by kernel_rfl) (by kernel_rfl) RApp.refl HUs.out HU0.out HS0.out ?_
      simp only [List.take_succ_cons, List.take_zero, List.drop_succ_cons, List.drop_zero]
      repeat (refine flowu_quiet RApp.refl rfl rfl rfl rfl ?_; intro K hK; go_big_quiet_op; go_big_quiet_on)
      refine flowu_do (.int .i64 (k : Int)) (fun _ W => Blk W r 22 ((List.replicate (n + k) (Value.int .u32 b) ++ List.replicate (m - (n + k)) (Value.int .u32 0)).toArray)) (fun l i w w' hi hr h => Blk.below h (hr.below hi) (Blk.lt h)) (fun _ _ h => by cases h) rfl (fun W hW hut => by
        obtain ⟨W', h1, h2, h3, h4⟩ := Hcopy.out W hW hut
        refine ⟨W', ?_, h2, h3, h4⟩
        simp [execOp, resolve, invoke, builtin, Act.eval, h1, Result.andThen, show ¬ m = n by omega]) rfl rfl wr ?_
      intro K hK; go_big_quiet_op; go_big_quiet_on
      repeat (refine flowu_quiet RApp.refl rfl rfl rfl rfl ?_; intro K hK; go_big_quiet_op; go_big_quiet_on)
      refine flowu_nil ?_
      intro W5 f hW5 hF5
      have hk5 := hF5 _ (.head _)
      clear hF5
      have hk5 : Blk W5 r 22 ((List.replicate (n + k) (Value.int .u32 b) ++ List.replicate (m - (n + k)) (Value.int .u32 0)).toArray) := hk5
      have hb5 : Below w.heap.size w W5 := Hb.out.trans (Out.below hW5 Hb.out.size (fun i hi e => by omega))
      simp only [fillW]
      clear hW5 ne
      have Hk5 := Lib.hid hk5
      clear hk5
      have Hb5 := Lib.hid hb5
      clear hb5
      go_wp2_with fail
      go_roundw
      case rel => exact ⟨n + k, by go_num, by omega, hk1, Hk5.out, Hb5.out⟩
      case measure => simp [intOf]; omega
    · have j1 : ¬ (n : Int) < (m : Int) := by omega
      have hnm' : n = m := by omega
      have hk' : Blk wr r 22 ((List.replicate m (Value.int .u32 b)).toArray) := by
        rw [hnm', Nat.sub_self, List.replicate_zero, List.append_nil] at hk
        exact hk
      clear hk hnm'
      have Hk' := Lib.hid hk'
      clear hk'
      have Hb := Lib.hid hb
      clear hb
      go_wp2_with fail
      go_ret
      exact ⟨r, rfl, Hk'.out, hrl, Hb.out⟩
end Go.Proofs.Ytengegcnocdkoaa
end
section
set_option linter.unusedVariables false
set_option linter.unusedSimpArgs false
set_option maxRecDepth 20000
namespace Go.Proofs.Ytengegcnocdkoaa
open Go.RowKit Go.BigFrame Go.Shelf
attribute [local go_sem] Oper.semAt_some
theorem RowB.ne_ {W : World} {g g' : Nat} {t : TypeId} {M : List UInt8} {cs : Array Value} (h : RowB W g M) (hb : Blk W g' t cs) (ht : t ≠ 5) : g' ≠ g := by
  rintro rfl
  obtain ⟨c, lo, hi, h1, _⟩ := h
  rw [show W.heap[g']? = _ from hb] at h1
  injection h1 with h1
  injection h1 with _ h1
  exact ht h1
/-- what a round holds -/
def TurnI (w : World) (gs gb gv gc gp gr cap : Nat) (x : ByteArray) (L : List UInt8) (bl va ec : Nat) (pre : List (PV L)) (W : World) : Prop :=
  Below w.heap.size w W ∧ Blk W gs 9 #[.string x] ∧ Blk W gb 22 #[.int .u32 (bl : Int)] ∧ Blk W gv 22 #[.int .u32 (va : Int)] ∧ Blk W gc 22 #[.int .u32 (ec : Int)] ∧
    Blk W gp 51 #[.slice (some ⟨gr, 0, none⟩) L.length cap] ∧ RowB W gr ((pre.map (·.1)).foldl (stepO L bl va ec) L)
theorem TurnI.own {w : World} {gs gb gv gc gp gr cap : Nat} {x : ByteArray} {L : List UInt8} {bl va ec B : Nat} (hw : w.heap.size ≤ B) : OwnFrom B (TurnI w gs gb gv gc gp gr cap x L bl va ec) := by
  intro pre W W' row ⟨h1, h2, h3, h4, h5, h6, h7⟩ hg hr
  have hr2 : ∀ r, row = some r → ∃ o : Obj, W.heap[r]? = some o ∧ o.isCells = false := fun r e => (hr r e).2
  refine ⟨ownFrom_below (Nat.le_refl _) hw pre W W' row h1 hg hr, blk_notrow h2 hg hr2, blk_notrow h3 hg hr2, blk_notrow h4 hg hr2, blk_notrow h5 hg hr2, blk_notrow h6 hg hr2, h7.grown hg (fun e => ?_)⟩
  obtain ⟨o, q1, q2⟩ := hr2 gr e.symm
  obtain ⟨c, lo, hi, q3, _⟩ := h7
  rw [q1] at q3
  cases q3
  cases q2
/-- .. and is kept by what turns the row alone -/
theorem TurnI.next {w W W' : World} {gs gb gv gc gp gr cap B : Nat} {x : ByteArray} {L : List UInt8} {bl va ec : Nat} {pre pre2 : List (PV L)} {M : List UInt8}
    (h : TurnI w gs gb gv gc gp gr cap x L bl va ec pre W) (ho : Out (fun i => i = gr) W W') (hr : RowB W' gr M) (hM : M = (pre2.map (·.1)).foldl (stepO L bl va ec) L) (hwr : w.heap.size ≤ gr) (hB : gr < B) :
    KeepsFrom B W W' ∧ KeepsS w.heap.size W W' ∧ TurnI w gs gb gv gc gp gr cap x L bl va ec pre2 W' := by
  obtain ⟨h1, h2, h3, h4, h5, h6, h7⟩ := h
  have hk : ∀ {g : Nat} {t : TypeId} {cs : Array Value}, Blk W g t cs → t ≠ 5 → Blk W' g t cs := fun {g t cs} hb ht => (ho.block g hb.lt (h7.ne_ hb ht)).trans hb
  have hbw : Below w.heap.size W W' := ho.below h1.size (fun i hi e => by omega)
  refine ⟨keepsFrom_out ho (fun i e => .inl (by omega)), ⟨hbw, fun i cs hi => hk hi (by decide)⟩, h1.trans hbw, hk h2 (by decide), hk h3 (by decide), hk h4 (by decide), hk h5 (by decide), hk h6 (by decide), ?_⟩
  rw [← hM]
  exact hr
set_option maxRecDepth 100000 in
set_option maxHeartbeats 8000000 in
theorem turn_yes (x : ByteArray) (L : List UInt8) (hx : x.data.toList = L) (hd : (decR L).2 = 0) (bl va ec : Nat) (hbl : bl < 4294967296) (hva : va < 4294967296) (hec : ec < 4294967296) (w : World) :
    CallsIn Fence.wide 3 Try.prog 50 #[.string x, .int .u32 (bl : Int), .int .u32 (va : Int), .int .u32 (ec : Int)] w (TurnPost bl va ec w L) := by
  have hdec := dec_any x
  rw [hx] at hdec
  obtain ⟨h40, o, hdl, hdo⟩ := decR_ok hd
  have hTR : turnR bl va ec L = (turnT bl va ec L, 0) := by unfold turnR; rw [if_pos hd]
  have hfine := places_fine hdl
  have hsz : x.size = L.length := by rw [← hx]; simp
  have hb0 : Below w.heap.size w w := Below.refl _ _
  have HB := Lib.hid hb0
  clear hb0
  have Hx := Lib.hid hx
  clear hx
  have Hd := Lib.hid hd
  clear hd
  have Hdec := Lib.hid hdec
  clear hdec
  have H40 := Lib.hid h40
  clear h40
  have Hdl := Lib.hid hdl
  clear hdl
  have Hdo := Lib.hid hdo
  clear hdo
  have HTR := Lib.hid hTR
  clear hTR
  have Hfine := Lib.hid hfine
  clear hfine
  have Hsz := Lib.hid hsz
  clear hsz
  refine callsIn_of_wp_marks Try.func50 rfl trivial ?_ rfl
  simp only [Try.ntmps50, List.size_toArray, List.length_cons, List.length_nil, Nat.reduceAdd, Nat.reduceSub, Array.replicate_succ, Array.replicate_zero, List.push_toArray, List.append_toArray, List.nil_append, List.cons_append]
  gi_upto_region 1 with fail
  have hs := Blk.alloc (Blk.alloc (Blk.alloc (Blk.new w 9 #[.string x]) (.cells #[.int .u32 (bl : Int)] 22)) (.cells #[.int .u32 (va : Int)] 22)) (.cells #[.int .u32 (ec : Int)] 22)
  have hb := Blk.alloc (Blk.alloc (Blk.new (w.alloc (.cells #[.string x] 9)) 22 #[.int .u32 (bl : Int)]) (.cells #[.int .u32 (va : Int)] 22)) (.cells #[.int .u32 (ec : Int)] 22)
  rw [show (w.alloc (.cells #[.string x] 9)).heap.size = w.heap.size + 1 by simp] at hb
  have hv := Blk.alloc (Blk.new ((w.alloc (.cells #[.string x] 9)).alloc (.cells #[.int .u32 (bl : Int)] 22)) 22 #[.int .u32 (va : Int)]) (.cells #[.int .u32 (ec : Int)] 22)
  rw [show ((w.alloc (.cells #[.string x] 9)).alloc (.cells #[.int .u32 (bl : Int)] 22)).heap.size = w.heap.size + 2 by simp] at hv
  have hc := Blk.new (((w.alloc (.cells #[.string x] 9)).alloc (.cells #[.int .u32 (bl : Int)] 22)).alloc (.cells #[.int .u32 (va : Int)] 22)) 22 #[.int .u32 (ec : Int)]
  rw [show (((w.alloc (.cells #[.string x] 9)).alloc (.cells #[.int .u32 (bl : Int)] 22)).alloc (.cells #[.int .u32 (va : Int)] 22)).heap.size = w.heap.size + 3 by simp] at hc
  have hB := Below.alloc (Below.alloc (Below.alloc (Below.alloc (HB.out) (Nat.le_trans HB.out.size (by simp <;> omega)) (.cells #[.string x] 9)) (Nat.le_trans HB.out.size (by simp <;> omega)) (.cells #[.int .u32 (bl : Int)] 22)) (Nat.le_trans HB.out.size (by simp <;> omega)) (.cells #[.int .u32 (va : Int)] 22)) (Nat.le_trans HB.out.size (by simp <;> omega)) (.cells #[.int .u32 (ec : Int)] 22)
  clear HB
  obtain ⟨gc, hgec⟩ : ∃ g, g = w.heap.size + 3 := ⟨_, rfl⟩
  rw [← hgec] at hc ⊢
  obtain ⟨gv, hgev⟩ : ∃ g, g = w.heap.size + 2 := ⟨_, rfl⟩
  rw [← hgev] at hv ⊢
  obtain ⟨gb, hgeb⟩ : ∃ g, g = w.heap.size + 1 := ⟨_, rfl⟩
  rw [← hgeb] at hb ⊢
  obtain ⟨gs, hges⟩ : ∃ g, g = w.heap.size := ⟨_, rfl⟩
  rw [← hges] at hs ⊢
  have hne_s_b : gs ≠ gb := by omega
  have hne_s_v : gs ≠ gv := by omega
  have hne_s_c : gs ≠ gc := by omega
  have hne_b_v : gb ≠ gv := by omega
  have hne_b_c : gb ≠ gc := by omega
  have hne_v_c : gv ≠ gc := by omega
  have hle_s : w.heap.size ≤ gs := by omega
  have hle_b : w.heap.size ≤ gb := by omega
  have hle_v : w.heap.size ≤ gv := by omega
  have hle_c : w.heap.size ≤ gc := by omega
  clear hges hgeb hgev hgec
  generalize (((w.alloc _).alloc _).alloc _).alloc _ = wn1 at *
  have Hs := Lib.hid hs
  clear hs
  have Hb := Lib.hid hb
  clear hb
  have Hv := Lib.hid hv
  clear hv
  have Hc := Lib.hid hc
  clear hc
  have HB := Lib.hid hB
  clear hB
  obtain ⟨W1, hW1⟩ : ∃ W, W = wn1 := ⟨_, rfl⟩
  rw [← hW1] at Hs Hb Hv Hc HB ⊢
  clear hW1
  have cs1 := Hs.out.cell 0
  try simp at cs1
  gi_wp2_with fail
  refine ⟨trivial, ?_⟩
  refine (callsIn_wide.2 (Hdec.out _)).mono ?_
  rintro e w2 ⟨r, A, c, code, rfl, ⟨hbr, _⟩, hbq, hre⟩
  have hs := Hs.out.below hbq Hs.out.lt
  clear Hs
  have Hs := Lib.hid hs
  clear hs
  have hb := Hb.out.below hbq Hb.out.lt
  clear Hb
  have Hb := Lib.hid hb
  clear hb
  have hv := Hv.out.below hbq Hv.out.lt
  clear Hv
  have Hv := Lib.hid hv
  clear hv
  have hc := Hc.out.below hbq Hc.out.lt
  clear Hc
  have Hc := Lib.hid hc
  clear hc
  have hB := HB.out.trans (hbq.mono HB.out.size)
  clear HB
  have HB := Lib.hid hB
  clear hB
  clear hbq hbr cs1
  unfold optC
  have hc0 : code = 0 := by have := Hd.out; rw [← hre] at this; exact this
  subst hc0
  clear hre
  gi_upto_region 4 with fail
  have hq := Blk.new w2 28 #[.int .u16 (r.mss : Int), .int .i64 r.scale, .bool r.sack, .slice A r.bl.length c, .bool r.time, .int .u32 (r.val : Int), .int .u32 (r.echo : Int)]
  have hs := Blk.alloc Hs.out (.cells #[.int .u16 (r.mss : Int), .int .i64 r.scale, .bool r.sack, .slice A r.bl.length c, .bool r.time, .int .u32 (r.val : Int), .int .u32 (r.echo : Int)] 28)
  clear Hs
  have hb := Blk.alloc Hb.out (.cells #[.int .u16 (r.mss : Int), .int .i64 r.scale, .bool r.sack, .slice A r.bl.length c, .bool r.time, .int .u32 (r.val : Int), .int .u32 (r.echo : Int)] 28)
  clear Hb
  have hv := Blk.alloc Hv.out (.cells #[.int .u16 (r.mss : Int), .int .i64 r.scale, .bool r.sack, .slice A r.bl.length c, .bool r.time, .int .u32 (r.val : Int), .int .u32 (r.echo : Int)] 28)
  clear Hv
  have hc := Blk.alloc Hc.out (.cells #[.int .u16 (r.mss : Int), .int .i64 r.scale, .bool r.sack, .slice A r.bl.length c, .bool r.time, .int .u32 (r.val : Int), .int .u32 (r.echo : Int)] 28)
  clear Hc
  have hB := HB.out.alloc HB.out.size (.cells #[.int .u16 (r.mss : Int), .int .i64 r.scale, .bool r.sack, .slice A r.bl.length c, .bool r.time, .int .u32 (r.val : Int), .int .u32 (r.echo : Int)] 28)
  clear HB
  obtain ⟨gq, hge⟩ : ∃ g, g = w2.heap.size := ⟨_, rfl⟩
  rw [← hge] at hq ⊢
  have hle_q : w2.heap.size ≤ gq := by omega
  clear hge
  generalize w2.alloc _ = wn2 at *
  have Hs := Lib.hid hs
  clear hs
  have Hb := Lib.hid hb
  clear hb
  have Hv := Lib.hid hv
  clear hv
  have Hc := Lib.hid hc
  clear hc
  have Hq := Lib.hid hq
  clear hq
  have HB := Lib.hid hB
  clear hB
  obtain ⟨W2, hW2⟩ : ∃ W, W = wn2 := ⟨_, rfl⟩
  rw [← hW2] at Hs Hb Hv Hc HB ⊢
  clear hW2 Hq
  have cs2 := Hs.out.cell 0
  try simp at cs2
  obtain ⟨W3, cap, hcv, hbq, hz3, hrow3, hcap⟩ := run_bytes_rowB W2 x L Hx.out
  obtain ⟨gr, hgr⟩ : ∃ g, g = W2.heap.size := ⟨_, rfl⟩
  rw [← hgr] at hcv hrow3 hz3
  have hwr : w.heap.size ≤ gr := by rw [hgr]; exact HB.out.size
  gi_upto_region 5 with fail
  rw [← hgr]
  generalize (Value.agg #[.int .u16 (r.mss : Int), .int .i64 r.scale, .bool r.sack, .slice A r.bl.length c, .bool r.time, .int .u32 (r.val : Int), .int .u32 (r.echo : Int)]) = ag
  have hs := Hs.out.below hbq Hs.out.lt
  clear Hs
  have Hs := Lib.hid hs
  clear hs
  have hb := Hb.out.below hbq Hb.out.lt
  clear Hb
  have Hb := Lib.hid hb
  clear hb
  have hv := Hv.out.below hbq Hv.out.lt
  clear Hv
  have Hv := Lib.hid hv
  clear hv
  have hc := Hc.out.below hbq Hc.out.lt
  clear Hc
  have Hc := Lib.hid hc
  clear hc
  have hB := HB.out.trans (hbq.mono HB.out.size)
  clear HB
  have HB := Lib.hid hB
  clear hB
  obtain ⟨gp, hgp⟩ : ∃ g, g = gr + 1 := ⟨_, rfl⟩
  rw [← hgp] at hz3 ⊢
  have hp4 := Blk.new W3 51 #[.slice (some ⟨gr, 0, none⟩) L.length cap]
  rw [hz3] at hp4
  have hal : Below W3.heap.size W3 (W3.alloc (.cells #[.slice (some ⟨gr, 0, none⟩) L.length cap] 51)) := (Below.refl _ _).alloc (Nat.le_refl _) _
  have hrow4 := hrow3.below hal hrow3.lt
  have hs := Hs.out.below hal Hs.out.lt
  clear Hs
  have Hs := Lib.hid hs
  clear hs
  have hb := Hb.out.below hal Hb.out.lt
  clear Hb
  have Hb := Lib.hid hb
  clear hb
  have hv := Hv.out.below hal Hv.out.lt
  clear Hv
  have Hv := Lib.hid hv
  clear hv
  have hc := Hc.out.below hal Hc.out.lt
  clear Hc
  have Hc := Lib.hid hc
  clear hc
  have hB := HB.out.trans (hal.mono HB.out.size)
  clear HB
  have HB := Lib.hid hB
  clear hB
  have hz4 : (W3.alloc (.cells #[.slice (some ⟨gr, 0, none⟩) L.length cap] 51)).heap.size = gp + 1 := by simp [hz3]
  clear hcv hbq hrow3 hal hz3 cs2
  generalize W3.alloc _ = W4 at *
  have cs4 := Hs.out.cell 0
  try simp at cs4
  have Hp4 := Lib.hid hp4
  clear hp4
  have Hrow4 := Lib.hid hrow4
  clear hrow4
  have Hz4 := Lib.hid hz4
  clear hz4
  have Hgr := Lib.hid hgr
  clear hgr
  have Hgp := Lib.hid hgp
  clear hgp
  have Hcap := Lib.hid hcap
  clear hcap
  gi_wp2_with (refine ⟨trivial, ?_⟩; gi_at_call 75; refine (each_in _ _).mono ?_; rintro e w' ⟨rfl, rfl⟩)
  have hB5 := HB.out.alloc HB.out.size (.cells #[.string x] 9)
  have hz5 := Blk.new W4 9 #[.string x]
  have hs5 := Blk.alloc Hs.out (.cells #[.string x] 9)
  have hb5 := Blk.alloc Hb.out (.cells #[.string x] 9)
  have hv5 := Blk.alloc Hv.out (.cells #[.string x] 9)
  have hc5 := Blk.alloc Hc.out (.cells #[.string x] 9)
  have hp5 := Blk.alloc Hp4.out (.cells #[.string x] 9)
  have hrow5 := Hrow4.out.grown (World.grownBy_alloc W4 (.cells #[.string x] 9) none) (by simp)
  have hgz : W4.heap.size = gp + 1 := Hz4.out
  obtain ⟨gz, hgze⟩ : ∃ g, g = W4.heap.size := ⟨_, rfl⟩
  rw [← hgze] at hz5 hgz ⊢
  have hsz5 : (W4.alloc (.cells #[.string x] 9)).heap.size = gz + 1 := by rw [hgze]; simp
  clear cs4 hgze Hz4
  generalize W4.alloc _ = W5 at *
  have hgrB : gr < W5.heap.size := by have := Hgp.out; omega
  clear Hs Hb Hv Hc Hp4 Hrow4 HB
  have hI0 : TurnI w gs gb gv gc gp gr cap x L bl va ec [] W5 := ⟨hB5, hs5, hb5, hv5, hc5, hp5, hrow5⟩
  have HI0 := Lib.hid hI0
  have hBs5 := hB5.size
  clear hI0 hs5 hb5 hv5 hc5 hp5 hrow5 hB5
  have Hgz := Lib.hid hgz
  clear hgz
  have Hsz5 := Lib.hid hsz5
  clear hsz5
  have HgrB := Lib.hid hgrB
  clear hgrB
  refine wpIn_rangeFunc_ownG rfl (by omega) (gf := 94) (lb := #[.pointer (some ⟨gz, 0, none⟩)]) rfl trivial (enters_of Try.func94 (by kernel_rfl) rfl)
    (each_stops w.heap.size gz x L Hx.out (by have := H40.out; omega) _ hBs5 hz5) KeepsS.trans (KeepsS.putObj hBs5) (Below.refl _ _) (fun _ => rfl)
    (TurnI w gs gb gv gc gp gr cap x L bl va ec)
    (fun _ _ _ => False)
    (TurnI.own hBs5) (fun _ _ _ _ _ hs _ _ => hs)
    HI0.out
    (fun x1 => { tmps := #[.string x, .int .u32 (bl : Int), .int .u32 (va : Int), .int .u32 (ec : Int), .pointer (some ⟨gs, 0, none⟩), .pointer (some ⟨gb, 0, none⟩), .pointer (some ⟨gv, 0, none⟩), .pointer (some ⟨gc, 0, none⟩), .string ⟨#[]⟩, .int .i64 0, .pointer (some ⟨gq, 0, none⟩), .int .i64 0, .pointer (some ⟨gp, 0, none⟩), .int .i64 (x1.1.1 : Int), .int .i64 (x1.1.2 : Int), undef, undef, undef, undef, .tuple #[ag, .int .i64 0], .string x, .tuple #[ag, .int .i64 0], ag, .int .i64 0, .int .i64 0, .bool false, undef, .string x, .slice (some ⟨gr, 0, none⟩) L.length cap, .string x, .func (.func 94) #[] #[.pointer (some ⟨gz, 0, none⟩)], .int .i64 (x1.1.1 : Int), .int .i64 (x1.1.2 : Int), undef, undef, undef, undef, undef, undef, undef, undef, undef, undef, undef, undef, undef, undef, undef, undef, undef, undef, undef, undef, undef, undef, undef, undef, undef, undef, undef, undef, undef, undef, undef, undef, undef, undef, undef, undef, undef, undef, undef, undef, undef, undef, undef, undef, undef], defers := [] }) ?assign ?body ?done ?stop
  case assign =>
    intro l x1 W K hK
    gi_wp2
    exact hK
  case body =>
    rintro l pre ⟨⟨i0, m⟩, ⟨hi, hk0, hk1, hst⟩, hin⟩ W hI hlt
    have hI' := hI
    obtain ⟨hB, hs, hb, hv, hc, hp, hrow⟩ := hI'
    dsimp only at hi hk0 hk1 hst ⊢
    have hm0 : m ≠ 0 := Hfine.out (i0, m) hin
    obtain ⟨r1, r2, r3, r4, r5⟩ := stepN_pos (L := L) (i := i0) (by rw [← hst]; exact hm0)
    rw [← hst] at r3 r4 r5
    obtain ⟨k, hk⟩ : ∃ k, k = byteN L i0 := ⟨_, rfl⟩
    rw [← hk, ← r4] at r2
    obtain ⟨M, hM⟩ : ∃ M, M = (pre.map (·.1)).foldl (stepO L bl va ec) L := ⟨_, rfl⟩
    rw [← hM] at hrow
    obtain ⟨pre2, hpre⟩ : ∃ p, p = pre ++ [(⟨(i0, m), ⟨hi, hk0, hk1, hst⟩, hin⟩ : PV L)] := ⟨_, rfl⟩
    have hnext : stepO L bl va ec M (i0, m) = (pre2.map (·.1)).foldl (stepO L bl va ec) L := by
      rw [hpre, List.map_append, List.foldl_append, ← hM]
      rfl
    rw [← hpre]
    clear hpre hin
    have hMl : M.length = L.length := by
      rw [hM]
      refine foldO_len bl va ec _ _ (fun p hp => ?_) rfl
      obtain ⟨y, hy, rfl⟩ := List.mem_map.1 hp
      exact ⟨y.2.1, Hfine.out y.1 y.2.2⟩
    have k256 : k < 256 := by rw [hk]; exact byteN_lt _ _
    have m256 : m < 256 := by rw [r4]; exact byteN_lt _ _
    have hix := fun W => index_at x i0 (by rw [Hx.out]; exact hi) W
    rw [Hx.out, ← hk] at hix
    have cs0 := hs.cell 0
    have cb0 := hb.cell 0
    have cv0 := hv.cell 0
    have cc0 := hc.cell 0
    have cp0 := hp.cell 0
    try simp at cs0
    try simp at cb0
    try simp at cv0
    try simp at cc0
    try simp at cp0
    have HI := Lib.hid hI
    clear hI
    have HB := Lib.hid hB
    clear hB
    have Hs := Lib.hid hs
    clear hs
    have Hb := Lib.hid hb
    clear hb
    have Hv := Lib.hid hv
    clear hv
    have Hc := Lib.hid hc
    clear hc
    have Hp := Lib.hid hp
    clear hp
    have Hrow := Lib.hid hrow
    clear hrow
    have HM := Lib.hid hM
    clear hM
    have Hnext := Lib.hid hnext
    clear hnext
    have HMl := Lib.hid hMl
    clear hMl
    have R1 := Lib.hid r1
    clear r1
    have R2 := Lib.hid r2
    clear r2
    have R3 := Lib.hid r3
    clear r3
    have R4 := Lib.hid r4
    clear r4
    have R5 := Lib.hid r5
    clear r5
    have Hk := Lib.hid hk
    clear hk
    have Hk0 := Lib.hid hk0
    clear hk0
    have Hk1 := Lib.hid hk1
    clear hk1
    have Hst := Lib.hid hst
    clear hst
    have Hi := Lib.hid hi
    clear hi
    have Hm0 := Lib.hid hm0
    clear hm0
    have Hlt := Lib.hid hlt
    clear hlt
    by_cases h8 : k = 8
    · have t8 : ((k : Int) == 8) = true := by rw [h8]; rfl
      have t5 : ((k : Int) == 5) = false := by rw [h8]; rfl
      have hm10 : m = 10 := by have := R2.out; rw [h8] at this; simpa [longB] using this
      have hst2' : stepO L bl va ec M (i0, m) = putsL L (fun j => if j = 0 then va else ec) 2 0 (i0 + 2) M := stepO_time (by rw [← Hk.out]; exact h8)
      clear h8
      gi_upto_region 14 with fail
      have hy := Blk.new W 22 #[.int .u32 (va : Int), .int .u32 (ec : Int)]
      have hal : Below W.heap.size W (W.alloc (.cells #[.int .u32 (va : Int), .int .u32 (ec : Int)] 22)) := (Below.refl _ _).alloc (Nat.le_refl _) _
      have hrow1 := Hrow.out.below hal Hrow.out.lt
      have hO1 : Out (fun i => i = gr) W (W.alloc (.cells #[.int .u32 (va : Int), .int .u32 (ec : Int)] 22)) := Out.of_below hal
      clear hal
      obtain ⟨gy, hgy⟩ : ∃ g, g = W.heap.size := ⟨_, rfl⟩
      rw [← hgy] at hy ⊢
      clear hgy
      generalize W.alloc _ = W1 at *
      obtain ⟨q, hq⟩ : ∃ q, q = 2 := ⟨_, rfl⟩
      rw [show Value.slice (some ⟨gy, 0, none⟩) 2 2 = Value.slice (some ⟨gy, 0, none⟩) q q by rw [hq]]
      obtain ⟨fby, hf⟩ : ∃ f : Nat → Nat, f = fun j => if j = 0 then va else ec := ⟨_, rfl⟩
      obtain ⟨cs, hcse⟩ : ∃ cs : Array Value, cs = #[.int .u32 (va : Int), .int .u32 (ec : Int)] := ⟨_, rfl⟩
      rw [← hcse] at hy
      have hst2 : stepO L bl va ec M (i0, m) = putsL L fby q 0 (i0 + 2) M := by rw [hf, hq]; exact hst2'
      clear hst2'
      have hcs : ∀ j, j < q → cs[j]? = some (.int .u32 ((fby j : Nat) : Int)) := by
        intro j hj
        rw [hcse, hf]
        have : j = 0 ∨ j = 1 := by omega
        rcases this with rfl | rfl <;> rfl
      have hfb : ∀ j, fby j < 4294967296 := by intro j; rw [hf]; simp only []; split <;> assumption
      have hq8 : q ≤ 8 := by omega
      have hqm : 2 + 4 * q ≤ m := by omega
      clear hq hf hcse hm10
      have hal2 := hO1
      have Hy := Lib.hid hy
      clear hy
      have HO1 := Lib.hid hO1
      clear hO1
      have Hrow1 := Lib.hid hrow1
      clear hrow1
      have Hcs := Lib.hid hcs
      clear hcs
      have Hfb := Lib.hid hfb
      clear hfb
      have Hst2 := Lib.hid hst2
      clear hst2
      have Hq8 := Lib.hid hq8
      clear hq8
      have Hqm := Lib.hid hqm
      clear hqm
      gi_wp2_with fail
      gi_loopw [51] (fun i wr => ∃ (j : Nat) (M' : List UInt8), i = .int .i64 (j : Int) ∧ j ≤ q ∧ M'.length = L.length ∧ putsL L fby (q - j) j (i0 + 2 + 4 * j) M' = stepO L bl va ec M (i0, m) ∧ RowB wr gr M' ∧ Out (fun i => i = gr) W wr ∧ Blk wr gy 22 cs) (fun i _ => q - (intOf i).toNat)
      case atStart => exact ⟨0, M, rfl, Nat.zero_le _, HMl.out, Hst2.out.symm, Hrow1.out, HO1.out, Hy.out⟩
      case round =>
        obtain ⟨j, M', rfl, hj, hM'l, hput, hrow', hO', hy'⟩ := hrel
        clear hal2
        by_cases hjq : j < q
        · have i1 : (j : Int) < (q : Int) := by omega
          have i8 : (j : Int) < 8 := by have := Hq8.out; omega
          obtain ⟨d, hd⟩ : ∃ d, d = fby j := ⟨_, rfl⟩
          have hyc : wr.cell? ⟨gy, j, none⟩ = some (.int .u32 (d : Int)) := by rw [hy'.cell j, Hcs.out j hjq, hd]
          obtain ⟨kk, hkk⟩ : ∃ kk, kk = i0 + 2 + 4 * j := ⟨_, rfl⟩
          have hkk4 : kk + 4 ≤ L.length := by have := Hqm.out; have := R3.out; omega
          have i3 : (i0 : Int) ≤ 40 := by have := H40.out; have := Hi.out; omega
          have kB : ∀ {g : Nat} {t : TypeId} {c : Array Value}, Blk W g t c → t ≠ 5 → Blk wr g t c := fun {g t c} h ht => (hO'.block g h.lt (Hrow.out.ne_ h ht)).trans h
          have hs' := kB Hs.out (by decide)
          have hp' := kB Hp.out (by decide)
          have hgn := hrow'.ne_ hy' (by decide)
          have hsn := hrow'.ne_ hs' (by decide)
          have hpn := hrow'.ne_ hp' (by decide)
          clear kB
          have hdlt : d < 4294967296 := by rw [hd]; exact Hfb.out j
          have j1 : (kk : Int) ≤ (L.length : Int) := by omega
          have j2 : (kk : Int) + 4 ≤ (L.length : Int) := by omega
          have j3 : (0 : Int) ≤ (kk : Int) + 4 := by omega
          have j4 : (kk : Int) ≤ (kk : Int) + 4 := by omega
          have j5 : (kk : Int) + 4 ≤ 100 := by have := H40.out; omega
          have j6 : (kk : Int) ≤ (cap : Int) := by have := Hcap.out; omega
          have hsz' : x.size = L.length := Hsz.out
          obtain ⟨z0, hz0⟩ : ∃ z, z = atL L kk := ⟨_, rfl⟩
          have hz0lt : z0 < 4294967296 := by rw [hz0]; exact numL_lt _
          obtain ⟨z, hz⟩ : ∃ z, z = (z0 + d) % 4294967296 := ⟨_, rfl⟩
          have hzlt : z < 4294967296 := by omega
          have hzi : ((z0 : Int) + (d : Int)) % 4294967296 = (z : Int) := by omega
          have e2 : (x.extract kk (kk + 4)).data.toList = (L.drop kk).take 4 := by rw [ext_list x L Hx.out, show kk + 4 - kk = 4 by omega]
          have hS0 : Out (fun i => i = gr) wr wr.drew := Out.of_below (Below.drew (Below.refl _ _))
          have ne : Nonempty (Cls (fun W => Out (fun i => i = gr) wr W)) := ⟨⟨_, hS0⟩⟩
          have hSb : ∀ w w', Out (fun i => i = gr) wr w → Below w.heap.size w w' → Out (fun i => i = gr) wr w' := fun w w' h hb => Out.trans h (Out.of_below (O := fun _ => False) hb) (fun _ _ e => e.elim)
          have qp : ∀ y : Cls (fun W => Out (fun i => i = gr) wr W), y.w.cell? ⟨gp, 0, none⟩ = some (.slice (some ⟨gr, 0, none⟩) L.length cap) := fun y => by
            have h : Blk y.w gp 51 #[.slice (some ⟨gr, 0, none⟩) L.length cap] := (y.h.block gp hp'.lt hpn).trans hp'
            have := h.cell 0
            simpa using this
          have qs : ∀ y : Cls (fun W => Out (fun i => i = gr) wr W), y.w.cell? ⟨gs, 0, none⟩ = some (.string x) := fun y => by
            have h : Blk y.w gs 9 #[.string x] := (y.h.block gs hs'.lt hsn).trans hs'
            have := h.cell 0
            simpa using this
          have n1 : ∀ y : Cls (fun W => Out (fun i => i = gr) wr W), Calls Try.prog 77 #[.string (x.extract kk (kk + 4))] y.w fun e w'' => e = .returned (.int .u32 (z0 : Int)) ∧ Out (fun i => i = gr) wr w'' ∧ RApp 13 (some gr) 8 y.w w'' := fun y => (number_any _ y.w (by simp [maxLen]; omega)).mono fun e w' ⟨he, hb⟩ => ⟨by rw [he, e2, hz0]; rfl, hSb _ _ y.h hb, RApp.of_below hb⟩
          have cf1 : ∀ (vals : Array Value) (w : World), (callFunc 77 vals).run Try.prog w = .ok (.enter 77 vals) w := fun _ _ => by kernel_rfl
          have cf2 : ∀ (vals : Array Value) (w : World), (callFunc 86 vals).run Try.prog w = .ok (.enter 86 vals) w := fun _ _ => by kernel_rfl
          have rb1 : ∀ w : World, (Instr.buildSlice 125 1 #[(0, .int .u32 (((z0 : Int) + (d : Int)) % 4294967296))]).run Try.prog w = .ok (.slice (some ⟨w.heap.size, 0, none⟩) 1 1) (w.alloc (.cells #[.int .u32 (((z0 : Int) + (d : Int)) % 4294967296)] 22)) := fun _ => by kernel_rfl
          have hhigh : ∀ (y : Cls (fun W => Out (fun i => i = gr) wr W)) (u : Value), rowAt wr.heap.size 22 #[.int .u32 (((z0 : Int) + (d : Int)) % 4294967296)] 1 [u] y.w → Calls Try.prog 86 #[.int .i64 4, u] y.w fun e w'' => e = .returned (.string ⟨(be4 z).toArray⟩) ∧ Out (fun i => i = gr) wr w'' ∧ RApp 13 (some gr) 12 y.w w'' := by
            rintro y u ⟨g', e, _, hkk2⟩
            injection e with e
            subst e
            rw [hzi] at hkk2
            refine (ohigh32 y.w g' [z] _ (by intro v hv; simp at hv; subst hv; exact hzlt) rfl hkk2 (by simp) (by simp)).mono ?_
            rintro e w'' ⟨rfl, hb⟩
            exact ⟨by simp, hSb _ _ y.h hb, RApp.of_below hb⟩
          have hcopy : ∀ W', Out (fun i => i = gr) wr W' → untilU [(13, fun W => RowB W gr M')] 13 W' → ∃ W'', (Builtin.copy_ #[51, 9] 3 #[.slice (some ⟨gr, kk, none⟩) (L.length - kk) (cap - kk), .string ⟨(be4 z).toArray⟩]).run Try.prog W' = .ok (.int .i64 4) W'' ∧ RowB W'' gr (putL M' kk z) ∧ Out (fun i => i = gr) wr W'' ∧ RApp 13 (some gr) 13 W' W'' := by
            intro W' hW' hut
            have hrw : RowB W' gr M' := hut _ List.mem_cons_self rfl
            obtain ⟨W'', c1, c2, c3⟩ := run_copy_rowB W' gr kk (L.length - kk) (cap - kk) ⟨(be4 z).toArray⟩ M' (be4 z) rfl hrw (by rw [be4_len]; omega) (by rw [be4_len, hM'l]; exact hkk4)
            exact ⟨W'', c1, c2, Out.trans hW' (Out.grown (O := fun i => i = gr) c3 rfl) (fun _ _ e => e), c3⟩
          have hU0 : ∀ q ∈ ([(13, fun W => RowB W gr M')] : List (Nat × (World → Prop))), q.2 wr.drew := by
            intro q hq
            obtain rfl := List.mem_singleton.1 hq
            exact hrow'
          have hUs : ∀ q ∈ ([(13, fun W => RowB W gr M')] : List (Nat × (World → Prop))), ∀ i w w', i ≠ q.1 → RApp 13 (some gr) i w w' → q.2 w → q.2 w' := by
            intro q hq i w w' hi hr hw
            obtain rfl := List.mem_singleton.1 hq
            exact RowB.below hw (hr.below hi) (RowB.lt hw)
          have hrl : ∀ q, some gr = some q → q < wr.heap.size := fun q hq => by injection hq with hq; rw [← hq]; exact hrow'.lt
          have hck : ¬ cap = kk := by have := Hcap.out; omega
          have hput' : putsL L fby (q - (j + 1)) (j + 1) (i0 + 2 + 4 * (j + 1)) (putL M' kk z) = stepO L bl va ec M (i0, m) := by
            rw [← hput, show q - j = q - (j + 1) + 1 by omega, putsL, ← hkk, ← hd, ← hz0, ← hz, show i0 + 2 + 4 * (j + 1) = kk + 4 by omega]
          have hlen' : (putL M' kk z).length = L.length := by rw [putL_len (by rw [hM'l]; exact hkk4), hM'l]
          have Hput := Lib.hid hput
          clear hput
          have Hrow' := Lib.hid hrow'
          clear hrow'
          have HO' := Lib.hid hO'
          clear hO'
          have Hy' := Lib.hid hy'
          clear hy'
          have Hd := Lib.hid hd
          clear hd
          have Hkk := Lib.hid hkk
          clear hkk
          have Hs' := Lib.hid hs'
          clear hs'
          have Hp' := Lib.hid hp'
          clear hp'
          have Hgn := Lib.hid hgn
          clear hgn
          have Hsn := Lib.hid hsn
          clear hsn
          have Hpn := Lib.hid hpn
          clear hpn
          have HM'l := Lib.hid hM'l
          clear hM'l
          have Hz0 := Lib.hid hz0
          clear hz0
          have Hz := Lib.hid hz
          clear hz
          have Hzi := Lib.hid hzi
          clear hzi
          have E2 := Lib.hid e2
          clear e2
          have HS0 := Lib.hid hS0
          clear hS0
          have HSb := Lib.hid hSb
          clear hSb
          have N1 := Lib.hid n1
          clear n1
          have Cf1 := Lib.hid cf1
          clear cf1
          have Cf2 := Lib.hid cf2
          clear cf2
          have Rb1 := Lib.hid rb1
          clear rb1
          have Hhigh := Lib.hid hhigh
          clear hhigh
          have Hcopy := Lib.hid hcopy
          clear hcopy
          have HU0 := Lib.hid hU0
          clear hU0
          have HUs := Lib.hid hUs
          clear hUs
          have Hrl := Lib.hid hrl
          clear hrl
          have Hput' := Lib.hid hput'
          clear hput'
          have Hlen' := Lib.hid hlen'
          clear hlen'
          have Hkk4 := Lib.hid hkk4
          clear hkk4
          have Hzlt := Lib.hid hzlt
          clear hzlt
          gi_upto_region 18 with fail
          rw [show ((i0 : Int) + 2 + 4 * (j : Int)) = ((kk : Nat) : Int) by rw [Hkk.out]; omega]
          clear hyc
          refine wpIn_region_flowu 14 (fun W => Out (fun i => i = gr) wr W) (RApp 13 (some gr)) [(13, fun W => RowB W gr M')] (by kernel_rfl) (by rintro ⟨_, _, h⟩; exact h) (by kernel_rfl) (by kernel_rfl) (by kernel_rfl) RApp.refl HUs.out HU0.out HS0.out ?_
          simp only [List.take_succ_cons, List.take_zero, List.drop_succ_cons, List.drop_zero]
          repeat (first
            | (refine flowu_quiet RApp.refl rfl rfl rfl rfl ?_; intro K hK; go_big_quiet_op; go_big_quiet_on)
            | (refine flowu_call Cf1.out _ ?_ rfl rfl rfl _ N1.out wr ?_; (focus (simp only [List.map_toArray, List.map_cons, List.map_nil]; rfl)); intro K hK; go_big_quiet_op; go_big_quiet_on))
          refine flowx_build wr.heap.size (E := 22) #[(0, .int .u32 (((z0 : Int) + (d : Int)) % 4294967296))] ?_ #[.int .u32 (((z0 : Int) + (d : Int)) % 4294967296)] Rb1.out HSb.out (fun w h => h.size) Hrl.out rfl rfl rfl wr ?_
          focus (simp only [List.map_toArray, List.map_cons, List.map_nil]; rfl)
          intro K hK; go_big_quiet_op; go_big_quiet_on
          refine flowu_callY Cf2.out (.string ⟨(be4 z).toArray⟩) (fun u => #[.int .i64 4, u]) 0 rfl rfl (fun f => by rfl) Hhigh.out rfl rfl wr ?_
          intro K hK; go_big_quiet_op; go_big_quiet_on
          refine flowu_do (.int .i64 4) (fun _ W => RowB W gr (putL M' kk z)) (fun l i w w' hi hr h => RowB.below h (hr.below hi) (RowB.lt h)) (fun _ _ h => by cases h) rfl (fun W hW hut => by
            obtain ⟨W', h1, h2, h3, h4⟩ := Hcopy.out W hW hut
            refine ⟨W', ?_, h2, h3, h4⟩
            simp [execOp, resolve, invoke, builtin, Act.eval, h1, Result.andThen, hck]) rfl rfl wr ?_
          intro K hK; go_big_quiet_op; go_big_quiet_on
          refine flowu_nil ?_
          intro W5 f hW5 hF5
          have hk5 : RowB W5 gr (putL M' kk z) := hF5 _ (.head _)
          clear hF5
          simp only [fillW]
          have hO5 : Out (fun i => i = gr) W W5 := Out.trans HO'.out hW5 (fun _ _ e => e)
          have hy5 := (hW5.block gy Hy'.out.lt Hgn.out).trans Hy'.out
          have hy5 : Blk W5 gy 22 cs := hy5
          generalize f 72 = v72
          clear hW5 ne qp qs
          have Hk5 := Lib.hid hk5
          clear hk5
          have HO5 := Lib.hid hO5
          clear hO5
          have Hy5 := Lib.hid hy5
          clear hy5
          simp only [Act.put, List.setIfInBounds_toArray, List.set_cons_succ, List.set_cons_zero]
          simp only [wpList, Exit.inBlock, Exit.then]
          go_at_K
          gi_wp2
          go_roundw
          case rel => exact ⟨j + 1, putL M' kk z, by go_num, by omega, Hlen'.out, Hput'.out, Hk5.out, HO5.out, Hy5.out⟩
          case measure => simp [intOf]; omega
        · have hje : j = q := by omega
          have hM' : M' = stepO L bl va ec M (i0, m) := by
            rw [← hput, hje, Nat.sub_self]
            rfl
          have i1 : ¬ (j : Int) < (q : Int) := by omega
          clear hput hje
          have Hrow' := Lib.hid hrow'
          clear hrow'
          have HO' := Lib.hid hO'
          clear hO'
          have Hy' := Lib.hid hy'
          clear hy'
          have HM' := Lib.hid hM'
          clear hM'
          have HM'l := Lib.hid hM'l
          clear hM'l
          gi_wp2
          exact TurnI.next HI.out HO'.out Hrow'.out (HM'.out.trans Hnext.out) hwr HgrB.out
    by_cases h5 : k = 5
    · have t8 : ((k : Int) == 8) = false := by simp; omega
      have t5 : ((k : Int) == 5) = true := by rw [h5]; rfl
      have hm4 : m = 10 ∨ m = 18 ∨ m = 26 ∨ m = 34 := by have := R2.out; rw [h5] at this; simp [longB] at this; omega
      have hst2' : stepO L bl va ec M (i0, m) = putsL L (fun _ => bl) ((m - 2) / 4) 0 (i0 + 2) M := stepO_blocks (by rw [← Hk.out]; exact h5)
      obtain ⟨q, hq⟩ : ∃ q, q = (m - 2) / 4 := ⟨_, rfl⟩
      obtain ⟨fby, hf⟩ : ∃ f : Nat → Nat, f = fun _ => bl := ⟨_, rfl⟩
      have hst2 : stepO L bl va ec M (i0, m) = putsL L fby q 0 (i0 + 2) M := by rw [hf, hq]; exact hst2'
      have hq8 : q ≤ 8 := by omega
      have hqm : 2 + 4 * q ≤ m := by omega
      have hqi : ((m : Int) - 2) / 4 = (q : Int) := by omega
      have hqq : q = 2 ∨ q = 4 ∨ q = 6 ∨ q = 8 := by omega
      have hm2 : (2 : Int) ≤ (m : Int) := by omega
      have hrep := rep_any (W.alloc (.cells #[.int .u32 (bl : Int)] 22)) W.heap.size 1 (bl : Int) (Blk.new _ _ _) q hqq
      rw [← hqi] at hrep
      have hal : Below W.heap.size W (W.alloc (.cells #[.int .u32 (bl : Int)] 22)) := (Below.refl _ _).alloc (Nat.le_refl _) _
      clear hst2' h5 hqi
      have Hrep := Lib.hid hrep
      clear hrep
      have Hal := Lib.hid hal
      clear hal
      have Hst2 := Lib.hid hst2
      clear hst2
      have Hq := Lib.hid hq
      clear hq
      have Hf := Lib.hid hf
      clear hf
      have Hm4 := Lib.hid hm4
      clear hm4
      have Hqq := Lib.hid hqq
      clear hqq
      gi_wp2_with fail
      refine ⟨trivial, ?_⟩
      refine (CallsIn.inRound l (callsIn_wide.2 Hrep.out)).mono ?_
      rintro e W1 ⟨gy, rfl, hy, _, hbq⟩
      have hbw : Below W.heap.size W W1 := Hal.out.trans (hbq.mono Hal.out.size)
      have hrow1 := Hrow.out.below hbw Hrow.out.lt
      have hO1 : Out (fun i => i = gr) W W1 := Out.of_below hbw
      obtain ⟨cs, hcse⟩ : ∃ cs : Array Value, cs = (List.replicate q (Value.int .u32 (bl : Int))).toArray := ⟨_, rfl⟩
      rw [← hcse] at hy
      have hcs : ∀ j, j < q → cs[j]? = some (.int .u32 ((fby j : Nat) : Int)) := by
        intro j hj
        rw [hcse, Hf.out]
        simp [hj]
      have hfb : ∀ j, fby j < 4294967296 := by intro j; rw [Hf.out]; exact hbl
      have hst2 := Hst2.out
      clear Hst2 hbq hbw hcse
      gi_upto_region 14 with fail
      have hal2 := hO1
      have Hy := Lib.hid hy
      clear hy
      have HO1 := Lib.hid hO1
      clear hO1
      have Hrow1 := Lib.hid hrow1
      clear hrow1
      have Hcs := Lib.hid hcs
      clear hcs
      have Hfb := Lib.hid hfb
      clear hfb
      have Hst2 := Lib.hid hst2
      clear hst2
      have Hq8 := Lib.hid hq8
      clear hq8
      have Hqm := Lib.hid hqm
      clear hqm
      gi_wp2_with fail
      gi_loopw [51] (fun i wr => ∃ (j : Nat) (M' : List UInt8), i = .int .i64 (j : Int) ∧ j ≤ q ∧ M'.length = L.length ∧ putsL L fby (q - j) j (i0 + 2 + 4 * j) M' = stepO L bl va ec M (i0, m) ∧ RowB wr gr M' ∧ Out (fun i => i = gr) W wr ∧ Blk wr gy 22 cs) (fun i _ => q - (intOf i).toNat)
      case atStart => exact ⟨0, M, rfl, Nat.zero_le _, HMl.out, Hst2.out.symm, Hrow1.out, HO1.out, Hy.out⟩
      case round =>
        obtain ⟨j, M', rfl, hj, hM'l, hput, hrow', hO', hy'⟩ := hrel
        clear hal2
        by_cases hjq : j < q
        · have i1 : (j : Int) < (q : Int) := by omega
          have i8 : (j : Int) < 8 := by have := Hq8.out; omega
          obtain ⟨d, hd⟩ : ∃ d, d = fby j := ⟨_, rfl⟩
          have hyc : wr.cell? ⟨gy, j, none⟩ = some (.int .u32 (d : Int)) := by rw [hy'.cell j, Hcs.out j hjq, hd]
          obtain ⟨kk, hkk⟩ : ∃ kk, kk = i0 + 2 + 4 * j := ⟨_, rfl⟩
          have hkk4 : kk + 4 ≤ L.length := by have := Hqm.out; have := R3.out; omega
          have i3 : (i0 : Int) ≤ 40 := by have := H40.out; have := Hi.out; omega
          have kB : ∀ {g : Nat} {t : TypeId} {c : Array Value}, Blk W g t c → t ≠ 5 → Blk wr g t c := fun {g t c} h ht => (hO'.block g h.lt (Hrow.out.ne_ h ht)).trans h
          have hs' := kB Hs.out (by decide)
          have hp' := kB Hp.out (by decide)
          have hgn := hrow'.ne_ hy' (by decide)
          have hsn := hrow'.ne_ hs' (by decide)
          have hpn := hrow'.ne_ hp' (by decide)
          clear kB
          have hdlt : d < 4294967296 := by rw [hd]; exact Hfb.out j
          have j1 : (kk : Int) ≤ (L.length : Int) := by omega
          have j2 : (kk : Int) + 4 ≤ (L.length : Int) := by omega
          have j3 : (0 : Int) ≤ (kk : Int) + 4 := by omega
          have j4 : (kk : Int) ≤ (kk : Int) + 4 := by omega
          have j5 : (kk : Int) + 4 ≤ 100 := by have := H40.out; omega
          have j6 : (kk : Int) ≤ (cap : Int) := by have := Hcap.out; omega
          have hsz' : x.size = L.length := Hsz.out
          obtain ⟨z0, hz0⟩ : ∃ z, z = atL L kk := ⟨_, rfl⟩
          have hz0lt : z0 < 4294967296 := by rw [hz0]; exact numL_lt _
          obtain ⟨z, hz⟩ : ∃ z, z = (z0 + d) % 4294967296 := ⟨_, rfl⟩
          have hzlt : z < 4294967296 := by omega
          have hzi : ((z0 : Int) + (d : Int)) % 4294967296 = (z : Int) := by omega
          have e2 : (x.extract kk (kk + 4)).data.toList = (L.drop kk).take 4 := by rw [ext_list x L Hx.out, show kk + 4 - kk = 4 by omega]
          have hS0 : Out (fun i => i = gr) wr wr.drew := Out.of_below (Below.drew (Below.refl _ _))
          have ne : Nonempty (Cls (fun W => Out (fun i => i = gr) wr W)) := ⟨⟨_, hS0⟩⟩
          have hSb : ∀ w w', Out (fun i => i = gr) wr w → Below w.heap.size w w' → Out (fun i => i = gr) wr w' := fun w w' h hb => Out.trans h (Out.of_below (O := fun _ => False) hb) (fun _ _ e => e.elim)
          have qp : ∀ y : Cls (fun W => Out (fun i => i = gr) wr W), y.w.cell? ⟨gp, 0, none⟩ = some (.slice (some ⟨gr, 0, none⟩) L.length cap) := fun y => by
            have h : Blk y.w gp 51 #[.slice (some ⟨gr, 0, none⟩) L.length cap] := (y.h.block gp hp'.lt hpn).trans hp'
            have := h.cell 0
            simpa using this
          have qs : ∀ y : Cls (fun W => Out (fun i => i = gr) wr W), y.w.cell? ⟨gs, 0, none⟩ = some (.string x) := fun y => by
            have h : Blk y.w gs 9 #[.string x] := (y.h.block gs hs'.lt hsn).trans hs'
            have := h.cell 0
            simpa using this
          have n1 : ∀ y : Cls (fun W => Out (fun i => i = gr) wr W), Calls Try.prog 77 #[.string (x.extract kk (kk + 4))] y.w fun e w'' => e = .returned (.int .u32 (z0 : Int)) ∧ Out (fun i => i = gr) wr w'' ∧ RApp 13 (some gr) 8 y.w w'' := fun y => (number_any _ y.w (by simp [maxLen]; omega)).mono fun e w' ⟨he, hb⟩ => ⟨by rw [he, e2, hz0]; rfl, hSb _ _ y.h hb, RApp.of_below hb⟩
          have cf1 : ∀ (vals : Array Value) (w : World), (callFunc 77 vals).run Try.prog w = .ok (.enter 77 vals) w := fun _ _ => by kernel_rfl
          have cf2 : ∀ (vals : Array Value) (w : World), (callFunc 86 vals).run Try.prog w = .ok (.enter 86 vals) w := fun _ _ => by kernel_rfl
          have rb1 : ∀ w : World, (Instr.buildSlice 125 1 #[(0, .int .u32 (((z0 : Int) + (d : Int)) % 4294967296))]).run Try.prog w = .ok (.slice (some ⟨w.heap.size, 0, none⟩) 1 1) (w.alloc (.cells #[.int .u32 (((z0 : Int) + (d : Int)) % 4294967296)] 22)) := fun _ => by kernel_rfl
          have hhigh : ∀ (y : Cls (fun W => Out (fun i => i = gr) wr W)) (u : Value), rowAt wr.heap.size 22 #[.int .u32 (((z0 : Int) + (d : Int)) % 4294967296)] 1 [u] y.w → Calls Try.prog 86 #[.int .i64 4, u] y.w fun e w'' => e = .returned (.string ⟨(be4 z).toArray⟩) ∧ Out (fun i => i = gr) wr w'' ∧ RApp 13 (some gr) 12 y.w w'' := by
            rintro y u ⟨g', e, _, hkk2⟩
            injection e with e
            subst e
            rw [hzi] at hkk2
            refine (ohigh32 y.w g' [z] _ (by intro v hv; simp at hv; subst hv; exact hzlt) rfl hkk2 (by simp) (by simp)).mono ?_
            rintro e w'' ⟨rfl, hb⟩
            exact ⟨by simp, hSb _ _ y.h hb, RApp.of_below hb⟩
          have hcopy : ∀ W', Out (fun i => i = gr) wr W' → untilU [(13, fun W => RowB W gr M')] 13 W' → ∃ W'', (Builtin.copy_ #[51, 9] 3 #[.slice (some ⟨gr, kk, none⟩) (L.length - kk) (cap - kk), .string ⟨(be4 z).toArray⟩]).run Try.prog W' = .ok (.int .i64 4) W'' ∧ RowB W'' gr (putL M' kk z) ∧ Out (fun i => i = gr) wr W'' ∧ RApp 13 (some gr) 13 W' W'' := by
            intro W' hW' hut
            have hrw : RowB W' gr M' := hut _ List.mem_cons_self rfl
            obtain ⟨W'', c1, c2, c3⟩ := run_copy_rowB W' gr kk (L.length - kk) (cap - kk) ⟨(be4 z).toArray⟩ M' (be4 z) rfl hrw (by rw [be4_len]; omega) (by rw [be4_len, hM'l]; exact hkk4)
            exact ⟨W'', c1, c2, Out.trans hW' (Out.grown (O := fun i => i = gr) c3 rfl) (fun _ _ e => e), c3⟩
          have hU0 : ∀ q ∈ ([(13, fun W => RowB W gr M')] : List (Nat × (World → Prop))), q.2 wr.drew := by
            intro q hq
            obtain rfl := List.mem_singleton.1 hq
            exact hrow'
          have hUs : ∀ q ∈ ([(13, fun W => RowB W gr M')] : List (Nat × (World → Prop))), ∀ i w w', i ≠ q.1 → RApp 13 (some gr) i w w' → q.2 w → q.2 w' := by
            intro q hq i w w' hi hr hw
            obtain rfl := List.mem_singleton.1 hq
            exact RowB.below hw (hr.below hi) (RowB.lt hw)
          have hrl : ∀ q, some gr = some q → q < wr.heap.size := fun q hq => by injection hq with hq; rw [← hq]; exact hrow'.lt
          have hck : ¬ cap = kk := by have := Hcap.out; omega
          have hput' : putsL L fby (q - (j + 1)) (j + 1) (i0 + 2 + 4 * (j + 1)) (putL M' kk z) = stepO L bl va ec M (i0, m) := by
            rw [← hput, show q - j = q - (j + 1) + 1 by omega, putsL, ← hkk, ← hd, ← hz0, ← hz, show i0 + 2 + 4 * (j + 1) = kk + 4 by omega]
          have hlen' : (putL M' kk z).length = L.length := by rw [putL_len (by rw [hM'l]; exact hkk4), hM'l]
          have Hput := Lib.hid hput
          clear hput
          have Hrow' := Lib.hid hrow'
          clear hrow'
          have HO' := Lib.hid hO'
          clear hO'
          have Hy' := Lib.hid hy'
          clear hy'
          have Hd := Lib.hid hd
          clear hd
          have Hkk := Lib.hid hkk
          clear hkk
          have Hs' := Lib.hid hs'
          clear hs'
          have Hp' := Lib.hid hp'
          clear hp'
          have Hgn := Lib.hid hgn
          clear hgn
          have Hsn := Lib.hid hsn
          clear hsn
          have Hpn := Lib.hid hpn
          clear hpn
          have HM'l := Lib.hid hM'l
          clear hM'l
          have Hz0 := Lib.hid hz0
          clear hz0
          have Hz := Lib.hid hz
          clear hz
          have Hzi := Lib.hid hzi
          clear hzi
          have E2 := Lib.hid e2
          clear e2
          have HS0 := Lib.hid hS0
          clear hS0
          have HSb := Lib.hid hSb
          clear hSb
          have N1 := Lib.hid n1
          clear n1
          have Cf1 := Lib.hid cf1
          clear cf1
          have Cf2 := Lib.hid cf2
          clear cf2
          have Rb1 := Lib.hid rb1
          clear rb1
          have Hhigh := Lib.hid hhigh
          clear hhigh
          have Hcopy := Lib.hid hcopy
          clear hcopy
          have HU0 := Lib.hid hU0
          clear hU0
          have HUs := Lib.hid hUs
          clear hUs
          have Hrl := Lib.hid hrl
          clear hrl
          have Hput' := Lib.hid hput'
          clear hput'
          have Hlen' := Lib.hid hlen'
          clear hlen'
          have Hkk4 := Lib.hid hkk4
          clear hkk4
          have Hzlt := Lib.hid hzlt
          clear hzlt
          gi_upto_region 18 with fail
          rw [show ((i0 : Int) + 2 + 4 * (j : Int)) = ((kk : Nat) : Int) by rw [Hkk.out]; omega]
          clear hyc
          refine wpIn_region_flowu 14 (fun W => Out (fun i => i = gr) wr W) (RApp 13 (some gr)) [(13, fun W => RowB W gr M')] (by kernel_rfl) (by rintro ⟨_, _, h⟩; exact h) (by kernel_rfl) (by kernel_rfl) (by kernel_rfl) RApp.refl HUs.out HU0.out HS0.out ?_
          simp only [List.take_succ_cons, List.take_zero, List.drop_succ_cons, List.drop_zero]
          repeat (first
            | (refine flowu_quiet RApp.refl rfl rfl rfl rfl ?_; intro K hK; go_big_quiet_op; go_big_quiet_on)
            | (refine flowu_call Cf1.out _ ?_ rfl rfl rfl _ N1.out wr ?_; (focus (simp only [List.map_toArray, List.map_cons, List.map_nil]; rfl)); intro K hK; go_big_quiet_op; go_big_quiet_on))
          refine flowx_build wr.heap.size (E := 22) #[(0, .int .u32 (((z0 : Int) + (d : Int)) % 4294967296))] ?_ #[.int .u32 (((z0 : Int) + (d : Int)) % 4294967296)] Rb1.out HSb.out (fun w h => h.size) Hrl.out rfl rfl rfl wr ?_
          focus (simp only [List.map_toArray, List.map_cons, List.map_nil]; rfl)
          intro K hK; go_big_quiet_op; go_big_quiet_on
          refine flowu_callY Cf2.out (.string ⟨(be4 z).toArray⟩) (fun u => #[.int .i64 4, u]) 0 rfl rfl (fun f => by rfl) Hhigh.out rfl rfl wr ?_
          intro K hK; go_big_quiet_op; go_big_quiet_on
          refine flowu_do (.int .i64 4) (fun _ W => RowB W gr (putL M' kk z)) (fun l i w w' hi hr h => RowB.below h (hr.below hi) (RowB.lt h)) (fun _ _ h => by cases h) rfl (fun W hW hut => by
            obtain ⟨W', h1, h2, h3, h4⟩ := Hcopy.out W hW hut
            refine ⟨W', ?_, h2, h3, h4⟩
            simp [execOp, resolve, invoke, builtin, Act.eval, h1, Result.andThen, hck]) rfl rfl wr ?_
          intro K hK; go_big_quiet_op; go_big_quiet_on
          refine flowu_nil ?_
          intro W5 f hW5 hF5
          have hk5 : RowB W5 gr (putL M' kk z) := hF5 _ (.head _)
          clear hF5
          simp only [fillW]
          have hO5 : Out (fun i => i = gr) W W5 := Out.trans HO'.out hW5 (fun _ _ e => e)
          have hy5 := (hW5.block gy Hy'.out.lt Hgn.out).trans Hy'.out
          have hy5 : Blk W5 gy 22 cs := hy5
          generalize f 72 = v72
          clear hW5 ne qp qs
          have Hk5 := Lib.hid hk5
          clear hk5
          have HO5 := Lib.hid hO5
          clear hO5
          have Hy5 := Lib.hid hy5
          clear hy5
          simp only [Act.put, List.setIfInBounds_toArray, List.set_cons_succ, List.set_cons_zero]
          simp only [wpList, Exit.inBlock, Exit.then]
          go_at_K
          gi_wp2
          go_roundw
          case rel => exact ⟨j + 1, putL M' kk z, by go_num, by omega, Hlen'.out, Hput'.out, Hk5.out, HO5.out, Hy5.out⟩
          case measure => simp [intOf]; omega
        · have hje : j = q := by omega
          have hM' : M' = stepO L bl va ec M (i0, m) := by
            rw [← hput, hje, Nat.sub_self]
            rfl
          have i1 : ¬ (j : Int) < (q : Int) := by omega
          clear hput hje
          have Hrow' := Lib.hid hrow'
          clear hrow'
          have HO' := Lib.hid hO'
          clear hO'
          have Hy' := Lib.hid hy'
          clear hy'
          have HM' := Lib.hid hM'
          clear hM'
          have HM'l := Lib.hid hM'l
          clear hM'l
          gi_wp2
          exact TurnI.next HI.out HO'.out Hrow'.out (HM'.out.trans Hnext.out) hwr HgrB.out
    have t8 : ((k : Int) == 8) = false := by simp; omega
    have t5 : ((k : Int) == 5) = false := by simp; omega
    have hst2 : stepO L bl va ec M (i0, m) = M := stepO_other (by rw [← Hk.out]; exact h8) (by rw [← Hk.out]; exact h5)
    clear h8 h5
    have Hst2 := Lib.hid hst2
    clear hst2
    gi_wp2_with fail
    gi_loopw [51] (fun i wr => i = .int .i64 0 ∧ wr = W) (fun i _ => 0)
    case atStart => exact ⟨rfl, rfl⟩
    case round =>
      obtain ⟨rfl, rfl⟩ := hrel
      gi_wp2_with fail
      gi_wp2
      exact TurnI.next HI.out (Out.refl _ _) Hrow.out (Hst2.out.symm.trans Hnext.out) hwr HgrB.out
  case done =>
    rintro D xs W hD hS ⟨hB, hs, hb, hv, hc, hp, hrow⟩ hK
    rw [hS, stepsO L bl va ec Hfine.out] at hrow
    have hlen := turnL_len bl va ec L
    obtain ⟨M, hM⟩ : ∃ M, M = turnT bl va ec L := ⟨_, rfl⟩
    rw [← hM] at hrow hlen
    have hbk := run_bytes_back W ⟨gr, 0, none⟩ L.length cap M hlen.symm (by
      intro j hj
      rw [add_plain, Nat.zero_add, hrow.cell (List.getElem?_eq_getElem hj)]
      rfl)
    have cp0 := hp.cell 0
    try simp at cp0
    have HB := Lib.hid hB
    clear hB
    have Hs := Lib.hid hs
    clear hs
    have Hb := Lib.hid hb
    clear hb
    have Hv := Lib.hid hv
    clear hv
    have Hc := Lib.hid hc
    clear hc
    have Hp := Lib.hid hp
    clear hp
    have Hrow := Lib.hid hrow
    clear hrow
    have Hlen := Lib.hid hlen
    clear hlen
    have HM := Lib.hid hM
    clear hM
    have HS := Lib.hid hS
    clear hS
    gi_wp2_with fail
    gi_wp2
    refine ⟨by simp, .inl ⟨_, _, rfl, run_takeDeferred hK, ?_⟩⟩
    refine ⟨.tuple #[.string ⟨M.toArray⟩, .int .i64 0], by simp [results, Try.results50, go_sem], ?_⟩
    unfold TurnPost
    rw [HTR.out, ← HM.out]
    exact ⟨rfl, HB.out.trans (belowK_b (w := w) (Nat.le_refl _) W D _ _ (Nat.le_trans hBs5 hD) hK rfl rfl)⟩
  case stop =>
    rintro D c pre W _ _ h _
    exact h.elim
set_option maxHeartbeats 4000000 in
theorem turn_no (x : ByteArray) (L : List UInt8) (hx : x.data.toList = L) (hd : (decR L).2 ≠ 0) (bl va ec : Nat) (w : World) :
    Calls Try.prog 50 #[.string x, .int .u32 (bl : Int), .int .u32 (va : Int), .int .u32 (ec : Int)] w (TurnPost bl va ec w L) := by
  have hdec := dec_any x
  rw [hx] at hdec
  have hb0 : Below w.heap.size w w := Below.refl _ _
  have HB := Lib.hid hb0
  clear hb0
  have Hx := Lib.hid hx
  clear hx
  have Hd := Lib.hid hd
  clear hd
  have Hdec := Lib.hid hdec
  clear hdec
  go_enter Try.func50, Try.ntmps50
  go_upto_region 1 with fail
  have hs := Blk.alloc (Blk.alloc (Blk.alloc (Blk.new w 9 #[.string x]) (.cells #[.int .u32 (bl : Int)] 22)) (.cells #[.int .u32 (va : Int)] 22)) (.cells #[.int .u32 (ec : Int)] 22)
  have hb := Blk.alloc (Blk.alloc (Blk.new (w.alloc (.cells #[.string x] 9)) 22 #[.int .u32 (bl : Int)]) (.cells #[.int .u32 (va : Int)] 22)) (.cells #[.int .u32 (ec : Int)] 22)
  rw [show (w.alloc (.cells #[.string x] 9)).heap.size = w.heap.size + 1 by simp] at hb
  have hv := Blk.alloc (Blk.new ((w.alloc (.cells #[.string x] 9)).alloc (.cells #[.int .u32 (bl : Int)] 22)) 22 #[.int .u32 (va : Int)]) (.cells #[.int .u32 (ec : Int)] 22)
  rw [show ((w.alloc (.cells #[.string x] 9)).alloc (.cells #[.int .u32 (bl : Int)] 22)).heap.size = w.heap.size + 2 by simp] at hv
  have hc := Blk.new (((w.alloc (.cells #[.string x] 9)).alloc (.cells #[.int .u32 (bl : Int)] 22)).alloc (.cells #[.int .u32 (va : Int)] 22)) 22 #[.int .u32 (ec : Int)]
  rw [show (((w.alloc (.cells #[.string x] 9)).alloc (.cells #[.int .u32 (bl : Int)] 22)).alloc (.cells #[.int .u32 (va : Int)] 22)).heap.size = w.heap.size + 3 by simp] at hc
  have hB := Below.alloc (Below.alloc (Below.alloc (Below.alloc (HB.out) (Nat.le_trans HB.out.size (by simp <;> omega)) (.cells #[.string x] 9)) (Nat.le_trans HB.out.size (by simp <;> omega)) (.cells #[.int .u32 (bl : Int)] 22)) (Nat.le_trans HB.out.size (by simp <;> omega)) (.cells #[.int .u32 (va : Int)] 22)) (Nat.le_trans HB.out.size (by simp <;> omega)) (.cells #[.int .u32 (ec : Int)] 22)
  clear HB
  obtain ⟨gc, hgec⟩ : ∃ g, g = w.heap.size + 3 := ⟨_, rfl⟩
  rw [← hgec] at hc ⊢
  obtain ⟨gv, hgev⟩ : ∃ g, g = w.heap.size + 2 := ⟨_, rfl⟩
  rw [← hgev] at hv ⊢
  obtain ⟨gb, hgeb⟩ : ∃ g, g = w.heap.size + 1 := ⟨_, rfl⟩
  rw [← hgeb] at hb ⊢
  obtain ⟨gs, hges⟩ : ∃ g, g = w.heap.size := ⟨_, rfl⟩
  rw [← hges] at hs ⊢
  have hne_s_b : gs ≠ gb := by omega
  have hne_s_v : gs ≠ gv := by omega
  have hne_s_c : gs ≠ gc := by omega
  have hne_b_v : gb ≠ gv := by omega
  have hne_b_c : gb ≠ gc := by omega
  have hne_v_c : gv ≠ gc := by omega
  have hle_s : w.heap.size ≤ gs := by omega
  have hle_b : w.heap.size ≤ gb := by omega
  have hle_v : w.heap.size ≤ gv := by omega
  have hle_c : w.heap.size ≤ gc := by omega
  clear hges hgeb hgev hgec
  generalize (((w.alloc _).alloc _).alloc _).alloc _ = wn3 at *
  have Hs := Lib.hid hs
  clear hs
  have Hb := Lib.hid hb
  clear hb
  have Hv := Lib.hid hv
  clear hv
  have Hc := Lib.hid hc
  clear hc
  have HB := Lib.hid hB
  clear hB
  obtain ⟨W1, hW1⟩ : ∃ W, W = wn3 := ⟨_, rfl⟩
  rw [← hW1] at Hs Hb Hv Hc HB ⊢
  clear hW1
  have cs1 := Hs.out.cell 0
  try simp at cs1
  go_wp2_with fail
  with_reducible refine (Hdec.out _).mono ?_
  rintro e w2 ⟨r, A, c, code, rfl, ⟨hbr, _⟩, hbq, hre⟩
  have hs := Hs.out.below hbq Hs.out.lt
  clear Hs
  have Hs := Lib.hid hs
  clear hs
  have hb := Hb.out.below hbq Hb.out.lt
  clear Hb
  have Hb := Lib.hid hb
  clear hb
  have hv := Hv.out.below hbq Hv.out.lt
  clear Hv
  have Hv := Lib.hid hv
  clear hv
  have hc := Hc.out.below hbq Hc.out.lt
  clear Hc
  have Hc := Lib.hid hc
  clear hc
  have hB := HB.out.trans (hbq.mono HB.out.size)
  clear HB
  have HB := Lib.hid hB
  clear hB
  clear hbq hbr cs1
  unfold optC
  have hc0 : ¬ code = 0 := by have := Hd.out; rw [← hre] at this; exact this
  have hc1 : (code != 0) = true := by simp [hc0]
  have hTR : turnR bl va ec L = ([], code) := by
    have : (decR L).2 = code := by rw [← hre]
    unfold turnR
    rw [this, if_neg hc0]
  have HTR := Lib.hid hTR
  clear hTR
  clear hc0 hre
  go_upto_region 2 with fail
  have hq := Blk.new w2 28 #[.int .u16 (r.mss : Int), .int .i64 r.scale, .bool r.sack, .slice A r.bl.length c, .bool r.time, .int .u32 (r.val : Int), .int .u32 (r.echo : Int)]
  have hs := Blk.alloc Hs.out (.cells #[.int .u16 (r.mss : Int), .int .i64 r.scale, .bool r.sack, .slice A r.bl.length c, .bool r.time, .int .u32 (r.val : Int), .int .u32 (r.echo : Int)] 28)
  clear Hs
  have hb := Blk.alloc Hb.out (.cells #[.int .u16 (r.mss : Int), .int .i64 r.scale, .bool r.sack, .slice A r.bl.length c, .bool r.time, .int .u32 (r.val : Int), .int .u32 (r.echo : Int)] 28)
  clear Hb
  have hv := Blk.alloc Hv.out (.cells #[.int .u16 (r.mss : Int), .int .i64 r.scale, .bool r.sack, .slice A r.bl.length c, .bool r.time, .int .u32 (r.val : Int), .int .u32 (r.echo : Int)] 28)
  clear Hv
  have hc := Blk.alloc Hc.out (.cells #[.int .u16 (r.mss : Int), .int .i64 r.scale, .bool r.sack, .slice A r.bl.length c, .bool r.time, .int .u32 (r.val : Int), .int .u32 (r.echo : Int)] 28)
  clear Hc
  have hB := HB.out.alloc HB.out.size (.cells #[.int .u16 (r.mss : Int), .int .i64 r.scale, .bool r.sack, .slice A r.bl.length c, .bool r.time, .int .u32 (r.val : Int), .int .u32 (r.echo : Int)] 28)
  clear HB
  obtain ⟨gq, hge⟩ : ∃ g, g = w2.heap.size := ⟨_, rfl⟩
  rw [← hge] at hq ⊢
  have hle_q : w2.heap.size ≤ gq := by omega
  clear hge
  generalize w2.alloc _ = wn4 at *
  have Hs := Lib.hid hs
  clear hs
  have Hb := Lib.hid hb
  clear hb
  have Hv := Lib.hid hv
  clear hv
  have Hc := Lib.hid hc
  clear hc
  have Hq := Lib.hid hq
  clear hq
  have HB := Lib.hid hB
  clear hB
  go_wp2_with fail
  go_ret2
  unfold TurnPost
  rw [HTR.out]
  exact ⟨rfl, HB.out⟩
theorem oturn_any (x : ByteArray) (L : List UInt8) (hx : x.data.toList = L) (bl va ec : Nat) (hbl : bl < 4294967296) (hva : va < 4294967296) (hec : ec < 4294967296) (w : World) :
    Calls Try.prog 50 #[.string x, .int .u32 (bl : Int), .int .u32 (va : Int), .int .u32 (ec : Int)] w (TurnPost bl va ec w L) := by
  by_cases h : (decR L).2 = 0
  · exact callsIn_wide.1 (turn_yes x L hx h bl va ec hbl hva hec w)
  · exact turn_no x L hx h bl va ec w
end Go.Proofs.Ytengegcnocdkoaa
end
section
set_option linter.unusedVariables false
set_option linter.unusedSimpArgs false
set_option maxRecDepth 20000
namespace Go.Proofs.Ytengegcnocdkoaa
open Go.RowKit Go.BigFrame
/-- a text is laid at i -/
def layM (M : List UInt8) (i : Nat) (t : List UInt8) : List UInt8 := M.take i ++ t ++ M.drop (i + t.length)
theorem layM_len {M : List UInt8} {i : Nat} {t : List UInt8} (h : i + t.length ≤ M.length) : (layM M i t).length = M.length := by
  unfold layM
  simp
  omega
def sumT (s : Nat) (old now : List UInt8) : Nat := turnsL s ((wordsL old).zip (wordsL now))
/-- what Rewrite's closures work on -/
structure LayS (gb gr gh gw cap n : Nat) (M : List UInt8) (hd wh : Nat) (W : World) : Prop where
  b : Blk W gb 51 #[.slice (some ⟨gr, 0, none⟩) n cap]
  r : RowB W gr M
  n : M.length = n
  h : Blk W gh 23 #[.int .u16 (hd : Int)]
  w : Blk W gw 23 #[.int .u16 (wh : Int)]
def OutL (gr gh gw : Nat) : Nat → Prop := fun i => i = gr ∨ i = gh ∨ i = gw
def LayPost (gb gr gh gw cap n : Nat) (M : List UInt8) (hd wh i : Nat) (t : List UInt8) (W : World) (e : Ending) (w' : World) : Prop :=
  e = .returned (.tuple #[]) ∧ LayS gb gr gh gw cap n (layM M i t) (if i < 20 then sumT hd ((M.drop i).take t.length) t else hd) (sumT wh ((M.drop i).take t.length) t) w' ∧ Out (OutL gr gh gw) W w'
theorem turnsL_lt : ∀ (l : List (Nat × Nat)) (s : Nat), s < 65536 → turnsL s l < 65536
  | [], s, h => h
  | p :: l, s, h => turnsL_lt l _ (Nat.lt_of_le_of_lt (turnL_le s p.1 p.2) (by decide))
theorem sumT_lt {s : Nat} (h : s < 65536) (o t : List UInt8) : sumT s o t < 65536 := turnsL_lt _ _ h
section
variable {gb gr gh gw cap n hd wh : Nat} {M : List UInt8} {W W' : World}
theorem LayS.below (h : LayS gb gr gh gw cap n M hd wh W) (hb : Below W.heap.size W W') : LayS gb gr gh gw cap n M hd wh W' :=
  ⟨h.b.below hb h.b.lt, h.r.below hb h.r.lt, h.n, h.h.below hb h.h.lt, h.w.below hb h.w.lt⟩
theorem LayS.seth (h : LayS gb gr gh gw cap n M hd wh W) (n1 : gh ≠ gb) (n3 : gh ≠ gr) (n5 : gh ≠ gw) (u : Nat) : LayS gb gr gh gw cap n M u wh (W.setCell ⟨gh, 0, none⟩ (.int .u16 (u : Int))) :=
  ⟨h.b.far (Ne.symm n1) _, h.r.grown (only_set (World.grownBy.refl _ _) 0 _) (by simpa using Ne.symm n3), h.n, by have := h.h.set_ 0 (.int .u16 (u : Int)); simpa using this, h.w.far (Ne.symm n5) _⟩
theorem LayS.setw (h : LayS gb gr gh gw cap n M hd wh W) (n2 : gw ≠ gb) (n4 : gw ≠ gr) (n5 : gh ≠ gw) (u : Nat) : LayS gb gr gh gw cap n M hd u (W.setCell ⟨gw, 0, none⟩ (.int .u16 (u : Int))) :=
  ⟨h.b.far (Ne.symm n2) _, h.r.grown (only_set (World.grownBy.refl _ _) 0 _) (by simpa using Ne.symm n4), h.n, h.h.far n5 _, by have := h.w.set_ 0 (.int .u16 (u : Int)); simpa using this⟩
theorem LayS.setr (h : LayS gb gr gh gw cap n M hd wh W) {M' : List UInt8} (hr : RowB W' gr M') (hn : M'.length = n) (hg : W.grownBy W' (some gr)) (n3 : gh ≠ gr) (n4 : gw ≠ gr) (n5 : gb ≠ gr) : LayS gb gr gh gw cap n M' hd wh W' :=
  ⟨h.b.grown hg (by simpa using n5), hr, hn, h.h.grown hg (by simpa using n3), h.w.grown hg (by simpa using n4)⟩
end
set_option maxHeartbeats 1000000 in
theorem lay_any (gb gr gh gw cap n hd wh i : Nat) (M : List UInt8) (x : ByteArray) (t : List UInt8) (hx : x.data.toList = t) (W : World) (hs : LayS gb gr gh gw cap n M hd wh W) (hd1 : hd < 65536) (hw1 : wh < 65536) (hi : i + t.length ≤ n) (hn : n ≤ 131072) (hcap : n ≤ cap) (hne : gh ≠ gw) :
    Calls Try.prog 46 #[.int .i64 (i : Int), .string x, .pointer (some ⟨gb, 0, none⟩), .pointer (some ⟨gh, 0, none⟩), .pointer (some ⟨gw, 0, none⟩)] W (LayPost gb gr gh gw cap n M hd wh i t W) := by
  obtain ⟨old, hold⟩ : ∃ old, old = (M.drop i).take t.length := ⟨_, rfl⟩
  have hol : old.length = t.length := by rw [hold, List.length_take, List.length_drop, hs.n]; omega
  have hxs : x.size = t.length := by rw [← hx]; rfl
  have hos : (⟨old.toArray⟩ : ByteArray).size = t.length := by
    show old.toArray.size = _
    simp [hol]
  have e1 : (⟨old.toArray⟩ : ByteArray).data.toList = old := rfl
  have hT : ∀ s : Nat, s < 65536 → ∀ W, Calls Try.prog 47 #[.int .u16 (s : Int), .string ⟨old.toArray⟩, .string x] W fun e w' => e = .returned (.int .u16 ((sumT s old t : Nat) : Int)) ∧ Below W.heap.size W w' := by
    intro s hs' W
    have := turns_any s ⟨old.toArray⟩ x hs' (by omega) (by omega) W
    rw [hos, hxs, Nat.min_self, e1, hx, List.take_of_length_le (by omega), List.take_of_length_le (Nat.le_refl _)] at this
    exact this
  have hTh := hT hd hd1
  have hTw := hT wh hw1
  unfold LayPost
  rw [← hold]
  have hbk : cap ≠ i → (convert 51 9 (.slice (some ⟨gr, i, none⟩) t.length (cap - i))).run Try.prog W = .ok (.string ⟨old.toArray⟩) W := by
    intro _
    refine run_bytes_back W ⟨gr, i, none⟩ _ _ old hol.symm ?_
    intro j hj
    rw [add_plain]
    refine hs.r.cell (j := i + j) (c := old[j]) ?_
    have e : old[j]? = some old[j] := List.getElem?_eq_getElem hj
    have : old[j]? = M[i + j]? := by
      rw [hold, List.getElem?_take, if_pos (by omega), List.getElem?_drop]
    rw [← this, e]
  have hbk0 : cap = i → (convert 51 9 (.slice (some ⟨gr, 0, none⟩) t.length 0)).run Try.prog W = .ok (.string ⟨old.toArray⟩) W := by
    intro hc
    exact run_bytes_back W ⟨gr, 0, none⟩ _ _ old hol.symm (fun j hj => absurd hj (by omega))
  generalize hu : sumT hd old t = uh at *
  generalize hv : sumT wh old t = uw at *
  have hb0 := hs.b.cell 0
  simp at hb0
  have j1 : (i : Int) + (t.length : Int) ≤ (n : Int) := by omega
  have j2 : (n : Int) ≤ (cap : Int) := by omega
  have j3 : (0 : Int) ≤ (i : Int) := by omega
  have j5 : (0 : Int) ≤ (t.length : Int) := by omega
  have hxi : (x.size : Int) = (t.length : Int) := by omega
  have ne1 := Blk.ne_ hs.h hs.b (by decide)
  have ne2 := Blk.ne_ hs.w hs.b (by decide)
  have ne3 := RowB.ne_ hs.r hs.h (by decide)
  have ne4 := RowB.ne_ hs.r hs.w (by decide)
  have ne5 := RowB.ne_ hs.r hs.b (by decide)
  clear hT hu hv hold hol hxs hos e1
  by_cases hic : cap = i
  · have hbk := hbk0 hic
    have ht0 : t = [] := List.eq_nil_of_length_eq_zero (by omega)
    have hcp : ∀ W4, LayS gb gr gh gw cap n M (if i < 20 then uh else hd) uw W4 → ∃ W5, (Builtin.copy_ #[51, 9] 3 #[.slice (some ⟨gr, 0, none⟩) (n - i) 0, .string x]).run Try.prog W4 = .ok (.int .i64 (t.length : Int)) W5 ∧ RowB W5 gr (layM M i t) ∧ W4.grownBy W5 (some gr) := by
      intro W4 h
      obtain ⟨W5, q1, q2, q3⟩ := run_copy_rowB W4 gr 0 (n - i) 0 x M t hx h.r (by omega) (by rw [h.n]; omega)
      refine ⟨W5, q1, ?_, q3⟩
      have e : layM M i t = M.take 0 ++ t ++ M.drop (0 + t.length) := by rw [ht0]; simp [layM]
      rw [e]
      exact q2
    clear hbk0 ht0
    have Hs := Lib.hid hs
    clear hs
    have HTh := Lib.hid hTh
    clear hTh
    have HTw := Lib.hid hTw
    clear hTw
    have Hx := Lib.hid hx
    clear hx
    have Hcp := Lib.hid hcp
    clear hcp
    go_enter Try.func46, Try.ntmps46
    go_upto_region 1 with fail
    clear hb0 hbk
    by_cases hi20 : i < 20
    · have j6 : (i : Int) < 20 := by omega
      have c0 := Hs.out.h.cell 0
      simp at c0
      go_wp2_with fail
      with_reducible refine (HTh.out _).mono ?_
      rintro e W1 ⟨rfl, hb1⟩
      clear c0
      have hs1 := Hs.out.below hb1
      have ho1 : Out (OutL gr gh gw) W W1 := Out.of_below hb1
      have c0 := hs1.h.cell 0
      simp at c0
      have f0 := hs1.h.frozen 0
      clear hb1
      have Hs1 := Lib.hid hs1
      clear hs1
      have Ho1 := Lib.hid ho1
      clear ho1
      go_upto_region 3 with fail
      have hs2 := Hs1.out.seth ne1 ne3 hne uh
      have ho2 := Ho1.out.set_ (t := gh) (.inr (.inl rfl)) 0 (.int .u16 (uh : Int))
      generalize W1.setCell _ _ = W2 at *
      clear c0 f0
      have c0 := hs2.w.cell 0
      simp at c0
      have Hs2 := Lib.hid hs2
      clear hs2
      have Ho2 := Lib.hid ho2
      clear ho2
      go_wp2_with fail
      with_reducible refine (HTw.out _).mono ?_
      rintro e W3 ⟨rfl, hb3⟩
      clear c0
      have hs3 := Hs2.out.below hb3
      have ho3 : Out (OutL gr gh gw) W W3 := Out.trans Ho2.out (Out.of_below (O := OutL gr gh gw) hb3) (fun _ _ e => e)
      have c0 := hs3.w.cell 0
      simp at c0
      have f0 := hs3.w.frozen 0
      clear hb3
      have Hs3 := Lib.hid hs3
      clear hs3
      have Ho3 := Lib.hid ho3
      clear ho3
      go_upto_region 4 with fail
      have hs4 := Hs3.out.setw ne2 ne4 hne uw
      have ho4 := Ho3.out.set_ (t := gw) (.inr (.inr rfl)) 0 (.int .u16 (uw : Int))
      generalize W3.setCell _ _ = W4 at *
      clear c0 f0
      have d0 := hs4.b.cell 0
      simp at d0
      obtain ⟨W5, q1, q2, q3⟩ := Hcp.out W4 (by first | (rw [if_pos hi20]; exact hs4) | (rw [if_neg hi20]; exact hs4))
      have hs5 := hs4.setr q2 (by have := layM_len (M := M) (i := i) (t := t) (by rw [hs4.n]; exact hi); rw [hs4.n] at this; exact this) q3 ne3 ne4 ne5
      have ho5 : Out (OutL gr gh gw) W W5 := Out.trans ho4 (Out.grown (O := OutL gr gh gw) q3 (.inl rfl)) (fun _ _ e => e)
      clear hs4 ho4 q2 q3
      have Hs5 := Lib.hid hs5
      clear hs5
      have Ho5 := Lib.hid ho5
      clear ho5
      go_wp2
      first | go_end0 | refine bodyPost_ret (results_none rfl _ _ _) rfl ?_
      exact ⟨rfl, by first | exact Hs5.out | (have h := Hs5.out; rw [hic] at h; exact h), Ho5.out⟩
    · have j6 : (20 : Int) ≤ (i : Int) := by omega
      go_upto_region 3 with fail
      have hs2 := Hs.out
      have ho2 : Out (OutL gr gh gw) W W := Out.refl _ _
      have c0 := hs2.w.cell 0
      simp at c0
      have Hs2 := Lib.hid hs2
      clear hs2
      have Ho2 := Lib.hid ho2
      clear ho2
      go_wp2_with fail
      with_reducible refine (HTw.out _).mono ?_
      rintro e W3 ⟨rfl, hb3⟩
      clear c0
      have hs3 := Hs2.out.below hb3
      have ho3 : Out (OutL gr gh gw) W W3 := Out.trans Ho2.out (Out.of_below (O := OutL gr gh gw) hb3) (fun _ _ e => e)
      have c0 := hs3.w.cell 0
      simp at c0
      have f0 := hs3.w.frozen 0
      clear hb3
      have Hs3 := Lib.hid hs3
      clear hs3
      have Ho3 := Lib.hid ho3
      clear ho3
      go_upto_region 4 with fail
      have hs4 := Hs3.out.setw ne2 ne4 hne uw
      have ho4 := Ho3.out.set_ (t := gw) (.inr (.inr rfl)) 0 (.int .u16 (uw : Int))
      generalize W3.setCell _ _ = W4 at *
      clear c0 f0
      have d0 := hs4.b.cell 0
      simp at d0
      obtain ⟨W5, q1, q2, q3⟩ := Hcp.out W4 (by first | (rw [if_pos hi20]; exact hs4) | (rw [if_neg hi20]; exact hs4))
      have hs5 := hs4.setr q2 (by have := layM_len (M := M) (i := i) (t := t) (by rw [hs4.n]; exact hi); rw [hs4.n] at this; exact this) q3 ne3 ne4 ne5
      have ho5 : Out (OutL gr gh gw) W W5 := Out.trans ho4 (Out.grown (O := OutL gr gh gw) q3 (.inl rfl)) (fun _ _ e => e)
      clear hs4 ho4 q2 q3
      have Hs5 := Lib.hid hs5
      clear hs5
      have Ho5 := Lib.hid ho5
      clear ho5
      go_wp2
      first | go_end0 | refine bodyPost_ret (results_none rfl _ _ _) rfl ?_
      exact ⟨rfl, by first | exact Hs5.out | (have h := Hs5.out; rw [hic] at h; exact h), Ho5.out⟩
  · have hbk := hbk hic
    have hcp : ∀ W4, LayS gb gr gh gw cap n M (if i < 20 then uh else hd) uw W4 → ∃ W5, (Builtin.copy_ #[51, 9] 3 #[.slice (some ⟨gr, i, none⟩) (n - i) (cap - i), .string x]).run Try.prog W4 = .ok (.int .i64 (t.length : Int)) W5 ∧ RowB W5 gr (layM M i t) ∧ W4.grownBy W5 (some gr) := by
      intro W4 h
      exact run_copy_rowB W4 gr i (n - i) (cap - i) x M t hx h.r (by omega) (by rw [h.n]; exact hi)
    clear hbk0
    have Hs := Lib.hid hs
    clear hs
    have HTh := Lib.hid hTh
    clear hTh
    have HTw := Lib.hid hTw
    clear hTw
    have Hx := Lib.hid hx
    clear hx
    have Hcp := Lib.hid hcp
    clear hcp
    go_enter Try.func46, Try.ntmps46
    go_upto_region 1 with fail
    clear hb0 hbk
    by_cases hi20 : i < 20
    · have j6 : (i : Int) < 20 := by omega
      have c0 := Hs.out.h.cell 0
      simp at c0
      go_wp2_with fail
      with_reducible refine (HTh.out _).mono ?_
      rintro e W1 ⟨rfl, hb1⟩
      clear c0
      have hs1 := Hs.out.below hb1
      have ho1 : Out (OutL gr gh gw) W W1 := Out.of_below hb1
      have c0 := hs1.h.cell 0
      simp at c0
      have f0 := hs1.h.frozen 0
      clear hb1
      have Hs1 := Lib.hid hs1
      clear hs1
      have Ho1 := Lib.hid ho1
      clear ho1
      go_upto_region 3 with fail
      have hs2 := Hs1.out.seth ne1 ne3 hne uh
      have ho2 := Ho1.out.set_ (t := gh) (.inr (.inl rfl)) 0 (.int .u16 (uh : Int))
      generalize W1.setCell _ _ = W2 at *
      clear c0 f0
      have c0 := hs2.w.cell 0
      simp at c0
      have Hs2 := Lib.hid hs2
      clear hs2
      have Ho2 := Lib.hid ho2
      clear ho2
      go_wp2_with fail
      with_reducible refine (HTw.out _).mono ?_
      rintro e W3 ⟨rfl, hb3⟩
      clear c0
      have hs3 := Hs2.out.below hb3
      have ho3 : Out (OutL gr gh gw) W W3 := Out.trans Ho2.out (Out.of_below (O := OutL gr gh gw) hb3) (fun _ _ e => e)
      have c0 := hs3.w.cell 0
      simp at c0
      have f0 := hs3.w.frozen 0
      clear hb3
      have Hs3 := Lib.hid hs3
      clear hs3
      have Ho3 := Lib.hid ho3
      clear ho3
      go_upto_region 4 with fail
      have hs4 := Hs3.out.setw ne2 ne4 hne uw
      have ho4 := Ho3.out.set_ (t := gw) (.inr (.inr rfl)) 0 (.int .u16 (uw : Int))
      generalize W3.setCell _ _ = W4 at *
      clear c0 f0
      have d0 := hs4.b.cell 0
      simp at d0
      obtain ⟨W5, q1, q2, q3⟩ := Hcp.out W4 (by first | (rw [if_pos hi20]; exact hs4) | (rw [if_neg hi20]; exact hs4))
      have hs5 := hs4.setr q2 (by have := layM_len (M := M) (i := i) (t := t) (by rw [hs4.n]; exact hi); rw [hs4.n] at this; exact this) q3 ne3 ne4 ne5
      have ho5 : Out (OutL gr gh gw) W W5 := Out.trans ho4 (Out.grown (O := OutL gr gh gw) q3 (.inl rfl)) (fun _ _ e => e)
      clear hs4 ho4 q2 q3
      have Hs5 := Lib.hid hs5
      clear hs5
      have Ho5 := Lib.hid ho5
      clear ho5
      go_wp2
      first | go_end0 | refine bodyPost_ret (results_none rfl _ _ _) rfl ?_
      exact ⟨rfl, by first | exact Hs5.out | (have h := Hs5.out; rw [hic] at h; exact h), Ho5.out⟩
    · have j6 : (20 : Int) ≤ (i : Int) := by omega
      go_upto_region 3 with fail
      have hs2 := Hs.out
      have ho2 : Out (OutL gr gh gw) W W := Out.refl _ _
      have c0 := hs2.w.cell 0
      simp at c0
      have Hs2 := Lib.hid hs2
      clear hs2
      have Ho2 := Lib.hid ho2
      clear ho2
      go_wp2_with fail
      with_reducible refine (HTw.out _).mono ?_
      rintro e W3 ⟨rfl, hb3⟩
      clear c0
      have hs3 := Hs2.out.below hb3
      have ho3 : Out (OutL gr gh gw) W W3 := Out.trans Ho2.out (Out.of_below (O := OutL gr gh gw) hb3) (fun _ _ e => e)
      have c0 := hs3.w.cell 0
      simp at c0
      have f0 := hs3.w.frozen 0
      clear hb3
      have Hs3 := Lib.hid hs3
      clear hs3
      have Ho3 := Lib.hid ho3
      clear ho3
      go_upto_region 4 with fail
      have hs4 := Hs3.out.setw ne2 ne4 hne uw
      have ho4 := Ho3.out.set_ (t := gw) (.inr (.inr rfl)) 0 (.int .u16 (uw : Int))
      generalize W3.setCell _ _ = W4 at *
      clear c0 f0
      have d0 := hs4.b.cell 0
      simp at d0
      obtain ⟨W5, q1, q2, q3⟩ := Hcp.out W4 (by first | (rw [if_pos hi20]; exact hs4) | (rw [if_neg hi20]; exact hs4))
      have hs5 := hs4.setr q2 (by have := layM_len (M := M) (i := i) (t := t) (by rw [hs4.n]; exact hi); rw [hs4.n] at this; exact this) q3 ne3 ne4 ne5
      have ho5 : Out (OutL gr gh gw) W W5 := Out.trans ho4 (Out.grown (O := OutL gr gh gw) q3 (.inl rfl)) (fun _ _ e => e)
      clear hs4 ho4 q2 q3
      have Hs5 := Lib.hid hs5
      clear hs5
      have Ho5 := Lib.hid ho5
      clear ho5
      go_wp2
      first | go_end0 | refine bodyPost_ret (results_none rfl _ _ _) rfl ?_
      exact ⟨rfl, by first | exact Hs5.out | (have h := Hs5.out; rw [hic] at h; exact h), Ho5.out⟩
end Go.Proofs.Ytengegcnocdkoaa
end
section
set_option linter.unusedVariables false
set_option linter.unusedSimpArgs false
set_option maxRecDepth 20000
namespace Go.Proofs.Ytengegcnocdkoaa
open Go.RowKit
/-- bytes, the head's checksum, the whole's -/
structure LS where
  M : List UInt8
  hd : Nat
  wh : Nat
def LS.lay (st : LS) (i : Nat) (t : List UInt8) : LS := ⟨layM st.M i t, if i < 20 then sumT st.hd ((st.M.drop i).take t.length) t else st.hd, sumT st.wh ((st.M.drop i).take t.length) t⟩
structure LS.ok (st : LS) (n : Nat) : Prop where
  n : st.M.length = n
  hd : st.hd < 65536
  wh : st.wh < 65536
theorem LS.ok.lay {st : LS} {n : Nat} (h : st.ok n) {i : Nat} {t : List UInt8} (hi : i + t.length ≤ n) : (st.lay i t).ok n := by
  refine ⟨?_, ?_, sumT_lt h.wh _ _⟩
  · show (layM st.M i t).length = n
    rw [layM_len (by rw [h.n]; exact hi), h.n]
  · show (if i < 20 then _ else _) < 65536
    split
    · exact sumT_lt h.hd _ _
    · exact h.hd
def w16 (L : List UInt8) (i : Nat) : Nat := (L.getD i 0).toNat * 256 + (L.getD (i + 1) 0).toNat
theorem w16_lt (L : List UInt8) (i : Nat) : w16 L i < 65536 := by
  unfold w16
  have := (L.getD i 0).toNat_lt
  have := (L.getD (i + 1) 0).toNat_lt
  omega
def adr (s : Sg) : List UInt8 := be4 s.s0 ++ be4 s.s2
def nums (s : Sg) : List UInt8 := be2 s.s1 ++ be2 s.s3 ++ be4 s.s4 ++ be4 s.s5
def rew0 (L : List UInt8) : LS := ⟨L, w16 L 10, w16 L 36⟩
def rew1 (L : List UInt8) (s : Sg) : LS := (((rew0 L).lay 12 (adr s)).lay 20 (nums s)).lay 34 (be2 s.s7)
def rewS (L : List UInt8) (x : Sh) : LS := (rew1 L (turnS (sgL L) x)).lay 40 (turnR x.x5 x.x6 x.x7 (oB L)).1
def rewL (L : List UInt8) (x : Sh) : List UInt8 := layM (layM (rewS L x).M 10 (be2 (rewS L x).hd)) 36 (be2 (rewS L x).wh)
/-- what Rewrite answers -/
def rewR (L : List UInt8) (x : Sh) : ByteArray × Int := if pdecE L = 0 then (⟨(rewL L x).toArray⟩, 0) else (⟨#[]⟩, pdecE L)
theorem rew0_ok (L : List UInt8) : (rew0 L).ok L.length := ⟨rfl, w16_lt _ _, w16_lt _ _⟩
end Go.Proofs.Ytengegcnocdkoaa
end
section
set_option linter.unusedVariables false
set_option linter.unusedSimpArgs false
set_option maxRecDepth 20000
namespace Go.Proofs.Ytengegcnocdkoaa
open Go.RowKit
theorem blocksF_le : ∀ (f : Nat) (B : List UInt8), (blocksF f B).length ≤ f
  | 0, _ => Nat.le_refl _
  | f + 1, B => by
    unfold blocksF
    split
    · simp
    · have := blocksF_le f (B.drop 8)
      simp only [List.length_cons]
      omega
theorem blocksF_wf : ∀ (f : Nat) (B : List UInt8), ∀ p ∈ blocksF f B, (0 ≤ p.1 ∧ p.1 ≤ 4294967295) ∧ 0 ≤ p.2 ∧ p.2 ≤ 4294967295
  | 0, _ => fun p hp => by cases hp
  | f + 1, B => by
    intro p hp
    unfold blocksF at hp
    split at hp
    · cases hp
    · rcases List.mem_cons.1 hp with rfl | hp
      · have h1 := numL_lt32 (B.take 4)
        have h2 := numL_lt32 ((B.drop 4).take 4)
        refine ⟨⟨?_, ?_⟩, ?_, ?_⟩ <;> dsimp only <;> omega
      · exact blocksF_wf f _ p hp
/-- what holds while options are read -/
structure RdI (st : Op × List Nat) : Prop where
  wf : st.1.wf
  bl : 5 ∉ st.2 → st.1.bl = []
  len : st.1.bl.length ≤ 32
theorem long5_le {n : Nat} (h : longB 5 (n + 2) = true) : n ≤ 32 := by rcases long5 h with h | h | h | h <;> omega
theorem wf_scale {n : Int} (h0 : 0 ≤ n) (h1 : n ≤ 14) : (Lit.int .i64 n).wf = true := by
  simp [Lit.wf, IntKind.min, IntKind.max, IntKind.signed, IntKind.bits]
  omega
theorem RdI.step {st st' : Op × List Nat} {x : It} (h : RdI st) (hx : ∀ B, x.2 = some B → longB x.1 (B.length + 2) = true) (hs : stepI st x = some st') : RdI st' := by
  obtain ⟨o, met⟩ := st
  obtain ⟨k, B⟩ := x
  obtain ⟨⟨w1, w2, w3, w4, w5⟩, hb, hl⟩ := h
  dsimp only at w1 w2 w3 w4 w5 hb hl hx
  unfold stepI at hs
  cases B with
  | none => cases hs
  | some B =>
    dsimp only at hs
    have hx := hx B rfl
    by_cases hm : k ∈ met
    · rw [if_pos hm] at hs; cases hs
    rw [if_neg hm] at hs
    have keep : ∀ q, (5 ∉ (if metB k = true then k :: met else met) → q) ↔ ((k ≠ 5 → 5 ∉ met → q)) := by
      intro q
      by_cases h5 : k = 5
      · subst h5
        have : metB 5 = true := rfl
        rw [if_pos this]
        simp
      · split
        · simp [h5, Ne.symm h5]
        · simp [h5]
    unfold takeI at hs
    by_cases k2 : k = 2
    · rw [if_pos k2] at hs
      by_cases h0 : numL B % 65536 = 0
      · rw [if_pos h0] at hs; cases hs
      · rw [if_neg h0] at hs
        simp only [Option.map_some, Option.some.injEq] at hs
        subst hs
        exact ⟨⟨Nat.mod_lt _ (by decide), w2, w3, w4, w5⟩, (keep _).2 fun _ => hb, hl⟩
    rw [if_neg k2] at hs
    by_cases k3 : k = 3
    · rw [if_pos k3] at hs
      simp only [Option.map_some, Option.some.injEq] at hs
      subst hs
      exact ⟨⟨w1, wf_scale (by dsimp only; omega) (by dsimp only; omega), w3, w4, w5⟩, (keep _).2 fun _ => hb, hl⟩
    rw [if_neg k3] at hs
    by_cases k4 : k = 4
    · rw [if_pos k4] at hs
      simp only [Option.map_some, Option.some.injEq] at hs
      subst hs
      exact ⟨⟨w1, w2, w3, w4, w5⟩, (keep _).2 fun _ => hb, hl⟩
    rw [if_neg k4] at hs
    by_cases k8 : k = 8
    · rw [if_pos k8] at hs
      simp only [Option.map_some, Option.some.injEq] at hs
      subst hs
      exact ⟨⟨w1, w2, numL_lt32 _, numL_lt32 _, w5⟩, (keep _).2 fun _ => hb, hl⟩
    rw [if_neg k8] at hs
    by_cases k5 : k = 5
    · rw [if_pos k5] at hs
      simp only [Option.map_some, Option.some.injEq] at hs
      subst k5
      subst hs
      have hb0 := hb hm
      rw [hb0] at w5 ⊢
      refine ⟨⟨w1, w2, w3, w4, ?_⟩, (keep _).2 fun h => absurd rfl h, ?_⟩
      · intro p hp
        exact blocksF_wf _ _ p (by simpa using hp)
      · have := blocksF_le B.length B
        have := long5_le hx
        show ([] ++ blocksF B.length B).length ≤ 32
        simp
        omega
    · rw [if_neg k5] at hs
      simp only [Option.map_some, Option.some.injEq] at hs
      subst hs
      exact ⟨⟨w1, w2, w3, w4, w5⟩, (keep _).2 fun _ => hb, hl⟩
theorem RdI.fold : ∀ (l : List It) (st st' : Op × List Nat), RdI st → (∀ x ∈ l, ∀ B, x.2 = some B → longB x.1 (B.length + 2) = true) → foldI l st = some st' → RdI st'
  | [], st, st', h, _, e => by cases e; exact h
  | x :: l, st, st', h, hx, e => by
    rw [foldI_cons] at e
    cases hs : stepI st x with
    | none => rw [hs] at e; cases e
    | some s2 =>
      rw [hs] at e
      exact RdI.fold l s2 st' (h.step (hx x List.mem_cons_self) hs) (fun y hy => hx y (List.mem_cons_of_mem _ hy)) e
theorem decR_wf (L : List UInt8) : (decR L).1.wf ∧ (decR L).1.bl.length ≤ 32 := by
  unfold decR
  split
  · exact ⟨⟨by decide, by decide, by decide, by decide, fun p hp => by cases hp⟩, by decide⟩
  · split
    · exact ⟨⟨by decide, by decide, by decide, by decide, fun p hp => by cases hp⟩, by decide⟩
    · rename_i o ho
      rw [decL_I] at ho
      cases hf : foldI (scan L) (noneO, []) with
      | none => rw [hf] at ho; cases ho
      | some st =>
        rw [hf] at ho
        cases ho
        have := RdI.fold (scan L) _ _ ⟨⟨by decide, by decide, by decide, by decide, fun p hp => by cases hp⟩, fun _ => rfl, by decide⟩ (scanF_ok _ _) hf
        exact ⟨this.wf, this.len⟩
theorem sgL_wf (L : List UInt8) : (sgL L).wf :=
  ⟨hI_src L, Nat.mod_lt _ (by decide), hI_dst L, Nat.mod_lt _ (by decide), numL_lt32 _, numL_lt32 _, UInt8.toNat_lt _, Nat.mod_lt _ (by decide), (decR_wf _).1⟩
theorem zeroSg_wf : zeroSg.wf := ⟨by decide, by decide, by decide, by decide, by decide, by decide, by decide, by decide, ⟨by decide, by decide, by decide, by decide, fun p hp => by cases hp⟩⟩
theorem pdecR_wf (L : List UInt8) : (pdecR L).1.wf ∧ (pdecR L).1.o.bl.length ≤ 32 := by
  unfold pdecR
  split
  · exact ⟨sgL_wf L, (decR_wf _).2⟩
  · exact ⟨zeroSg_wf, by show 0 ≤ 32; omega⟩
end Go.Proofs.Ytengegcnocdkoaa
end
