/- Layer 7 (opt), in plain Lean: options' bytes, turned. -/
import Derived.Test.YtimepplfaaddeaaOptScan
set_option linter.unusedVariables false
set_option linter.unusedSimpArgs false
namespace Go.Proofs.Ytimepplfaaddeaa

def addWF (d : Nat) : Nat → List UInt8 → List UInt8
  | 0, _ => []
  | f + 1, B => if B = [] then [] else be4 ((numL (B.take 4) + d) % 4294967296) ++ addWF d f (B.drop 4)
def tb (bl va ec k : Nat) (B : List UInt8) : List UInt8 :=
  if k = 8 then be4 ((numL (B.take 4) + va) % 4294967296) ++ be4 ((numL (B.drop 4) + ec) % 4294967296)
  else if k = 5 then addWF bl B.length B else B
def turnF (t : Nat → List UInt8 → List UInt8) : Nat → List UInt8 → List UInt8
  | 0, L => L
  | _ + 1, [] => []
  | f + 1, k :: r => if k.toNat = 0 then k :: r else if k.toNat = 1 then k :: turnF t f r else
    match r with
    | [] => [k]
    | n :: b => if longB k.toNat n.toNat = true ∧ n.toNat ≤ b.length + 2 then k :: n :: (t k.toNat (b.take (n.toNat - 2)) ++ turnF t f (b.drop (n.toNat - 2))) else k :: n :: b
section
variable (t : Nat → List UInt8 → List UInt8) (f : Nat)
theorem turnF_zero {k : UInt8} (r : List UInt8) (h : k.toNat = 0) : turnF t (f + 1) (k :: r) = k :: r := by cases r <;> simp [turnF, h]
theorem turnF_one {k : UInt8} (r : List UInt8) (h : k.toNat = 1) : turnF t (f + 1) (k :: r) = k :: turnF t f r := by cases r <;> simp [turnF, h]
theorem turnF_end {k : UInt8} (h0 : k.toNat ≠ 0) (h1 : k.toNat ≠ 1) : turnF t (f + 1) [k] = [k] := by simp only [turnF]; rw [if_neg h0, if_neg h1]
theorem turnF_opt {k n : UInt8} {b : List UInt8} (h0 : k.toNat ≠ 0) (h1 : k.toNat ≠ 1) (hc : longB k.toNat n.toNat = true ∧ n.toNat ≤ b.length + 2) : turnF t (f + 1) (k :: n :: b) = k :: n :: (t k.toNat (b.take (n.toNat - 2)) ++ turnF t f (b.drop (n.toNat - 2))) := by simp only [turnF]; rw [if_neg h0, if_neg h1, if_pos hc]
theorem turnF_bad {k n : UInt8} {b : List UInt8} (h0 : k.toNat ≠ 0) (h1 : k.toNat ≠ 1) (hc : ¬ (longB k.toNat n.toNat = true ∧ n.toNat ≤ b.length + 2)) : turnF t (f + 1) (k :: n :: b) = k :: n :: b := by simp only [turnF]; rw [if_neg h0, if_neg h1, if_neg hc]
end
def LenT (t : Nat → List UInt8 → List UInt8) : Prop := ∀ k B, longB k (B.length + 2) = true → (t k B).length = B.length
/-- the bytes of an option that may be -/
theorem opt_body {k n : UInt8} {b : List UInt8} (hc : longB k.toNat n.toNat = true ∧ n.toNat ≤ b.length + 2) : (b.take (n.toNat - 2)).length + 2 = n.toNat := by
  have := longB_two hc.1
  rw [List.length_take]
  omega
theorem turnF_len {t : Nat → List UInt8 → List UInt8} (ht : LenT t) : ∀ (f : Nat) (L : List UInt8), (turnF t f L).length = L.length := by
  intro f
  induction f with
  | zero => intro L; rfl
  | succ f ih =>
    intro L
    match L with
    | [] => rfl
    | [k] =>
      by_cases h0 : k.toNat = 0
      · rw [turnF_zero _ _ _ h0]
      by_cases h1 : k.toNat = 1
      · rw [turnF_one _ _ _ h1, List.length_cons, ih]; rfl
      rw [turnF_end _ _ h0 h1]
    | k :: n :: b =>
      by_cases h0 : k.toNat = 0
      · rw [turnF_zero _ _ _ h0]
      by_cases h1 : k.toNat = 1
      · rw [turnF_one _ _ _ h1, List.length_cons, ih]; rfl
      by_cases hc : longB k.toNat n.toNat = true ∧ n.toNat ≤ b.length + 2
      · have hb := opt_body hc
        rw [turnF_opt _ _ h0 h1 hc, List.length_cons, List.length_cons, List.length_append, ih, ht _ _ (by rw [hb]; exact hc.1), List.length_cons, List.length_cons, List.length_take, List.length_drop]
        omega
      · rw [turnF_bad _ _ h0 h1 hc]
theorem scan_turnF {t : Nat → List UInt8 → List UInt8} (ht : LenT t) : ∀ (f : Nat) (L : List UInt8), scanF f (turnF t f L) = (scanF f L).map fun x => (x.1, x.2.map (t x.1)) := by
  intro f
  induction f with
  | zero => intro L; rfl
  | succ f ih =>
    intro L
    match L with
    | [] => rfl
    | [k] =>
      by_cases h0 : k.toNat = 0
      · rw [turnF_zero _ _ _ h0, scanF_zero _ _ h0]; rfl
      by_cases h1 : k.toNat = 1
      · rw [turnF_one _ _ _ h1, scanF_one _ _ h1, scanF_one _ _ h1, ih]
      rw [turnF_end _ _ h0 h1, scanF_end _ h0 h1]
      rfl
    | k :: n :: b =>
      by_cases h0 : k.toNat = 0
      · rw [turnF_zero _ _ _ h0, scanF_zero _ _ h0]; rfl
      by_cases h1 : k.toNat = 1
      · rw [turnF_one _ _ _ h1, scanF_one _ _ h1, scanF_one _ _ h1, ih]
      by_cases hc : longB k.toNat n.toNat = true ∧ n.toNat ≤ b.length + 2
      · have hb := opt_body hc
        have hl := ht k.toNat _ (by rw [hb]; exact hc.1)
        rw [turnF_opt _ _ h0 h1 hc, scanF_opt _ h0 h1 hc, scanF_opt _ h0 h1 ⟨hc.1, by rw [List.length_append, hl, turnF_len ht, List.length_drop]; omega⟩, List.map_cons]
        rw [List.take_left' (by rw [hl]; omega), List.drop_left' (by rw [hl]; omega), ih]
        rfl
      · rw [turnF_bad _ _ h0 h1 hc, scanF_bad _ h0 h1 hc]
        rfl
theorem turn_turnF {t u : Nat → List UInt8 → List UInt8} (ht : LenT t) (hu : ∀ k B, longB k (B.length + 2) = true → u k (t k B) = B) : ∀ (f : Nat) (L : List UInt8), turnF u f (turnF t f L) = L := by
  intro f
  induction f with
  | zero => intro L; rfl
  | succ f ih =>
    intro L
    match L with
    | [] => rfl
    | [k] =>
      by_cases h0 : k.toNat = 0
      · rw [turnF_zero _ _ _ h0, turnF_zero _ _ _ h0]
      by_cases h1 : k.toNat = 1
      · rw [turnF_one _ _ _ h1, turnF_one _ _ _ h1, ih]
      rw [turnF_end _ _ h0 h1, turnF_end _ _ h0 h1]
    | k :: n :: b =>
      by_cases h0 : k.toNat = 0
      · rw [turnF_zero _ _ _ h0, turnF_zero _ _ _ h0]
      by_cases h1 : k.toNat = 1
      · rw [turnF_one _ _ _ h1, turnF_one _ _ _ h1, ih]
      by_cases hc : longB k.toNat n.toNat = true ∧ n.toNat ≤ b.length + 2
      · have hb := opt_body hc
        have hl := ht k.toNat _ (by rw [hb]; exact hc.1)
        rw [turnF_opt _ _ h0 h1 hc, turnF_opt _ _ h0 h1 ⟨hc.1, by rw [List.length_append, hl, turnF_len ht, List.length_drop]; omega⟩]
        rw [List.take_left' (by rw [hl]; omega), List.drop_left' (by rw [hl]; omega), ih, hu _ _ (by rw [hb]; exact hc.1), List.take_append_drop]
      · rw [turnF_bad _ _ h0 h1 hc, turnF_bad _ _ h0 h1 hc]
theorem scanF_ok : ∀ (f : Nat) (L : List UInt8), ∀ x ∈ scanF f L, ∀ B, x.2 = some B → longB x.1 (B.length + 2) = true := by
  intro f
  induction f with
  | zero => intro L x h; cases h
  | succ f ih =>
    intro L x hx B hB
    match L with
    | [] => cases hx
    | [k] =>
      simp only [scanF] at hx
      split at hx
      · cases hx
      split at hx
      · exact ih _ x hx B hB
      · simp at hx
        subst hx
        cases hB
    | k :: n :: b =>
      simp only [scanF] at hx
      split at hx
      · cases hx
      split at hx
      · exact ih _ x hx B hB
      split at hx
      · rename_i hc
        rcases List.mem_cons.1 hx with rfl | hx
        · injection hB with hB
          subst hB
          rw [opt_body hc]
          exact hc.1
        · exact ih _ x hx B hB
      · simp at hx
        subst hx
        cases hB

/-! the numbers in an option's bytes -/
theorem long8 {n : Nat} (h : longB 8 (n + 2) = true) : n = 8 := by
  unfold longB at h
  simp at h
  omega
theorem long5 {n : Nat} (h : longB 5 (n + 2) = true) : n = 8 ∨ n = 16 ∨ n = 24 ∨ n = 32 := by
  unfold longB at h
  simp at h
  omega
theorem take4_be4 (x : Nat) (r : List UInt8) : (be4 x ++ r).take 4 = be4 x := List.take_left' rfl
theorem drop4_be4 (x : Nat) (r : List UInt8) : (be4 x ++ r).drop 4 = r := List.drop_left' rfl
theorem numL_be4m (x : Nat) : numL (be4 (x % 4294967296)) = x % 4294967296 := numL_be4 (Nat.mod_lt _ (by decide))
theorem be4_ne (x : Nat) (r : List UInt8) : be4 x ++ r ≠ [] := by simp [be4]
theorem addWF_len (d : Nat) : ∀ (f : Nat) (B : List UInt8), B.length ≤ f → B.length % 4 = 0 → (addWF d f B).length = B.length := by
  intro f
  induction f with
  | zero =>
    intro B h _
    rw [addWF]
    simp at h
    rw [h]
  | succ f ih =>
    intro B h hm
    rw [addWF]
    by_cases hB : B = []
    · rw [if_pos hB, hB]
    · have hp : 0 < B.length := List.length_pos_iff.2 hB
      rw [if_neg hB, List.length_append, be4_len, ih _ (by rw [List.length_drop]; omega) (by rw [List.length_drop]; omega), List.length_drop]
      omega
theorem addWF_back (d e : Nat) (hde : (d + e) % 4294967296 = 0) : ∀ (f g : Nat) (B : List UInt8), B.length ≤ f → B.length ≤ g → B.length % 4 = 0 → addWF e g (addWF d f B) = B := by
  intro f
  induction f with
  | zero =>
    intro g B h hg _
    have hB : B = [] := by simpa using h
    subst hB
    rw [addWF]
    cases g <;> simp [addWF]
  | succ f ih =>
    intro g B h hg hm
    rw [addWF]
    by_cases hB : B = []
    · rw [if_pos hB, hB]
      cases g <;> simp [addWF]
    · have hp : 0 < B.length := List.length_pos_iff.2 hB
      cases g with
      | zero => omega
      | succ g =>
        rw [if_neg hB, addWF, if_neg (be4_ne _ _), take4_be4, drop4_be4, numL_be4m, ih g _ (by rw [List.length_drop]; omega) (by rw [List.length_drop]; omega) (by rw [List.length_drop]; omega)]
        have h4 : (B.take 4).length = 4 := by rw [List.length_take]; omega
        have hlt := numL_lt (B.take 4)
        rw [show ((numL (B.take 4) + d) % 4294967296 + e) % 4294967296 = numL (B.take 4) by omega, be4_numL h4, List.take_append_drop]
def tP (d : Nat) (p : Int × Int) : Int × Int := ((p.1 + (d : Int)) % 4294967296, (p.2 + (d : Int)) % 4294967296)
theorem blocksF_add (d : Nat) : ∀ (f g h : Nat) (B : List UInt8), B.length ≤ f → B.length ≤ g → B.length ≤ h → B.length % 8 = 0 → blocksF g (addWF d f B) = (blocksF h B).map (tP d) := by
  intro f
  induction f using Nat.strongRecOn with
  | ind f ih =>
    intro g h B hf hg hh hm
    by_cases hB : B = []
    · subst hB
      have h1 : addWF d f [] = [] := by cases f <;> simp [addWF]
      rw [h1]
      cases g <;> cases h <;> simp [blocksF]
    · have hp : 0 < B.length := List.length_pos_iff.2 hB
      obtain ⟨f, rfl⟩ : ∃ f', f = f' + 2 := ⟨f - 2, by omega⟩
      obtain ⟨g, rfl⟩ : ∃ g', g = g' + 1 := ⟨g - 1, by omega⟩
      obtain ⟨h, rfl⟩ : ∃ h', h = h' + 1 := ⟨h - 1, by omega⟩
      have hB4 : B.drop 4 ≠ [] := fun e => by have := congrArg List.length e; rw [List.length_drop] at this; simp at this; omega
      rw [addWF, if_neg hB, addWF, if_neg hB4, blocksF, if_neg (be4_ne _ _), take4_be4, drop4_be4, take4_be4]
      rw [blocksF, if_neg hB, List.map_cons]
      rw [show ∀ x y r, (be4 x ++ (be4 y ++ r)).drop 8 = r from fun x y r => by rw [← List.append_assoc]; exact List.drop_left' rfl]
      rw [List.drop_drop, show (4 + 4 : Nat) = 8 from rfl]
      rw [ih f (by omega) g h (B.drop 8) (by rw [List.length_drop]; omega) (by rw [List.length_drop]; omega) (by rw [List.length_drop]; omega) (by rw [List.length_drop]; omega)]
      rw [numL_be4m, numL_be4m]
      congr 1
theorem tb_len (bl va ec : Nat) : LenT (tb bl va ec) := by
  intro k B h
  unfold tb
  by_cases h8 : k = 8
  · subst h8
    rw [if_pos rfl, long8 h]
    rfl
  rw [if_neg h8]
  by_cases h5 : k = 5
  · subst h5
    rw [if_pos rfl]
    exact addWF_len _ _ _ (Nat.le_refl _) (by rcases long5 h with e | e | e | e <;> rw [e])
  rw [if_neg h5]
theorem tb_back {bl va ec bl' va' ec' : Nat} (h1 : (bl + bl') % 4294967296 = 0) (h2 : (va + va') % 4294967296 = 0) (h3 : (ec + ec') % 4294967296 = 0) : ∀ k B, longB k (B.length + 2) = true → tb bl' va' ec' k (tb bl va ec k B) = B := by
  intro k B h
  by_cases h8 : k = 8
  · subst h8
    have hl := long8 h
    unfold tb
    rw [if_pos rfl, if_pos rfl, take4_be4, drop4_be4, numL_be4m, numL_be4m]
    have e1 : (B.take 4).length = 4 := by rw [List.length_take]; omega
    have e2 : (B.drop 4).length = 4 := by rw [List.length_drop]; omega
    have l1 := numL_lt (B.take 4)
    have l2 := numL_lt (B.drop 4)
    rw [show ((numL (B.take 4) + va) % 4294967296 + va') % 4294967296 = numL (B.take 4) by omega, show ((numL (B.drop 4) + ec) % 4294967296 + ec') % 4294967296 = numL (B.drop 4) by omega, be4_numL e1, be4_numL e2, List.take_append_drop]
  by_cases h5 : k = 5
  · subst h5
    have hm : B.length % 4 = 0 := by rcases long5 h with e | e | e | e <;> rw [e]
    have hl : (addWF bl B.length B).length = B.length := addWF_len _ _ _ (Nat.le_refl _) hm
    unfold tb
    rw [if_neg h8, if_pos rfl, if_neg h8, if_pos rfl, hl]
    exact addWF_back _ _ h1 _ _ _ (Nat.le_refl _) (Nat.le_refl _) hm
  unfold tb
  rw [if_neg h8, if_neg h5, if_neg h8, if_neg h5]
/-- options, turned -/
def turnO (bl va ec : Nat) (o : Op) : Op := { o with bl := o.bl.map (tP bl), val := if o.time then (o.val + va) % 4294967296 else o.val, echo := if o.time then (o.echo + ec) % 4294967296 else o.echo }
def itT (bl va ec : Nat) (x : It) : It := (x.1, x.2.map (tb bl va ec x.1))
theorem stepI_turn (bl va ec : Nat) (st : Op × List Nat) (x : It) (hx : ∀ B, x.2 = some B → longB x.1 (B.length + 2) = true) : stepI (turnO bl va ec st.1, st.2) (itT bl va ec x) = (stepI st x).map fun s => (turnO bl va ec s.1, s.2) := by
  obtain ⟨k, B⟩ := x
  cases B with
  | none => rfl
  | some B =>
    have h := hx B rfl
    unfold stepI itT
    simp only [Option.map_some]
    by_cases hm : k ∈ st.2
    · rw [if_pos hm, if_pos hm]; rfl
    rw [if_neg hm, if_neg hm]
    have key : takeI (turnO bl va ec st.1) k (tb bl va ec k B) = (takeI st.1 k B).map (turnO bl va ec) := by
      have e : k ≠ 8 → k ≠ 5 → tb bl va ec k B = B := fun h8 h5 => by unfold tb; rw [if_neg h8, if_neg h5]
      unfold takeI
      by_cases h2 : k = 2
      · rw [if_pos h2, if_pos h2, e (by omega) (by omega)]
        split <;> rfl
      rw [if_neg h2, if_neg h2]
      by_cases h3 : k = 3
      · rw [if_pos h3, if_pos h3, e (by omega) (by omega)]
        rfl
      rw [if_neg h3, if_neg h3]
      by_cases h4 : k = 4
      · rw [if_pos h4, if_pos h4]
        rfl
      rw [if_neg h4, if_neg h4]
      by_cases h8 : k = 8
      · rw [if_pos h8, if_pos h8]
        unfold tb
        rw [if_pos h8, take4_be4, drop4_be4, numL_be4m, numL_be4m]
        rfl
      rw [if_neg h8, if_neg h8]
      by_cases h5 : k = 5
      · rw [if_pos h5, if_pos h5]
        subst h5
        have hm : B.length % 8 = 0 := by rcases long5 h with e | e | e | e <;> rw [e]
        have hl : (addWF bl B.length B).length = B.length := addWF_len _ _ _ (Nat.le_refl _) (by omega)
        unfold tb
        rw [if_neg h8, if_pos rfl, hl, blocksF_add bl _ _ _ B (Nat.le_refl _) (Nat.le_refl _) (Nat.le_refl _) hm]
        simp only [Option.map_some, turnO, List.map_append]
      rw [if_neg h5, if_neg h5]
      rfl
    rw [key]
    cases takeI st.1 k B <;> rfl
theorem foldI_turn (bl va ec : Nat) : ∀ (l : List It) (st : Op × List Nat), (∀ x ∈ l, ∀ B, x.2 = some B → longB x.1 (B.length + 2) = true) → foldI (l.map (itT bl va ec)) (turnO bl va ec st.1, st.2) = (foldI l st).map fun s => (turnO bl va ec s.1, s.2) := by
  intro l
  induction l with
  | nil => intro st _; rfl
  | cons x l ih =>
    intro st h
    rw [List.map_cons, foldI_cons, foldI_cons, stepI_turn _ _ _ _ _ (h x List.mem_cons_self)]
    cases stepI st x with
    | none => rfl
    | some s => exact ih s (fun y hy => h y (List.mem_cons_of_mem _ hy))
def turnL (bl va ec : Nat) (L : List UInt8) : List UInt8 := turnF (tb bl va ec) (L.length + 1) L
theorem turnL_len (bl va ec : Nat) (L : List UInt8) : (turnL bl va ec L).length = L.length := turnF_len (tb_len _ _ _) _ _
theorem dec_turn (bl va ec : Nat) (L : List UInt8) : decL (turnL bl va ec L) = (decL L).map (turnO bl va ec) := by
  rw [decL_I, decL_I]
  have h1 : scan (turnL bl va ec L) = (scan L).map (itT bl va ec) := by
    unfold scan
    rw [turnL_len]
    exact scan_turnF (tb_len _ _ _) _ _
  rw [h1]
  have h2 := foldI_turn bl va ec (scan L) (noneO, []) (scanF_ok _ _)
  rw [show turnO bl va ec noneO = noneO from rfl] at h2
  rw [h2]
  cases foldI (scan L) (noneO, []) <;> rfl
theorem turn_back {bl va ec bl' va' ec' : Nat} (h1 : (bl + bl') % 4294967296 = 0) (h2 : (va + va') % 4294967296 = 0) (h3 : (ec + ec') % 4294967296 = 0) (L : List UInt8) : turnL bl' va' ec' (turnL bl va ec L) = L := by
  have hl := turnL_len bl va ec L
  have : turnL bl' va' ec' (turnL bl va ec L) = turnF (tb bl' va' ec') (L.length + 1) (turnF (tb bl va ec) (L.length + 1) L) := by
    unfold turnL at hl ⊢
    rw [hl]
  rw [this]
  exact turn_turnF (tb_len _ _ _) (tb_back h1 h2 h3) _ _

/-! what the walks do, place by place -/
/-- four bytes, written over -/
def putL (M : List UInt8) (k : Nat) (x : Nat) : List UInt8 := M.take k ++ be4 x ++ M.drop (k + 4)
theorem putL_len {M : List UInt8} {k x : Nat} (h : k + 4 ≤ M.length) : (putL M k x).length = M.length := by
  unfold putL
  rw [List.length_append, List.length_append, be4_len, List.length_take, List.length_drop]
  omega
/-- the number that stands at a place -/
def atL (L : List UInt8) (k : Nat) : Nat := numL ((L.drop k).take 4)
theorem addL_put (L : List UInt8) (k d : Nat) : addL L k d = putL L k ((atL L k + d) % 4294967296) := rfl
/-- what a place's words become: the words of S from k on, written into M -/
def wordsL (S : List UInt8) (d : Nat) : Nat → Nat → List UInt8 → List UInt8
  | 0, _, M => M
  | n + 1, k, M => wordsL S d n (k + 4) (putL M k ((atL S k + d) % 4294967296))
/-- the program's way: it reads the text that came in -/
def stepO (L : List UInt8) (bl va ec : Nat) (M : List UInt8) (p : Nat × Nat) : List UInt8 :=
  if byteN L p.1 = 8 then putL (putL M (p.1 + 2) ((atL L (p.1 + 2) + va) % 4294967296)) (p.1 + 6) ((atL L (p.1 + 6) + ec) % 4294967296)
  else if byteN L p.1 = 5 then wordsL L bl ((p.2 - 2) / 4) (p.1 + 2) M else M
/-- the document's way: it reads what it has come to -/
def addsL (d : Nat) : Nat → Nat → List UInt8 → List UInt8
  | 0, _, M => M
  | n + 1, k, M => addsL d n (k + 4) (addL M k d)
def stepT (bl va ec : Nat) (M : List UInt8) (p : Nat × Nat) : List UInt8 :=
  if byteN M p.1 = 8 then addL (addL M (p.1 + 2) va) (p.1 + 6) ec
  else if byteN M p.1 = 5 then addsL bl ((p.2 - 2) / 4) (p.1 + 2) M else M
theorem drop_app (P R : List UInt8) (j : Nat) : (P ++ R).drop (P.length + j) = R.drop j := by
  rw [List.drop_append, List.drop_of_length_le (by omega), List.nil_append, Nat.add_sub_cancel_left]
theorem atL_app (P R : List UInt8) (j : Nat) : atL (P ++ R) (P.length + j) = atL R j := by
  unfold atL
  rw [drop_app]
theorem putL_app (P R : List UInt8) (j x : Nat) : putL (P ++ R) (P.length + j) x = P ++ putL R j x := by
  unfold putL
  rw [List.take_append, List.drop_append, List.take_of_length_le (by omega), List.drop_of_length_le (by omega)]
  simp only [Nat.add_sub_cancel_left, List.nil_append, List.append_assoc]
  rw [show P.length + j + 4 - P.length = j + 4 by omega]
theorem putL_zero (a b c d : UInt8) (r : List UInt8) (x : Nat) : putL (a :: b :: c :: d :: r) 0 x = be4 x ++ r := rfl
theorem atL_zero (B r : List UInt8) (h : 4 ≤ B.length) : atL (B ++ r) 0 = numL (B.take 4) := by
  unfold atL
  rw [List.drop_zero, List.take_append_of_le_length h]
theorem putL_head (B r : List UInt8) (x : Nat) (h : 4 ≤ B.length) : putL (B ++ r) 0 x = be4 x ++ (B.drop 4 ++ r) := by
  unfold putL
  rw [List.take_zero, List.nil_append, Nat.zero_add, List.drop_append_of_le_length h]
/-- words, in both ways: behind a head that is done, the rest of S and M is the same -/
theorem wordsL_do (S : List UInt8) (d : Nat) : ∀ (n f : Nat) (P Q B r : List UInt8), S = Q ++ (B ++ r) → Q.length = P.length → B.length = 4 * n → B.length ≤ f → wordsL S d n P.length (P ++ (B ++ r)) = P ++ (addWF d f B ++ r) := by
  intro n
  induction n with
  | zero =>
    intro f P Q B r _ _ hB _
    have : B = [] := List.length_eq_zero_iff.1 (by omega)
    subst this
    cases f <;> simp [wordsL, addWF]
  | succ n ih =>
    intro f P Q B r hS hQ hB hf
    have h4 : 4 ≤ B.length := by omega
    have hne : B ≠ [] := fun e => by rw [e] at h4; simp at h4
    obtain ⟨f, rfl⟩ : ∃ f', f = f' + 1 := ⟨f - 1, by omega⟩
    rw [wordsL]
    have h1 : atL S P.length = numL (B.take 4) := by
      rw [hS, ← hQ]
      have := atL_app Q (B ++ r) 0
      rw [Nat.add_zero] at this
      rw [this, atL_zero _ _ h4]
    have h2 : ∀ x, putL (P ++ (B ++ r)) P.length x = (P ++ be4 x) ++ (B.drop 4 ++ r) := fun x => by
      have := putL_app P (B ++ r) 0 x
      rw [Nat.add_zero] at this
      rw [this, putL_head _ _ _ h4, List.append_assoc]
    rw [h1, h2, addWF, if_neg hne]
    have h3 := ih f (P ++ be4 ((numL (B.take 4) + d) % 4294967296)) (Q ++ B.take 4) (B.drop 4) r (by rw [hS]; simp only [List.append_assoc]; rw [← List.append_assoc (B.take 4), List.take_append_drop]) (by rw [List.length_append, List.length_append, be4_len, List.length_take]; omega) (by rw [List.length_drop]; omega) (by rw [List.length_drop]; omega)
    rw [List.length_append, be4_len] at h3
    rw [h3]
    simp only [List.append_assoc]
theorem addsL_do (d : Nat) : ∀ (n f : Nat) (P B r : List UInt8), B.length = 4 * n → B.length ≤ f → addsL d n P.length (P ++ (B ++ r)) = P ++ (addWF d f B ++ r) := by
  intro n
  induction n with
  | zero =>
    intro f P B r hB _
    have : B = [] := List.length_eq_zero_iff.1 (by omega)
    subst this
    cases f <;> simp [addsL, addWF]
  | succ n ih =>
    intro f P B r hB hf
    have h4 : 4 ≤ B.length := by omega
    have hne : B ≠ [] := fun e => by rw [e] at h4; simp at h4
    obtain ⟨f, rfl⟩ : ∃ f', f = f' + 1 := ⟨f - 1, by omega⟩
    rw [addsL, addL_put]
    have h1 : atL (P ++ (B ++ r)) P.length = numL (B.take 4) := by
      have := atL_app P (B ++ r) 0
      rw [Nat.add_zero] at this
      rw [this, atL_zero _ _ h4]
    have h2 : ∀ x, putL (P ++ (B ++ r)) P.length x = (P ++ be4 x) ++ (B.drop 4 ++ r) := fun x => by
      have := putL_app P (B ++ r) 0 x
      rw [Nat.add_zero] at this
      rw [this, putL_head _ _ _ h4, List.append_assoc]
    rw [h1, h2, addWF, if_neg hne]
    have h3 := ih f (P ++ be4 ((numL (B.take 4) + d) % 4294967296)) (B.drop 4) r (by rw [List.length_drop]; omega) (by rw [List.length_drop]; omega)
    rw [List.length_append, be4_len] at h3
    rw [h3]
    simp only [List.append_assoc]
theorem byteN_app {P R : List UInt8} {k : UInt8} : byteN (P ++ k :: R) P.length = k.toNat := by
  unfold byteN
  rw [List.getElem?_append_right (Nat.le_refl _), Nat.sub_self]
  rfl
theorem stepO_do (L : List UInt8) (bl va ec : Nat) (P Q : List UInt8) (k n : UInt8) (B r : List UInt8) (hL : L = Q ++ (k :: n :: (B ++ r))) (hQ : Q.length = P.length) (hl : longB k.toNat n.toNat = true) (hn : B.length + 2 = n.toNat) :
    stepO L bl va ec (P ++ (k :: n :: (B ++ r))) (P.length, n.toNat) = P ++ (k :: n :: (tb bl va ec k.toNat B ++ r)) := by
  have hk : byteN L P.length = k.toNat := by rw [hL, ← hQ]; exact byteN_app
  rw [← hn] at hl
  unfold stepO tb
  simp only []
  rw [hk]
  by_cases h8 : k.toNat = 8
  · rw [if_pos h8, if_pos h8]
    rw [h8] at hl
    have hB := long8 hl
    match B, hB with
    | [b0, b1, b2, b3, b4, b5, b6, b7], _ =>
      have a1 : atL L (P.length + 2) = numL [b0, b1, b2, b3] := by rw [hL, ← hQ, atL_app]; rfl
      have a2 : atL L (P.length + 6) = numL [b4, b5, b6, b7] := by rw [hL, ← hQ, atL_app]; rfl
      rw [a1, a2, putL_app, putL_app]
      rfl
  rw [if_neg h8, if_neg h8]
  by_cases h5 : k.toNat = 5
  · rw [if_pos h5, if_pos h5]
    rw [h5] at hl
    have hB := long5 hl
    have h3 := wordsL_do L bl ((n.toNat - 2) / 4) B.length (P ++ [k, n]) (Q ++ [k, n]) B r (by rw [hL]; simp) (by simp [hQ]) (by omega) (Nat.le_refl _)
    simp only [List.length_append, List.length_cons, List.length_nil, List.append_assoc, List.cons_append, List.nil_append] at h3
    exact h3
  rw [if_neg h5, if_neg h5]
theorem stepR_do (bl va ec : Nat) (P : List UInt8) (k n : UInt8) (B r : List UInt8) (hl : longB k.toNat n.toNat = true) (hn : B.length + 2 = n.toNat) :
    stepT bl va ec (P ++ (k :: n :: (B ++ r))) (P.length, n.toNat) = P ++ (k :: n :: (tb bl va ec k.toNat B ++ r)) := by
  have hk : byteN (P ++ (k :: n :: (B ++ r))) P.length = k.toNat := byteN_app
  rw [← hn] at hl
  unfold stepT tb
  simp only []
  rw [hk]
  by_cases h8 : k.toNat = 8
  · rw [if_pos h8, if_pos h8]
    rw [h8] at hl
    have hB := long8 hl
    match B, hB with
    | [b0, b1, b2, b3, b4, b5, b6, b7], _ =>
      rw [addL_put (P ++ _) (P.length + 2), atL_app, putL_app, addL_put (P ++ _) (P.length + 6), atL_app, putL_app]
      rfl
  rw [if_neg h8, if_neg h8]
  by_cases h5 : k.toNat = 5
  · rw [if_pos h5, if_pos h5]
    rw [h5] at hl
    have hB := long5 hl
    have h3 := addsL_do bl ((n.toNat - 2) / 4) B.length (P ++ [k, n]) B r (by omega) (Nat.le_refl _)
    simp only [List.length_append, List.length_cons, List.length_nil, List.append_assoc, List.cons_append, List.nil_append] at h3
    exact h3
  rw [if_neg h5, if_neg h5]
/-- .. and of all places together: the bytes, turned (where each place may be) -/
theorem steps_do (L : List UInt8) (bl va ec : Nat) (st : List UInt8 → Nat × Nat → List UInt8)
    (hst : ∀ (P Q : List UInt8) (k n : UInt8) (B r : List UInt8), L = Q ++ (k :: n :: (B ++ r)) → Q.length = P.length → longB k.toNat n.toNat = true → B.length + 2 = n.toNat → st (P ++ (k :: n :: (B ++ r))) (P.length, n.toNat) = P ++ (k :: n :: (tb bl va ec k.toNat B ++ r))) :
    ∀ (f : Nat) (P Q S : List UInt8), L = Q ++ S → Q.length = P.length → (∀ p ∈ placesF f L P.length, p.2 ≠ 0) → (placesF f L P.length).foldl st (P ++ S) = P ++ turnF (tb bl va ec) f S := by
  intro f
  induction f with
  | zero => intro P Q S _ _ _; rfl
  | succ f ih =>
    intro P Q S hL hQ hok
    have hd : L.drop P.length = S := by rw [hL, ← hQ]; exact List.drop_left
    rw [placesF] at hok ⊢
    match S with
    | [] =>
      have : L.length ≤ P.length := List.drop_eq_nil_iff.1 hd
      rw [if_neg (fun h => by omega)]
      rfl
    | [k] =>
      have hk := byteN_drop hd
      have hl := drop_lt hd
      by_cases h0 : k.toNat = 0
      · rw [if_neg (fun h => h.2 (hk.trans h0)), turnF_zero _ _ _ h0]
        rfl
      rw [if_pos ⟨by omega, by rw [hk]; exact h0⟩] at hok ⊢
      by_cases h1 : k.toNat = 1
      · rw [if_pos (hk.trans h1)] at hok ⊢
        rw [turnF_one _ _ _ h1]
        have h3 := ih (P ++ [k]) (Q ++ [k]) [] (by rw [hL]; simp) (by simp [hQ]) (by simpa using hok)
        simp only [List.length_append, List.length_cons, List.length_nil, List.append_assoc, List.cons_append, List.nil_append] at h3
        exact h3
      rw [if_neg (by rw [hk]; exact h1)] at hok
      exact absurd (stepN_drop1 hd) (hok _ List.mem_cons_self)
    | k :: n :: b =>
      have hk := byteN_drop hd
      have hl := drop_lt hd
      by_cases h0 : k.toNat = 0
      · rw [if_neg (fun h => h.2 (hk.trans h0)), turnF_zero _ _ _ h0]
        rfl
      rw [if_pos ⟨by omega, by rw [hk]; exact h0⟩] at hok ⊢
      by_cases h1 : k.toNat = 1
      · rw [if_pos (hk.trans h1)] at hok ⊢
        rw [turnF_one _ _ _ h1]
        have h3 := ih (P ++ [k]) (Q ++ [k]) (n :: b) (by rw [hL]; simp) (by simp [hQ]) (by simpa using hok)
        simp only [List.length_append, List.length_cons, List.length_nil, List.append_assoc, List.cons_append, List.nil_append] at h3
        exact h3
      rw [if_neg (by rw [hk]; exact h1)] at hok ⊢
      have hs := stepN_drop2 hd
      by_cases hc : longB k.toNat n.toNat = true ∧ n.toNat ≤ b.length + 2
      · rw [if_pos hc] at hs
        have h2 := longB_two hc.1
        have hB := opt_body hc
        rw [hs, if_neg (by omega)] at hok ⊢
        rw [List.foldl_cons, turnF_opt _ _ h0 h1 hc]
        have hb := (List.take_append_drop (n.toNat - 2) b).symm
        generalize hB1 : b.take (n.toNat - 2) = B at *
        generalize hB2 : b.drop (n.toNat - 2) = r at *
        rw [hb] at hL ⊢
        rw [hst P Q k n B r hL hQ hc.1 hB]
        have htl := tb_len bl va ec k.toNat B (by rw [hB]; exact hc.1)
        have h3 := ih (P ++ (k :: n :: tb bl va ec k.toNat B)) (Q ++ (k :: n :: B)) r (by rw [hL]; simp) (by simp [hQ, htl]) (by
          intro p hp
          refine hok p (List.mem_cons_of_mem _ ?_)
          have e : (P ++ (k :: n :: tb bl va ec k.toNat B)).length = P.length + n.toNat := by
            simp only [List.length_append, List.length_cons, htl]
            omega
          rw [e] at hp
          exact hp)
        have e : (P ++ (k :: n :: tb bl va ec k.toNat B)).length = P.length + n.toNat := by
          simp only [List.length_append, List.length_cons, htl]
          omega
        rw [e] at h3
        simp only [List.append_assoc, List.cons_append] at h3
        exact h3
      · rw [if_neg hc] at hs
        exact absurd hs (hok _ List.mem_cons_self)
theorem stepsO (L : List UInt8) (bl va ec : Nat) (hok : ∀ p ∈ placesAt L 0, p.2 ≠ 0) : (placesAt L 0).foldl (stepO L bl va ec) L = turnL bl va ec L := by
  have := steps_do L bl va ec (stepO L bl va ec) (fun P Q k n B r h1 h2 h3 h4 => stepO_do L bl va ec P Q k n B r h1 h2 h3 h4) (L.length - 0 + 1) [] [] L rfl rfl hok
  exact this
theorem stepsT (L : List UInt8) (bl va ec : Nat) (hok : ∀ p ∈ placesAt L 0, p.2 ≠ 0) : (placesAt L 0).foldl (stepT bl va ec) L = turnL bl va ec L := by
  have := steps_do L bl va ec (stepT bl va ec) (fun P Q k n B r h1 h2 h3 h4 => stepR_do bl va ec P k n B r h3 h4) (L.length - 0 + 1) [] [] L rfl rfl hok
  exact this
/-- what is read has no place that may not be -/
theorem places_fine {L : List UInt8} {o : Op} (h : decL L = some o) : ∀ p ∈ placesAt L 0, p.2 ≠ 0 := by
  intro p hp h0
  obtain ⟨l1, l2, he⟩ := List.append_of_mem hp
  unfold decL at h
  rw [he] at h
  unfold foldD at h
  rw [List.foldlM_append] at h
  cases h1 : l1.foldlM (stepD L) (noneO, []) with
  | none => rw [h1] at h; simp at h
  | some s =>
    rw [h1] at h
    rw [show (some s >>= fun s => List.foldlM (stepD L) s (p :: l2)) = List.foldlM (stepD L) s (p :: l2) from rfl, List.foldlM_cons] at h
    have : stepD L s p = none := by unfold stepD; rw [if_pos (.inl h0)]
    rw [this] at h
    cases h
/-- ahead of a place that is still to come nothing has turned behind that place -/
theorem steps_pre (L : List UInt8) (bl va ec : Nat) (st : List UInt8 → Nat × Nat → List UInt8)
    (hst : ∀ (P Q : List UInt8) (k n : UInt8) (B r : List UInt8), L = Q ++ (k :: n :: (B ++ r)) → Q.length = P.length → longB k.toNat n.toNat = true → B.length + 2 = n.toNat → st (P ++ (k :: n :: (B ++ r))) (P.length, n.toNat) = P ++ (k :: n :: (tb bl va ec k.toNat B ++ r))) :
    ∀ (f : Nat) (P Q S : List UInt8) (l1 : List (Nat × Nat)) (p : Nat × Nat) (l2 : List (Nat × Nat)), L = Q ++ S → Q.length = P.length → (∀ p ∈ placesF f L P.length, p.2 ≠ 0) → placesF f L P.length = l1 ++ p :: l2 →
      ∃ P' Q' S', L = Q' ++ S' ∧ Q'.length = P'.length ∧ p.1 = P'.length ∧ l1.foldl st (P ++ S) = P' ++ S' := by
  intro f
  induction f with
  | zero => intro P Q S l1 p l2 _ _ _ h; simp [placesF] at h
  | succ f ih =>
    intro P Q S l1 p l2 hL hQ hok h
    have hd : L.drop P.length = S := by rw [hL, ← hQ]; exact List.drop_left
    rw [placesF] at hok h
    match S with
    | [] =>
      have : L.length ≤ P.length := List.drop_eq_nil_iff.1 hd
      rw [if_neg (fun h => by omega)] at h
      simp at h
    | [k] =>
      have hk := byteN_drop hd
      have hl := drop_lt hd
      by_cases h0 : k.toNat = 0
      · rw [if_neg (fun h => h.2 (hk.trans h0))] at h
        simp at h
      rw [if_pos ⟨by omega, by rw [hk]; exact h0⟩] at hok h
      by_cases h1 : k.toNat = 1
      · rw [if_pos (hk.trans h1)] at hok h
        have h3 := ih (P ++ [k]) (Q ++ [k]) [] l1 p l2 (by rw [hL]; simp) (by simp [hQ]) (by simpa using hok) (by simpa using h)
        simp only [List.append_assoc, List.cons_append, List.nil_append] at h3
        exact h3
      rw [if_neg (by rw [hk]; exact h1)] at hok
      exact absurd (stepN_drop1 hd) (hok _ List.mem_cons_self)
    | k :: n :: b =>
      have hk := byteN_drop hd
      have hl := drop_lt hd
      by_cases h0 : k.toNat = 0
      · rw [if_neg (fun h => h.2 (hk.trans h0))] at h
        simp at h
      rw [if_pos ⟨by omega, by rw [hk]; exact h0⟩] at hok h
      by_cases h1 : k.toNat = 1
      · rw [if_pos (hk.trans h1)] at hok h
        have h3 := ih (P ++ [k]) (Q ++ [k]) (n :: b) l1 p l2 (by rw [hL]; simp) (by simp [hQ]) (by simpa using hok) (by simpa using h)
        simp only [List.append_assoc, List.cons_append, List.nil_append] at h3
        exact h3
      rw [if_neg (by rw [hk]; exact h1)] at hok h
      have hs := stepN_drop2 hd
      by_cases hc : longB k.toNat n.toNat = true ∧ n.toNat ≤ b.length + 2
      · rw [if_pos hc] at hs
        have h2 := longB_two hc.1
        have hB := opt_body hc
        rw [hs, if_neg (by omega)] at hok h
        cases l1 with
        | nil =>
          injection h with h _
          subst h
          exact ⟨P, Q, k :: n :: b, hL, hQ, rfl, rfl⟩
        | cons q l1 =>
          injection h with hq h
          subst hq
          rw [List.foldl_cons]
          have hb := (List.take_append_drop (n.toNat - 2) b).symm
          generalize hB1 : b.take (n.toNat - 2) = B at *
          generalize hB2 : b.drop (n.toNat - 2) = r at *
          rw [hb] at hL ⊢
          rw [hst P Q k n B r hL hQ hc.1 hB]
          have htl := tb_len bl va ec k.toNat B (by rw [hB]; exact hc.1)
          have e : (P ++ (k :: n :: tb bl va ec k.toNat B)).length = P.length + n.toNat := by
            simp only [List.length_append, List.length_cons, htl]
            omega
          have h3 := ih (P ++ (k :: n :: tb bl va ec k.toNat B)) (Q ++ (k :: n :: B)) r l1 p l2 (by rw [hL]; simp) (by simp [hQ, htl]) (by
            intro p hp
            rw [e] at hp
            exact hok p (List.mem_cons_of_mem _ hp)) (by rw [e]; exact h)
          simp only [List.append_assoc, List.cons_append] at h3
          exact h3
      · rw [if_neg hc] at hs
        exact absurd hs (hok _ List.mem_cons_self)
theorem preT (L : List UInt8) (bl va ec : Nat) (hok : ∀ p ∈ placesAt L 0, p.2 ≠ 0) {l1 l2 : List (Nat × Nat)} {p : Nat × Nat} (h : placesAt L 0 = l1 ++ p :: l2) :
    ∃ P' Q' S', L = Q' ++ S' ∧ Q'.length = P'.length ∧ p.1 = P'.length ∧ l1.foldl (stepT bl va ec) L = P' ++ S' :=
  steps_pre L bl va ec (stepT bl va ec) (fun P Q k n B r h1 h2 h3 h4 => stepR_do bl va ec P k n B r h3 h4) (L.length - 0 + 1) [] [] L l1 p l2 rfl rfl hok h
theorem byteN_appd (P S : List UInt8) (i : Nat) : byteN (P ++ S) (P.length + i) = byteN S i := by
  unfold byteN
  rw [List.getElem?_append_right (by omega), Nat.add_sub_cancel_left]
/-- .. so the kind and the length that stand there are those that came in -/
theorem preT_byte (L : List UInt8) (bl va ec : Nat) (hok : ∀ p ∈ placesAt L 0, p.2 ≠ 0) {l1 l2 : List (Nat × Nat)} {p : Nat × Nat} (h : placesAt L 0 = l1 ++ p :: l2) :
    (l1.foldl (stepT bl va ec) L).length = L.length ∧ ∀ i, byteN (l1.foldl (stepT bl va ec) L) (p.1 + i) = byteN L (p.1 + i) := by
  obtain ⟨P, Q, S, h1, h2, h3, h4⟩ := preT L bl va ec hok h
  rw [h4]
  refine ⟨?_, fun i => ?_⟩
  · rw [h1, List.length_append, List.length_append, h2]
  · rw [h3, byteN_appd, h1, ← h2, byteN_appd]
theorem addL_len {M : List UInt8} {k d : Nat} (h : k + 4 ≤ M.length) : (addL M k d).length = M.length := by rw [addL_put]; exact putL_len h
theorem addL_low {M : List UInt8} {k d i : Nat} (h : k + 4 ≤ M.length) (hi : i < k) : byteN (addL M k d) i = byteN M i := by
  rw [addL_put]
  unfold putL byteN
  rw [List.append_assoc, List.getElem?_append_left (by rw [List.length_take]; omega), List.getElem?_take_of_lt hi]
/-- words, each with a number of its own -/
def putsL (S : List UInt8) (f : Nat → Nat) : Nat → Nat → Nat → List UInt8 → List UInt8
  | 0, _, _, M => M
  | n + 1, j, k, M => putsL S f n (j + 1) (k + 4) (putL M k ((atL S k + f j) % 4294967296))
theorem putsL_words (S : List UInt8) (d : Nat) : ∀ (n j k : Nat) (M : List UInt8), putsL S (fun _ => d) n j k M = wordsL S d n k M := by
  intro n
  induction n with
  | zero => intro j k M; rfl
  | succ n ih => intro j k M; exact ih (j + 1) (k + 4) _
theorem stepO_time {L M : List UInt8} {bl va ec i m : Nat} (h : byteN L i = 8) : stepO L bl va ec M (i, m) = putsL L (fun j => if j = 0 then va else ec) 2 0 (i + 2) M := by
  unfold stepO
  simp only [h]
  rw [if_pos trivial]
  rfl
theorem stepO_blocks {L M : List UInt8} {bl va ec i m : Nat} (h : byteN L i = 5) : stepO L bl va ec M (i, m) = putsL L (fun _ => bl) ((m - 2) / 4) 0 (i + 2) M := by
  unfold stepO
  simp only [h]
  rw [if_neg (by decide), if_pos trivial, putsL_words]
theorem stepO_other {L M : List UInt8} {bl va ec i m : Nat} (h8 : byteN L i ≠ 8) (h5 : byteN L i ≠ 5) : stepO L bl va ec M (i, m) = M := by
  unfold stepO
  simp only []
  rw [if_neg h8, if_neg h5]
theorem wordsL_len (S : List UInt8) (d : Nat) : ∀ (n k : Nat) (M : List UInt8), k + 4 * n ≤ M.length → (wordsL S d n k M).length = M.length := by
  intro n
  induction n with
  | zero => intro k M _; rfl
  | succ n ih =>
    intro k M h
    have h1 : (putL M k ((atL S k + d) % 4294967296)).length = M.length := putL_len (by omega)
    rw [wordsL, ih _ _ (by rw [h1]; omega), h1]
theorem stepO_len {L M : List UInt8} (bl va ec : Nat) {p : Nat × Nat} (ok : OkP L p) (h0 : p.2 ≠ 0) (hM : M.length = L.length) : (stepO L bl va ec M p).length = L.length := by
  obtain ⟨i, m⟩ := p
  obtain ⟨q1, q2, q3, q4⟩ := ok
  dsimp only at q1 q2 q3 q4 h0
  obtain ⟨r1, r2, r3, r4, r5⟩ := stepN_pos (L := L) (i := i) (by rw [← q4]; exact h0)
  rw [← q4] at r3 r4 r5
  rw [← r4] at r2
  by_cases h8 : byteN L i = 8
  · rw [h8] at r2
    have hm : m = 10 := by simpa [longB] using r2
    unfold stepO
    simp only [h8]
    rw [if_pos trivial, putL_len, putL_len, hM]
    · omega
    · rw [putL_len] <;> omega
  by_cases h5 : byteN L i = 5
  · unfold stepO
    simp only [h5]
    rw [if_neg (by decide), if_pos trivial, wordsL_len, hM]
    omega
  rw [stepO_other h8 h5, hM]
theorem foldO_len {L : List UInt8} (bl va ec : Nat) : ∀ (l : List (Nat × Nat)) (M : List UInt8), (∀ p ∈ l, OkP L p ∧ p.2 ≠ 0) → M.length = L.length → (l.foldl (stepO L bl va ec) M).length = L.length := by
  intro l
  induction l with
  | nil => intro M _ h; exact h
  | cons p l ih =>
    intro M h hM
    rw [List.foldl_cons]
    exact ih _ (fun q hq => h q (List.mem_cons_of_mem _ hq)) (stepO_len bl va ec (h p List.mem_cons_self).1 (h p List.mem_cons_self).2 hM)
end Go.Proofs.Ytimepplfaaddeaa
