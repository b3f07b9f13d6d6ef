/- Contracts and plain lemmas: PktRewL, PktRewD, PktRew, PktRewO, OptSame, PktSame, OptSameA. -/
import Derived.Deep.QuietTactic
import Derived.BigQuiet
import Derived.LoopTactic
import Derived.Deep.MidRow
import Derived.Test.YtengegcnocdkoaaRe9
import Derived.Test.YtengegcnocdkoaaRe6
import Derived.Test.YtengegcnocdkoaaRe10
import Derived.Test.YtengegcnocdkoaaRe7
import Derived.Test.YtengegcnocdkoaaRe4
set_option linter.unusedVariables false
set_option linter.unusedSimpArgs false
set_option linter.unusedSectionVars false
section
set_option maxRecDepth 20000
namespace Go.Proofs.Ytengegcnocdkoaa
open Go.RowKit
theorem layM_app {A B C t : List UInt8} {i : Nat} (hA : A.length = i) (hB : B.length = t.length) : layM (A ++ (B ++ C)) i t = A ++ (t ++ C) := by
  subst hA
  unfold layM
  rw [List.take_left, ← hB, ← List.length_append, ← List.append_assoc A B C, List.drop_left, List.append_assoc]
theorem old_app {A B C t : List UInt8} {i : Nat} (hA : A.length = i) (hB : B.length = t.length) : ((A ++ (B ++ C)).drop i).take t.length = B := by
  rw [List.drop_left' hA, List.take_left' hB]
/-! checksums that are turned along -/
theorem turnL_mod {s was now : Nat} (hs : s ≤ 65535) (hw : was ≤ 65535) : (turnL s was now + now) % 65535 = (s + was) % 65535 := by
  unfold turnL nrm
  split <;> omega
theorem turnsL_mod : ∀ (P : List (Nat × Nat)) (s : Nat), s ≤ 65535 → (∀ p ∈ P, p.1 ≤ 65535) → (turnsL s P + (P.map Prod.snd).sum) % 65535 = (s + (P.map Prod.fst).sum) % 65535
  | [], s, _, _ => rfl
  | p :: ps, s, hs, hp => by
    have h1 := turnL_mod (s := s) (was := p.1) (now := p.2) hs (hp p (by simp))
    have h2 := turnsL_mod ps (turnL s p.1 p.2) (turnL_le _ _ _) (fun q hq => hp q (by simp [hq]))
    simp only [List.map_cons, List.sum_cons]
    show (turnsL (turnL s p.1 p.2) ps + _) % 65535 = _
    omega
theorem zip_fst {o t : List UInt8} (h : o.length = t.length) : ((wordsL o).zip (wordsL t)).map Prod.fst = wordsL o := List.map_fst_zip (by rw [wordsL_length, wordsL_length, h]; exact Nat.le_refl _)
theorem zip_snd {o t : List UInt8} (h : o.length = t.length) : ((wordsL o).zip (wordsL t)).map Prod.snd = wordsL t := List.map_snd_zip (by rw [wordsL_length, wordsL_length, h]; exact Nat.le_refl _)
def wsum (l : List UInt8) : Nat := (wordsL l).sum
theorem sumT_mod {s : Nat} {o t : List UInt8} (hs : s ≤ 65535) (h : o.length = t.length) : (sumT s o t + wsum t) % 65535 = (s + wsum o) % 65535 := by
  have := turnsL_mod ((wordsL o).zip (wordsL t)) s hs (fun p hp => by
    have h1 := wordsL_lt o p.1 (List.of_mem_zip hp).1
    omega)
  rw [zip_fst h, zip_snd h] at this
  exact this
theorem sumT_of {s R : Nat} {o t : List UInt8} (h : o.length = t.length) (hR : 0 < R) (hs : s = 65535 - nrm (R + wsum o)) : sumT s o t = 65535 - nrm (R + wsum t) := by
  have := turns_all ((wordsL o).zip (wordsL t)) R hR (fun p hp => wordsL_lt o p.1 (List.of_mem_zip hp).1)
  rw [zip_fst h, zip_snd h] at this
  rw [hs]
  exact this
theorem wsum_app (a b : List UInt8) (h : a.length % 2 = 0) : wsum (a ++ b) = wsum a + wsum b := by
  unfold wsum
  rw [wordsL_append a b h, List.sum_append]
theorem wsum_be2 {x : Nat} (h : x < 65536) : wsum (be2 x) = x := by
  unfold wsum be2
  simp only [wordsL, List.sum_cons, List.sum_nil, UInt8.toNat_ofNat']
  omega
theorem wsum_two (a b : UInt8) : wsum [a, b] = a.toNat * 256 + b.toNat := by simp [wsum, wordsL]
theorem ofL_zero_of {l : List UInt8} (h : ofL l = 0) : 0 < wsum l ∧ wsum l % 65535 = 0 := by
  unfold ofL nrm at h
  unfold wsum
  split at h <;> omega
theorem ofL_zero_if {l : List UInt8} (h0 : 0 < wsum l) (h : wsum l % 65535 = 0) : ofL l = 0 := by
  unfold wsum at h h0
  unfold ofL nrm
  rw [if_neg (by omega)]
  omega
/-- a packet with other fields: its bytes up to 40 are b -/
structure Pk where
  a : List UInt8
  h : List UInt8
  p : List UInt8
  n : List UInt8
  c : List UInt8
  w : List UInt8
  q : List UInt8
  d : List UInt8
  o : List UInt8
  r : List UInt8
structure Pk.ok (P : Pk) : Prop where
  a : P.a.length = 10
  h : P.h.length = 2
  p : P.p.length = 8
  n : P.n.length = 12
  c : P.c.length = 2
  w : P.w.length = 2
  q : P.q.length = 2
  d : P.d.length = 2
def Pk.all (P : Pk) : List UInt8 := P.a ++ (P.h ++ (P.p ++ (P.n ++ (P.c ++ (P.w ++ (P.q ++ (P.d ++ (P.o ++ P.r))))))))
def wd (l : List UInt8) : Nat := (l.getD 0 0).toNat * 256 + (l.getD 1 0).toNat
theorem len1 {l : List UInt8} (h : l.length = 2) : ∃ a b, l = [a, b] := by
  match l, h with
  | [a, b], _ => exact ⟨a, b, rfl⟩
theorem wd_wsum {l : List UInt8} (h : l.length = 2) : wd l = wsum l := by
  obtain ⟨a, b, rfl⟩ := len1 h
  rw [wsum_two]
  rfl
theorem wd_lt {l : List UInt8} (h : l.length = 2) : wd l ≤ 65535 := by
  obtain ⟨a, b, rfl⟩ := len1 h
  have := a.toNat_lt
  have := b.toNat_lt
  show a.toNat * 256 + b.toNat ≤ _
  omega
theorem w16_app {A B C : List UInt8} {i : Nat} (hA : A.length = i) (hB : B.length = 2) : w16 (A ++ (B ++ C)) i = wd B := by
  obtain ⟨a, b, rfl⟩ := len1 hB
  subst hA
  unfold w16 wd
  simp [List.getD]
/-- the fields that a segment turns -/
def Pk.lay (P : Pk) (s : Sg) (O : List UInt8) : Pk := { P with
  h := be2 (sumT (wd P.h) P.p (adr s)), p := adr s, n := nums s, w := be2 s.s7, o := O
  q := be2 (sumT (sumT (sumT (sumT (wd P.q) P.p (adr s)) P.n (nums s)) P.w (be2 s.s7)) P.o O) }
theorem adr_len (s : Sg) : (adr s).length = 8 := rfl
theorem nums_len (s : Sg) : (nums s).length = 12 := rfl
theorem Pk.lay_ok {P : Pk} (h : P.ok) (s : Sg) (O : List UInt8) : (P.lay s O).ok := ⟨h.a, rfl, rfl, rfl, h.c, rfl, rfl, h.d⟩
theorem LS.lay_app {A B C t : List UInt8} {i hd wh : Nat} (hA : A.length = i) (hB : B.length = t.length) : (LS.mk (A ++ (B ++ C)) hd wh).lay i t = ⟨A ++ (t ++ C), if i < 20 then sumT hd B t else hd, sumT wh B t⟩ := by
  unfold LS.lay
  dsimp only
  rw [layM_app hA hB, old_app hA hB]
theorem rew_parts {P : Pk} (h : P.ok) (s : Sg) (O : List UInt8) (hO : P.o.length = O.length) :
    (let st := (rew1 P.all s).lay 40 O; layM (layM st.M 10 (be2 st.hd)) 36 (be2 st.wh)) = (P.lay s O).all := by
  obtain ⟨a, hh, p, n, c, w, q, d, o, r⟩ := P
  obtain ⟨ha, hh', hp, hn, hc, hw, hq, hd⟩ := h
  dsimp only at ha hh' hp hn hc hw hq hd hO ⊢
  have e10 : w16 (Pk.all ⟨a, hh, p, n, c, w, q, d, o, r⟩) 10 = wd hh := w16_app ha hh'
  have e36 : w16 (Pk.all ⟨a, hh, p, n, c, w, q, d, o, r⟩) 36 = wd q := by
    have := w16_app (A := a ++ (hh ++ (p ++ (n ++ (c ++ w))))) (B := q) (C := d ++ (o ++ r)) (i := 36) (by simp [ha, hh', hp, hn, hc, hw]) hq
    simpa [Pk.all] using this
  unfold rew1 rew0
  rw [e10, e36]
  have l1 : ∀ x y, (LS.mk (Pk.all ⟨a, hh, p, n, c, w, q, d, o, r⟩) x y).lay 12 (adr s) = ⟨Pk.all ⟨a, hh, adr s, n, c, w, q, d, o, r⟩, sumT x p (adr s), sumT y p (adr s)⟩ := by
    intro x y
    have := LS.lay_app (A := a ++ hh) (B := p) (C := n ++ (c ++ (w ++ (q ++ (d ++ (o ++ r)))))) (t := adr s) (i := 12) (hd := x) (wh := y) (by simp [ha, hh']) hp
    simpa [Pk.all] using this
  have l2 : ∀ x y, (LS.mk (Pk.all ⟨a, hh, adr s, n, c, w, q, d, o, r⟩) x y).lay 20 (nums s) = ⟨Pk.all ⟨a, hh, adr s, nums s, c, w, q, d, o, r⟩, x, sumT y n (nums s)⟩ := by
    intro x y
    have := LS.lay_app (A := a ++ (hh ++ adr s)) (B := n) (C := c ++ (w ++ (q ++ (d ++ (o ++ r))))) (t := nums s) (i := 20) (hd := x) (wh := y) (by simp [ha, hh', adr_len]) hn
    simpa [Pk.all] using this
  have l3 : ∀ x y, (LS.mk (Pk.all ⟨a, hh, adr s, nums s, c, w, q, d, o, r⟩) x y).lay 34 (be2 s.s7) = ⟨Pk.all ⟨a, hh, adr s, nums s, c, be2 s.s7, q, d, o, r⟩, x, sumT y w (be2 s.s7)⟩ := by
    intro x y
    have := LS.lay_app (A := a ++ (hh ++ (adr s ++ (nums s ++ c)))) (B := w) (C := q ++ (d ++ (o ++ r))) (t := be2 s.s7) (i := 34) (hd := x) (wh := y) (by simp [ha, hh', adr_len, nums_len, hc]) hw
    simpa [Pk.all] using this
  have l4 : ∀ x y, (LS.mk (Pk.all ⟨a, hh, adr s, nums s, c, be2 s.s7, q, d, o, r⟩) x y).lay 40 O = ⟨Pk.all ⟨a, hh, adr s, nums s, c, be2 s.s7, q, d, O, r⟩, x, sumT y o O⟩ := by
    intro x y
    have := LS.lay_app (A := a ++ (hh ++ (adr s ++ (nums s ++ (c ++ (be2 s.s7 ++ (q ++ d))))))) (B := o) (C := r) (t := O) (i := 40) (hd := x) (wh := y) (by simp [ha, hh', adr_len, nums_len, hc, hq, hd, be2_len]) hO
    simpa [Pk.all] using this
  rw [l1, l2, l3, l4]
  dsimp only
  have m1 : ∀ x, layM (Pk.all ⟨a, hh, adr s, nums s, c, be2 s.s7, q, d, O, r⟩) 10 (be2 x) = Pk.all ⟨a, be2 x, adr s, nums s, c, be2 s.s7, q, d, O, r⟩ := fun x => layM_app ha hh'
  have m2 : ∀ x y, layM (Pk.all ⟨a, be2 x, adr s, nums s, c, be2 s.s7, q, d, O, r⟩) 36 (be2 y) = Pk.all ⟨a, be2 x, adr s, nums s, c, be2 s.s7, be2 y, d, O, r⟩ := by
    intro x y
    have := layM_app (A := a ++ (be2 x ++ (adr s ++ (nums s ++ (c ++ be2 s.s7))))) (B := q) (C := d ++ (O ++ r)) (t := be2 y) (i := 36) (by simp [ha, adr_len, nums_len, hc, be2_len]) hq
    simpa [Pk.all] using this
  rw [m1, m2]
  rfl
/-- each packet of 40 bytes and more, in parts; its options' bytes are m -/
theorem parts {L : List UInt8} {m : Nat} (h : 40 + m ≤ L.length) : ∃ P : Pk, P.ok ∧ P.o.length = m ∧ L = P.all ∧ P.o = (L.drop 40).take m := by
  refine ⟨⟨L.take 10, (L.drop 10).take 2, (L.drop 12).take 8, (L.drop 20).take 12, (L.drop 32).take 2, (L.drop 34).take 2, (L.drop 36).take 2, (L.drop 38).take 2, (L.drop 40).take m, L.drop (40 + m)⟩, ⟨?_, ?_, ?_, ?_, ?_, ?_, ?_, ?_⟩, ?_, ?_, rfl⟩
  all_goals try (simp <;> omega)
  have step : ∀ i n, L.drop i = (L.drop i).take n ++ L.drop (i + n) := fun i n => by
    rw [← List.drop_drop, List.take_append_drop]
  unfold Pk.all
  dsimp only
  rw [← step 40 m, ← step 38 2, ← step 36 2, ← step 34 2, ← step 32 2, ← step 20 12, ← step 12 8, ← step 10 2, List.take_append_drop]
theorem rewL_parts {L : List UInt8} {x : Sh} {P : Pk} (h : P.ok) (hL : L = P.all) (O : List UInt8) (hO : O = (turnR x.x5 x.x6 x.x7 (oB L)).1) (hl : P.o.length = O.length) : rewL L x = (P.lay (turnS (sgL L) x) O).all := by
  have := rew_parts h (turnS (sgL L) x) O hl
  unfold rewL rewS
  rw [← hO, ← this, ← hL]
end Go.Proofs.Ytengegcnocdkoaa
end
section
set_option maxRecDepth 20000
namespace Go.Proofs.Ytengegcnocdkoaa
open Go.RowKit
theorem len8 {l : List UInt8} (h : l.length = 8) : ∃ a b c d e f g i, l = [a, b, c, d, e, f, g, i] := by
  match l, h with
  | [a, b, c, d, e, f, g, i], _ => exact ⟨_, _, _, _, _, _, _, _, rfl⟩
theorem len10 {l : List UInt8} (h : l.length = 10) : ∃ a b c d e f g i j k, l = [a, b, c, d, e, f, g, i, j, k] := by
  match l, h with
  | [a, b, c, d, e, f, g, i, j, k], _ => exact ⟨_, _, _, _, _, _, _, _, _, _, rfl⟩
theorem len12 {l : List UInt8} (h : l.length = 12) : ∃ a b c d e f g i j k m n, l = [a, b, c, d, e, f, g, i, j, k, m, n] := by
  match l, h with
  | [a, b, c, d, e, f, g, i, j, k, m, n], _ => exact ⟨_, _, _, _, _, _, _, _, _, _, _, _, rfl⟩
section
variable {P : Pk}
/-- all parts' bytes by name -/
theorem Pk.bytes (h : P.ok) : ∃ a0 a1 a2 a3 a4 a5 a6 a7 a8 a9 h0 h1 p0 p1 p2 p3 p4 p5 p6 p7 n0 n1 n2 n3 n4 n5 n6 n7 n8 n9 n10 n11 c0 c1 w0 w1 q0 q1 d0 d1 o r,
    P = ⟨[a0, a1, a2, a3, a4, a5, a6, a7, a8, a9], [h0, h1], [p0, p1, p2, p3, p4, p5, p6, p7], [n0, n1, n2, n3, n4, n5, n6, n7, n8, n9, n10, n11], [c0, c1], [w0, w1], [q0, q1], [d0, d1], o, r⟩ := by
  obtain ⟨a, hh, p, n, c, w, q, d, o, r⟩ := P
  obtain ⟨ha, hh', hp, hn, hc, hw, hq, hd⟩ := h
  dsimp only at ha hh' hp hn hc hw hq hd
  obtain ⟨_, _, _, _, _, _, _, _, _, _, rfl⟩ := len10 ha
  obtain ⟨_, _, rfl⟩ := len1 hh'
  obtain ⟨_, _, _, _, _, _, _, _, rfl⟩ := len8 hp
  obtain ⟨_, _, _, _, _, _, _, _, _, _, _, _, rfl⟩ := len12 hn
  obtain ⟨_, _, rfl⟩ := len1 hc
  obtain ⟨_, _, rfl⟩ := len1 hw
  obtain ⟨_, _, rfl⟩ := len1 hq
  obtain ⟨_, _, rfl⟩ := len1 hd
  exact ⟨_, _, _, _, _, _, _, _, _, _, _, _, _, _, _, _, _, _, _, _, _, _, _, _, _, _, _, _, _, _, _, _, _, _, _, _, _, _, _, _, _, _, rfl⟩
theorem Pk.len (h : P.ok) : P.all.length = 40 + P.o.length + P.r.length := by
  obtain ⟨ha, hh', hp, hn, hc, hw, hq, hd⟩ := h
  unfold Pk.all
  simp only [List.length_append]
  omega
/-- the head of a packet in parts -/
def Pk.ih (P : Pk) : I.IPh := ⟨numL (P.p.take 4), numL (P.p.drop 4), P.a.getD 9 0, P.a.getD 8 0, P.a.getD 1 0, numL ((P.a.drop 4).take 2) % 65536, I.at0 P.a 6 == 64⟩
theorem hI_all (h : P.ok) : hI P.all = P.ih := by
  obtain ⟨_, _, _, _, _, _, _, _, _, _, _, _, _, _, _, _, _, _, _, _, _, _, _, _, _, _, _, _, _, _, _, _, _, _, _, _, _, _, _, _, _, _, rfl⟩ := Pk.bytes h
  rfl
def Pk.iOk (P : Pk) (n : Nat) : Prop := I.at0 P.a 0 / 16 = 4 ∧ I.at0 P.a 0 % 16 = 5 ∧ numL ((P.a.drop 2).take 2) = n ∧ ¬((I.at0 P.a 6 ≠ 0 ∧ I.at0 P.a 6 ≠ 64) ∨ I.at0 P.a 7 ≠ 0)
theorem iE_iff (h : P.ok) : I.decE P.all = 0 ↔ P.iOk P.all.length ∧ ofL (P.a ++ (P.h ++ P.p)) = 0 := by
  have hl := Pk.len h
  have e0 : I.at0 P.all 0 = I.at0 P.a 0 := by
    obtain ⟨_, _, _, _, _, _, _, _, _, _, _, _, _, _, _, _, _, _, _, _, _, _, _, _, _, _, _, _, _, _, _, _, _, _, _, _, _, _, _, _, _, _, rfl⟩ := Pk.bytes h
    rfl
  have e6 : I.at0 P.all 6 = I.at0 P.a 6 := by
    obtain ⟨_, _, _, _, _, _, _, _, _, _, _, _, _, _, _, _, _, _, _, _, _, _, _, _, _, _, _, _, _, _, _, _, _, _, _, _, _, _, _, _, _, _, rfl⟩ := Pk.bytes h
    rfl
  have e7 : I.at0 P.all 7 = I.at0 P.a 7 := by
    obtain ⟨_, _, _, _, _, _, _, _, _, _, _, _, _, _, _, _, _, _, _, _, _, _, _, _, _, _, _, _, _, _, _, _, _, _, _, _, _, _, _, _, _, _, rfl⟩ := Pk.bytes h
    rfl
  have e2 : (P.all.drop 2).take 2 = (P.a.drop 2).take 2 := by
    obtain ⟨_, _, _, _, _, _, _, _, _, _, _, _, _, _, _, _, _, _, _, _, _, _, _, _, _, _, _, _, _, _, _, _, _, _, _, _, _, _, _, _, _, _, rfl⟩ := Pk.bytes h
    rfl
  have e20 : P.all.take 20 = P.a ++ (P.h ++ P.p) := by
    obtain ⟨_, _, _, _, _, _, _, _, _, _, _, _, _, _, _, _, _, _, _, _, _, _, _, _, _, _, _, _, _, _, _, _, _, _, _, _, _, _, _, _, _, _, rfl⟩ := Pk.bytes h
    rfl
  unfold I.decE Pk.iOk
  rw [e0, e6, e7, e2, e20, if_neg (by omega)]
  by_cases h1 : I.at0 P.a 0 / 16 = 4
  · rw [if_neg (by simp [h1])]
    by_cases h2 : I.at0 P.a 0 % 16 = 5
    · rw [if_neg (by simp [h2])]
      by_cases h3 : numL ((P.a.drop 2).take 2) = P.all.length
      · rw [if_neg (by simp [h3])]
        by_cases h4 : ofL (P.a ++ (P.h ++ P.p)) = 0
        · rw [if_neg (by simp [h4])]
          by_cases h5 : (I.at0 P.a 6 ≠ 0 ∧ I.at0 P.a 6 ≠ 64) ∨ I.at0 P.a 7 ≠ 0
          · rw [if_pos h5]
            exact ⟨fun h => absurd h (by decide), fun h => absurd h5 h.1.2.2.2⟩
          · rw [if_neg h5]
            exact ⟨fun _ => ⟨⟨h1, h2, h3, h5⟩, h4⟩, fun _ => rfl⟩
        · rw [if_pos h4]
          exact ⟨fun h => absurd h (by decide), fun h => absurd h.2 h4⟩
      · rw [if_pos h3]
        exact ⟨fun h => absurd h (by decide), fun h => absurd h.1.2.2.1 h3⟩
    · rw [if_pos h2]
      exact ⟨fun h => absurd h (by decide), fun h => absurd h.1.2.1 h2⟩
  · rw [if_pos h1]
    exact ⟨fun h => absurd h (by decide), fun h => absurd h.1.1 h1⟩
/-- the segment's bytes -/
def Pk.seg (P : Pk) : List UInt8 := P.n ++ (P.c ++ (P.w ++ (P.q ++ (P.d ++ (P.o ++ P.r)))))
theorem seg_all (h : P.ok) : P.all.drop 20 = P.seg := by
  obtain ⟨_, _, _, _, _, _, _, _, _, _, _, _, _, _, _, _, _, _, _, _, _, _, _, _, _, _, _, _, _, _, _, _, _, _, _, _, _, _, _, _, _, _, rfl⟩ := Pk.bytes h
  rfl
theorem seg_len (h : P.ok) : P.seg.length = 20 + P.o.length + P.r.length := by
  obtain ⟨ha, hh', hp, hn, hc, hw, hq, hd⟩ := h
  unfold Pk.seg
  simp only [List.length_append]
  omega
def Pk.off (P : Pk) : Nat := T.at0 P.c 0 / 16 * 4
def Pk.tOk (P : Pk) (n : Nat) : Prop := n ≤ 65515 ∧ ¬(P.off < 20 ∨ n < P.off) ∧ ¬(T.at0 P.c 0 % 16 ≠ 0 ∨ 64 ≤ T.at0 P.c 1)
theorem tE_iff (h : P.ok) (s d : Nat) : T.decE s d P.seg = 0 ↔ P.tOk P.seg.length ∧ ofL (T.aheadL s d P.seg.length ++ P.seg) = 0 := by
  have hl := seg_len h
  have e12 : T.at0 P.seg 12 = T.at0 P.c 0 := by
    obtain ⟨_, _, _, _, _, _, _, _, _, _, _, _, _, _, _, _, _, _, _, _, _, _, _, _, _, _, _, _, _, _, _, _, _, _, _, _, _, _, _, _, _, _, rfl⟩ := Pk.bytes h
    rfl
  have e13 : T.at0 P.seg 13 = T.at0 P.c 1 := by
    obtain ⟨_, _, _, _, _, _, _, _, _, _, _, _, _, _, _, _, _, _, _, _, _, _, _, _, _, _, _, _, _, _, _, _, _, _, _, _, _, _, _, _, _, _, rfl⟩ := Pk.bytes h
    rfl
  unfold T.decE Pk.tOk Pk.off
  rw [e12, e13, if_neg (by omega)]
  by_cases h1 : 65515 < P.seg.length
  · rw [if_pos h1]
    exact ⟨fun h => absurd h (by decide), fun h => by have := h.1.1; omega⟩
  · rw [if_neg h1]
    by_cases h2 : ofL (T.aheadL s d P.seg.length ++ P.seg) = 0
    · rw [if_neg (by simp [h2])]
      by_cases h3 : T.at0 P.c 0 / 16 * 4 < 20 ∨ P.seg.length < T.at0 P.c 0 / 16 * 4
      · rw [if_pos h3]
        exact ⟨fun h => absurd h (by decide), fun h => absurd h3 h.1.2.1⟩
      · rw [if_neg h3]
        by_cases h4 : T.at0 P.c 0 % 16 ≠ 0 ∨ 64 ≤ T.at0 P.c 1
        · rw [if_pos h4]
          exact ⟨fun h => absurd h (by decide), fun h => absurd h4 h.1.2.2⟩
        · rw [if_neg h4]
          exact ⟨fun _ => ⟨⟨by omega, h3, h4⟩, h2⟩, fun _ => rfl⟩
    · rw [if_pos h2]
      exact ⟨fun h => absurd h (by decide), fun h => absurd h.2 h2⟩
/-- .. where its options end where the head says -/
theorem hT_all (h : P.ok) (ho : P.off = 20 + P.o.length) : hT P.all = ⟨numL (P.n.take 2) % 65536, numL ((P.n.drop 2).take 2) % 65536, numL ((P.n.drop 4).take 4), numL ((P.n.drop 8).take 4), P.c.getD 1 0, numL P.w % 65536, numL P.d % 65536, ⟨P.o.toArray⟩⟩ := by
  unfold hT
  rw [seg_all h]
  have e : T.endN P.seg = P.off := by
    obtain ⟨_, _, _, _, _, _, _, _, _, _, _, _, _, _, _, _, _, _, _, _, _, _, _, _, _, _, _, _, _, _, _, _, _, _, _, _, _, _, _, _, _, _, rfl⟩ := Pk.bytes h
    rfl
  unfold T.decH
  rw [e, ho]
  have e2 : T.sub P.seg 20 (20 + P.o.length) = P.o := by
    unfold T.sub
    rw [Nat.add_sub_cancel_left]
    have : P.seg.drop 20 = P.o ++ P.r := by
      obtain ⟨_, _, _, _, _, _, _, _, _, _, _, _, _, _, _, _, _, _, _, _, _, _, _, _, _, _, _, _, _, _, _, _, _, _, _, _, _, _, _, _, _, _, rfl⟩ := Pk.bytes h
      rfl
    rw [this, List.take_left]
  rw [e2]
  obtain ⟨_, _, _, _, _, _, _, _, _, _, _, _, _, _, _, _, _, _, _, _, _, _, _, _, _, _, _, _, _, _, _, _, _, _, _, _, _, _, _, _, _, _, rfl⟩ := Pk.bytes h
  rfl
theorem oB_all (h : P.ok) (ho : P.off = 20 + P.o.length) : oB P.all = P.o := by
  unfold oB
  rw [hT_all h ho]
theorem dB_all (h : P.ok) (ho : P.off = 20 + P.o.length) : dB P.all = ⟨P.r.toArray⟩ := by
  unfold dB
  rw [seg_all h]
  have e : T.endN P.seg = P.off := by
    obtain ⟨_, _, _, _, _, _, _, _, _, _, _, _, _, _, _, _, _, _, _, _, _, _, _, _, _, _, _, _, _, _, _, _, _, _, _, _, _, _, _, _, _, _, rfl⟩ := Pk.bytes h
    rfl
  rw [e, ho]
  have e2 : P.seg.drop (20 + P.o.length) = P.r := by
    rw [← List.drop_drop]
    have : P.seg.drop 20 = P.o ++ P.r := by
      obtain ⟨_, _, _, _, _, _, _, _, _, _, _, _, _, _, _, _, _, _, _, _, _, _, _, _, _, _, _, _, _, _, _, _, _, _, _, _, _, _, _, _, _, _, rfl⟩ := Pk.bytes h
      rfl
    rw [this, List.drop_left]
  rw [e2]
theorem tE_off {l : List UInt8} {s d : Nat} (h : T.decE s d l = 0) : 20 ≤ T.endN l ∧ T.endN l ≤ l.length := by
  unfold T.decE at h
  split at h
  · cases h
  split at h
  · cases h
  split at h
  · cases h
  split at h
  · cases h
  unfold T.endN
  omega
/-- what is right with a packet -/
structure Fine (L : List UInt8) : Prop where
  i : I.decE L = 0
  p : (hI L).proto = 6
  t : T.decE (hI L).src (hI L).dst (L.drop 20) = 0
  o : (decR (oB L)).2 = 0
  f : flagsB (hT L).flags.toNat = true
  d : (dB L).size ≤ 1460
theorem fine_of {L : List UInt8} (h : pdecE L = 0) : Fine L := by
  unfold pdecE at h
  by_cases h1 : I.decE L ≠ 0
  · rw [if_pos h1] at h; omega
  rw [if_neg h1] at h
  by_cases h2 : (hI L).proto ≠ 6
  · rw [if_pos h2] at h; omega
  rw [if_neg h2] at h
  by_cases h3 : T.decE (hI L).src (hI L).dst (L.drop 20) ≠ 0
  · rw [if_pos h3] at h; omega
  rw [if_neg h3] at h
  by_cases h4 : (decR (oB L)).2 ≠ 0
  · rw [if_pos h4] at h; omega
  rw [if_neg h4] at h
  by_cases h5 : flagsB (hT L).flags.toNat = false
  · rw [if_pos h5] at h; omega
  rw [if_neg h5] at h
  by_cases h6 : 1460 < (dB L).size
  · rw [if_pos h6] at h; omega
  exact ⟨by omega, Classical.not_not.1 h2, by omega, by omega, by simpa using h5, by omega⟩
theorem Fine.zero {L : List UInt8} (h : Fine L) : pdecE L = 0 := by
  unfold pdecE
  rw [if_neg (by simp [h.i]), if_neg (by simp [h.p]), if_neg (by simp [h.t]), if_neg (by simp [h.o]), if_neg (by simp [h.f]), if_neg (by have := h.d; omega)]
/-- a packet that is read, in parts -/
theorem fine_parts {L : List UInt8} (h : Fine L) : ∃ P : Pk, P.ok ∧ L = P.all ∧ P.off = 20 + P.o.length ∧ P.o.length % 4 = 0 ∧ oB L = P.o := by
  obtain ⟨h1, h2⟩ := tE_off h.t
  have hl : (L.drop 20).length = L.length - 20 := List.length_drop
  have e4 : T.endN (L.drop 20) % 4 = 0 := by unfold T.endN; omega
  obtain ⟨P, hP, hm, hL, ho⟩ := parts (L := L) (m := T.endN (L.drop 20) - 20) (by omega)
  refine ⟨P, hP, hL, ?_, by omega, ?_⟩
  · have e : T.endN P.seg = P.off := by
      obtain ⟨_, _, _, _, _, _, _, _, _, _, _, _, _, _, _, _, _, _, _, _, _, _, _, _, _, _, _, _, _, _, _, _, _, _, _, _, _, _, _, _, _, _, rfl⟩ := Pk.bytes hP
      rfl
    rw [hL, seg_all hP, e] at hm h1
    omega
  · rw [ho]
    unfold oB hT T.decH T.sub
    dsimp only
    rw [List.drop_drop]
theorem be4_take {p : List UInt8} (h : p.length = 8) : be4 (numL (p.take 4)) ++ be4 (numL (p.drop 4)) = p := by
  rw [be4_numL (by simp [h]), be4_numL (by simp [h]), List.take_append_drop]
theorem ahead_p {p : List UInt8} (h : p.length = 8) (n : Nat) : T.aheadL (numL (p.take 4)) (numL (p.drop 4)) n = p ++ ([0, 6] ++ be2 n) := by
  unfold T.aheadL
  rw [be4_take h]
  simp
theorem wsum_head (h : P.ok) : wsum (P.a ++ (P.h ++ P.p)) = wsum P.a + wd P.h + wsum P.p := by
  rw [wsum_app _ _ (by rw [h.a]), wsum_app _ _ (by rw [h.h]), wd_wsum h.h]
  omega
theorem wsum_seg (h : P.ok) (ho : P.o.length % 4 = 0) (n : Nat) : wsum (P.p ++ ([0, 6] ++ be2 n) ++ P.seg) = wsum P.p + wsum ([0, 6] ++ be2 n) + wsum P.n + wsum P.c + wsum P.w + wd P.q + wsum P.d + wsum P.o + wsum P.r := by
  unfold Pk.seg
  rw [wsum_app _ _ (by simp [h.p, be2_len]), wsum_app _ _ (by rw [h.p]), wsum_app P.n _ (by rw [h.n]), wsum_app P.c _ (by rw [h.c]), wsum_app P.w _ (by rw [h.w]), wsum_app P.q _ (by rw [h.q]), wsum_app P.d _ (by rw [h.d]), wsum_app P.o _ (by omega), wd_wsum h.q]
  omega
theorem wd_be2 {x : Nat} (h : x ≤ 65535) : wd (be2 x) = x := by rw [wd_wsum rfl, wsum_be2 (by omega)]
theorem wsum_six (n : Nat) : 0 < wsum ([0, 6] ++ be2 n) := by
  rw [wsum_app _ _ (by rfl), wsum_two]
  show 0 < 6 + _
  omega
theorem turnS_wf {s : Sg} {x : Sh} (hs : s.wf) (hx : x.wf) : (turnS s x).wf := by
  refine ⟨hx.b0, hx.b1, hx.b2, hx.b3, Nat.mod_lt _ (by decide), ?_, hs.f, ?_, ?_⟩
  · show (if ackB s.f = true then (s.s5 + x.x5) % 4294967296 else s.s5) < 4294967296
    split
    · exact Nat.mod_lt _ (by decide)
    · exact hs.b5
  · show (winT s.s7 x.x8 x.x9).toNat < 65536
    have : winT s.s7 x.x8 x.x9 ≤ 65535 := by unfold winT; omega
    omega
  · obtain ⟨w1, w2, w3, w4, w5⟩ := hs.o
    refine ⟨w1, w2, ?_, ?_, ?_⟩
    · show (if s.o.time then (s.o.val + x.x6) % 4294967296 else s.o.val) < 4294967296
      split
      · exact Nat.mod_lt _ (by decide)
      · exact w3
    · show (if s.o.time then (s.o.echo + x.x7) % 4294967296 else s.o.echo) < 4294967296
      split
      · exact Nat.mod_lt _ (by decide)
      · exact w4
    · intro p hp
      obtain ⟨q, hq, rfl⟩ := List.mem_map.1 hp
      unfold tP
      dsimp only
      omega
theorem Pk.lay_len {P : Pk} {s : Sg} {O : List UInt8} (h : P.ok) (hO : O.length = P.o.length) : (P.lay s O).all.length = P.all.length := by
  rw [Pk.len h, Pk.len (Pk.lay_ok h s O)]
  show 40 + O.length + P.r.length = _
  omega
theorem sumT_le {s : Nat} (h : s ≤ 65535) (o t : List UInt8) : sumT s o t ≤ 65535 := by have := sumT_lt (s := s) (by omega) o t; omega
theorem lay_i {s : Sg} {O : List UInt8} (h : P.ok) (hO : O.length = P.o.length) (hi : I.decE P.all = 0) : I.decE (P.lay s O).all = 0 := by
  obtain ⟨⟨i1, i2, i3, i4⟩, i5⟩ := (iE_iff h).1 hi
  have hk := Pk.lay_ok h s O
  refine (iE_iff hk).2 ⟨⟨i1, i2, by rw [Pk.lay_len h hO]; exact i3, i4⟩, ?_⟩
  obtain ⟨j1, j2⟩ := ofL_zero_of i5
  rw [wsum_head h] at j1 j2
  have hm := sumT_mod (s := wd P.h) (o := P.p) (t := adr s) (wd_lt h.h) (by rw [h.p, adr_len])
  have ha : 0 < wsum P.a := by
    obtain ⟨a0, _, _, _, _, _, _, _, _, _, e⟩ := len10 h.a
    rw [e] at i1 ⊢
    have i1' : a0.toNat / 16 = 4 := i1
    unfold wsum
    simp only [wordsL, List.sum_cons]
    omega
  have e := wsum_head hk
  have e1 : wsum (P.lay s O).a = wsum P.a := rfl
  have e2 : wd (P.lay s O).h = sumT (wd P.h) P.p (adr s) := wd_be2 (sumT_le (wd_lt h.h) _ _)
  have e3 : wsum (P.lay s O).p = wsum (adr s) := rfl
  rw [e1, e2, e3] at e
  refine ofL_zero_if (by omega) ?_
  rw [e]
  omega
theorem lay_t {s : Sg} {O : List UInt8} (h : P.ok) (ho : P.o.length % 4 = 0) (hO : O.length = P.o.length) (ht : T.decE (numL (P.p.take 4)) (numL (P.p.drop 4)) P.seg = 0) : T.decE (numL ((adr s).take 4)) (numL ((adr s).drop 4)) (P.lay s O).seg = 0 := by
  have hk := Pk.lay_ok h s O
  obtain ⟨⟨t1, t2, t3⟩, t4⟩ := (tE_iff h _ _).1 ht
  have hl : (P.lay s O).seg.length = P.seg.length := by
    rw [seg_len h, seg_len hk]
    show 20 + O.length + P.r.length = _
    omega
  refine (tE_iff hk _ _).2 ⟨⟨by rw [hl]; exact t1, by rw [hl]; exact t2, t3⟩, ?_⟩
  rw [hl]
  generalize P.seg.length = n at *
  rw [ahead_p h.p] at t4
  rw [ahead_p (adr_len s)]
  obtain ⟨j1, j2⟩ := ofL_zero_of t4
  rw [wsum_seg h ho] at j1 j2
  have e := wsum_seg hk (show O.length % 4 = 0 by omega) n
  have e1 : wsum (P.lay s O).p = wsum (adr s) := rfl
  have e2 : wsum (P.lay s O).n = wsum (nums s) := rfl
  have e3 : wsum (P.lay s O).c = wsum P.c := rfl
  have e4 : wsum (P.lay s O).w = wsum (be2 s.s7) := rfl
  have l1 := sumT_le (wd_lt h.q) P.p (adr s)
  have l2 := sumT_le l1 P.n (nums s)
  have l3 := sumT_le l2 P.w (be2 s.s7)
  have l4 := sumT_le l3 P.o O
  have e5 : wd (P.lay s O).q = sumT (sumT (sumT (sumT (wd P.q) P.p (adr s)) P.n (nums s)) P.w (be2 s.s7)) P.o O := wd_be2 l4
  have e6 : wsum (P.lay s O).d = wsum P.d := rfl
  have e7 : wsum (P.lay s O).o = wsum O := rfl
  have e8 : wsum (P.lay s O).r = wsum P.r := rfl
  rw [e1, e2, e3, e4, e5, e6, e7, e8] at e
  have m1 := sumT_mod (wd_lt h.q) (show P.p.length = (adr s).length by rw [h.p, adr_len])
  have m2 := sumT_mod l1 (show P.n.length = (nums s).length by rw [h.n, nums_len])
  have m3 := sumT_mod l2 (show P.w.length = (be2 s.s7).length by rw [h.w, be2_len])
  have m4 := sumT_mod l3 hO.symm
  have hsx := wsum_six n
  show ofL (adr s ++ ([0, 6] ++ be2 n) ++ _) = 0
  have e9 : (P.lay s O).p = adr s := rfl
  rw [e9] at e
  generalize sumT (sumT (sumT (sumT (wd P.q) P.p (adr s)) P.n (nums s)) P.w (be2 s.s7)) P.o O = y4 at *
  generalize sumT (sumT (sumT (wd P.q) P.p (adr s)) P.n (nums s)) P.w (be2 s.s7) = y3 at *
  generalize sumT (sumT (wd P.q) P.p (adr s)) P.n (nums s) = y2 at *
  generalize sumT (wd P.q) P.p (adr s) = y1 at *
  refine ofL_zero_if (by omega) ?_
  rw [e]
  omega
end
theorem decR_turn {L : List UInt8} (bl va ec : Nat) (h : (decR L).2 = 0) : decR (turnT bl va ec L) = (turnO bl va ec (decR L).1, 0) := by
  unfold decR at h ⊢
  rw [turnL_len, dec_turn]
  by_cases h1 : 40 < L.length
  · rw [if_pos h1] at h
    cases h
  · rw [if_neg h1] at h ⊢
    rw [if_neg h1]
    cases hd : decL L with
    | none => rw [hd] at h; cases h
    | some o => rfl
/-- A PACKET THAT IS TURNED IS READ AS THE SEGMENT, TURNED -/
theorem rew_read {L : List UInt8} {x : Sh} (hE : pdecE L = 0) (hx : x.wf) : pdecE (rewL L x) = 0 ∧ sgL (rewL L x) = turnS (sgL L) x ∧ (rewL L x).length = L.length := by
  have hf := fine_of hE
  obtain ⟨P, hP, hL, hoff, ho4, hoB⟩ := fine_parts hf
  obtain ⟨O, hO⟩ : ∃ O, O = turnT x.x5 x.x6 x.x7 P.o := ⟨_, rfl⟩
  have hOl : O.length = P.o.length := by rw [hO, turnL_len]
  have hdo : (decR P.o).2 = 0 := by rw [← hoB]; exact hf.o
  have hr := rewL_parts (x := x) hP hL O (by rw [hoB]; unfold turnR; rw [if_pos hdo, hO]) hOl.symm
  have hsw : (turnS (sgL L) x).wf := turnS_wf (sgL_wf L) hx
  obtain ⟨S, hS⟩ : ∃ S, S = turnS (sgL L) x := ⟨_, rfl⟩
  rw [← hS] at hr hsw
  rw [hr]
  have hk := Pk.lay_ok hP S O
  have hko : (P.lay S O).off = 20 + (P.lay S O).o.length := by
    show P.off = 20 + O.length
    omega
  have ai : numL ((adr S).take 4) = S.s0 := numL_be4 hsw.b0
  have aj : numL ((adr S).drop 4) = S.s2 := numL_be4 hsw.b2
  have kI : hI (P.lay S O).all = { hI L with src := S.s0, dst := S.s2 } := by
    rw [hI_all hk, hL, hI_all hP]
    unfold Pk.ih
    show (⟨numL ((adr S).take 4), numL ((adr S).drop 4), _, _, _, _, _⟩ : I.IPh) = _
    rw [ai, aj]
    rfl
  have kT := hT_all hk hko
  have kT0 := hT_all hP hoff
  rw [← hL] at kT0
  have n1 : numL ((nums S).take 2) % 65536 = S.s1 := by
    have := numL_be2 hsw.b1
    have h := hsw.b1
    show numL (be2 S.s1) % 65536 = _
    omega
  have n2 : numL (((nums S).drop 2).take 2) % 65536 = S.s3 := by
    have := numL_be2 hsw.b3
    have h := hsw.b3
    show numL (be2 S.s3) % 65536 = _
    omega
  have n3 : numL (((nums S).drop 4).take 4) = S.s4 := numL_be4 hsw.b4
  have n4 : numL (((nums S).drop 8).take 4) = S.s5 := numL_be4 hsw.b5
  have n5 : numL (be2 S.s7) % 65536 = S.s7 := by
    have := numL_be2 hsw.b7
    have h := hsw.b7
    omega
  have kT2 : hT (P.lay S O).all = { hT L with src := S.s1, dst := S.s3, seq := S.s4, ack := S.s5, window := S.s7, opts := ⟨O.toArray⟩ } := by
    rw [kT, kT0]
    show (⟨numL ((nums S).take 2) % 65536, numL (((nums S).drop 2).take 2) % 65536, numL (((nums S).drop 4).take 4), numL (((nums S).drop 8).take 4), _, numL (be2 S.s7) % 65536, _, _⟩ : T.TCPh) = _
    rw [n1, n2, n3, n4, n5]
    rfl
  have kO := oB_all hk hko
  have kO' : oB (P.lay S O).all = O := kO
  have kD := dB_all hk hko
  have kD0 := dB_all hP hoff
  rw [← hL] at kD0
  have kD' : dB (P.lay S O).all = dB L := kD.trans kD0.symm
  have kR : decR O = (turnO x.x5 x.x6 x.x7 (decR P.o).1, 0) := by rw [hO]; exact decR_turn _ _ _ hdo
  refine ⟨Fine.zero ⟨?_, ?_, ?_, ?_, ?_, ?_⟩, ?_, ?_⟩
  · exact lay_i hP hOl (by rw [← hL]; exact hf.i)
  · rw [kI]; exact hf.p
  · rw [kI]
    have h1 := lay_t (s := S) (O := O) hP ho4 hOl (by
      have := hf.t
      rw [hL, hI_all hP, seg_all hP] at this
      exact this)
    rw [ai, aj] at h1
    rw [seg_all hk]
    exact h1
  · rw [kO', kR]
  · rw [kT2]; exact hf.f
  · rw [kD']; exact hf.d
  · unfold sgL
    rw [kI, kT2, kO', kD', kR, hS]
    unfold turnS sgL
    rw [← hoB]
  · rw [Pk.lay_len hP hOl, ← hL]
end Go.Proofs.Ytengegcnocdkoaa
end
section
set_option maxRecDepth 20000
namespace Go.Proofs.Ytengegcnocdkoaa
open Go.RowKit Go.BigFrame
def at0L (L : List UInt8) (i : Nat) : Nat := (L.getD i 0).toNat
theorem shU : (Try.prog.underlying 46).map TypeDesc.isRow = some true := by kernel_rfl
theorem shI : (Try.prog.info? 46).map (·.size) = some 10 := by kernel_rfl
theorem pdecR_snd (L : List UInt8) : (pdecR L).2 = pdecE L := by
  unfold pdecR
  split
  · rename_i h; rw [h]
  · rfl
theorem rew_bad {L : List UInt8} {sh : Sh} {s : Sg} {code : Int} (h : (s, code) = pdecR L) (hc : code ≠ 0) : rewR L sh = (⟨#[]⟩, code) := by
  have : pdecE L = code := by rw [← pdecR_snd, ← h]
  unfold rewR
  rw [this, if_neg hc]
theorem Blk.out_ {O : Nat → Prop} {W W' : World} {g : Nat} {ty : TypeId} {cs : Array Value} (h : Blk W g ty cs) (ho : Out O W W') (hn : ¬ O g) : Blk W' g ty cs := (ho.block g h.lt hn).trans h
theorem lay_st (gb gr gh gw cap n i : Nat) (st : LS) (ok : st.ok n) (x : ByteArray) (t : List UInt8) (hx : x.data.toList = t) (W : World) (hs : LayS gb gr gh gw cap n st.M st.hd st.wh W) (hi : i + t.length ≤ n) (hn : n ≤ 131072) (hcap : n ≤ cap) (hne : gh ≠ gw) :
    Calls Try.prog 46 #[.int .i64 (i : Int), .string x, .pointer (some ⟨gb, 0, none⟩), .pointer (some ⟨gh, 0, none⟩), .pointer (some ⟨gw, 0, none⟩)] W fun e w' => e = .returned (.tuple #[]) ∧ LayS gb gr gh gw cap n (st.lay i t).M (st.lay i t).hd (st.lay i t).wh w' ∧ Out (OutL gr gh gw) W w' :=
  lay_any gb gr gh gw cap n st.hd st.wh i st.M x t hx W hs ok.hd ok.wh hi hn hcap hne
theorem cat2 (a b : List UInt8) : ((⟨a.toArray⟩ : ByteArray) ++ ⟨b.toArray⟩).data.toList = a ++ b := by rw [cat_str]
theorem cat4 (a b c d : List UInt8) : ((⟨a.toArray⟩ : ByteArray) ++ ⟨b.toArray⟩ ++ ⟨c.toArray⟩ ++ ⟨d.toArray⟩).data.toList = a ++ b ++ c ++ d := by rw [cat_str, cat_str, cat_str]
theorem fine40 {L : List UInt8} (h : pdecE L = 0) : 40 + (oB L).length ≤ L.length ∧ 20 + at0L L 32 / 16 * 4 = 40 + (oB L).length ∧ oB L = (L.drop 40).take (oB L).length := by
  have hf := fine_of h
  obtain ⟨P, hP, hL, ho, _, hoB⟩ := fine_parts hf
  have hl := Pk.len hP
  rw [hoB]
  refine ⟨by rw [hL]; omega, ?_, ?_⟩
  · have e : at0L L 32 = T.at0 P.c 0 := by
      rw [hL]
      obtain ⟨_, _, _, _, _, _, _, _, _, _, _, _, _, _, _, _, _, _, _, _, _, _, _, _, _, _, _, _, _, _, _, _, _, _, _, _, _, _, _, _, _, _, rfl⟩ := Pk.bytes hP
      rfl
    rw [e]
    unfold Pk.off at ho
    omega
  · have e : L.drop 40 = P.o ++ P.r := by
      rw [hL]
      obtain ⟨_, _, _, _, _, _, _, _, _, _, _, _, _, _, _, _, _, _, _, _, _, _, _, _, _, _, _, _, _, _, _, _, _, _, _, _, _, _, _, _, _, _, rfl⟩ := Pk.bytes hP
      rfl
    rw [e, List.take_left]
set_option maxHeartbeats 1000000 in
theorem rew_any (x : ByteArray) (L : List UInt8) (hL : x.data.toList = L) (hx : L.length ≤ 131072) (sh : Sh) (hsh : sh.wf) (w : World) :
    Calls Try.prog 21 #[.string x, .agg sh.c] w fun e w' => e = .returned (.tuple #[.string (rewR L sh).1, .int .i64 (rewR L sh).2]) ∧ Below w.heap.size w w' := by
  have hd := fun W => pdec_any x L hL hx W
  have hb0 : Below w.heap.size w w := Below.refl _ _
  have HB := Lib.hid hb0
  clear hb0
  have Hd := Lib.hid hd
  clear hd
  go_enter Try.func21, Try.ntmps21
  go_upto_region 1 with fail
  have hx := Blk.new w 46 sh.c
  have hB := HB.out.alloc HB.out.size (.cells sh.c 46)
  clear HB
  obtain ⟨gx, hge⟩ : ∃ g, g = w.heap.size := ⟨_, rfl⟩
  rw [← hge] at hx ⊢
  clear hge
  generalize w.alloc _ = w1 at *
  have Hx := Lib.hid hx
  clear hx
  have HB := Lib.hid hB
  clear hB
  go_wp2_with fail
  with_reducible refine (Hd.out _).mono ?_
  rintro e w2 ⟨s, A, c, code, rfl, hbl, hbq, hrc⟩
  have hx := Hx.out.below hbq Hx.out.lt
  clear Hx
  have Hx := Lib.hid hx
  clear hx
  have hB := HB.out.trans (hbq.mono HB.out.size)
  clear HB
  have HB := Lib.hid hB
  clear hB
  clear hbq
  go_upto_region 2 with (first | (refine wpl_put_new rfl (s.c A c) segI_ rfl (by kernel_rfl) rfl _ _ rfl rfl rfl rfl ?_))
  have hbl := BlR.below hbl ((Below.refl w2.heap.size w2).alloc (Nat.le_refl _) (.cells (s.c A c) 30))
  have hs := Blk.new w2 30 (s.c A c)
  have hx := Blk.alloc Hx.out (.cells (s.c A c) 30)
  clear Hx
  have hB := HB.out.alloc HB.out.size (.cells (s.c A c) 30)
  clear HB
  obtain ⟨gs, hge⟩ : ∃ g, g = w2.heap.size := ⟨_, rfl⟩
  rw [← hge] at hs ⊢
  clear hge
  generalize w2.alloc _ = w3 at *
  have Hx := Lib.hid hx
  clear hx
  have Hs := Lib.hid hs
  clear hs
  have HB := Lib.hid hB
  clear hB
  by_cases hc : code = 0
  · subst hc
    have hE : pdecE L = 0 := by rw [← pdecR_snd, ← hrc]
    obtain ⟨h40, h20, hob⟩ := fine40 hE
    have htn : s = sgL L := by have := hrc; unfold pdecR at this; rw [if_pos hE] at this; injection this
    have Hbl := Lib.hid hbl
    clear hbl
    have Hrc := Lib.hid hrc
    clear hrc
    have HE := Lib.hid hE
    clear hE
    have H40 := Lib.hid h40
    clear h40
    have H20 := Lib.hid h20
    clear h20
    have Hob := Lib.hid hob
    clear hob
    have Htn := Lib.hid htn
    clear htn
    go_wp2_with (first | (refine wpl_load Hs.out segU segI rfl _ rfl rfl ?_) | (refine wpl_load Hx.out shU shI rfl _ rfl rfl ?_))
    have hpw := pdecR_wf L
    rw [← Hrc.out] at hpw
    have hsw : s.wf := hpw.1
    have hn : s.o.bl.length ≤ 1000 := Nat.le_trans hpw.2 (by decide)
    clear hpw
    with_reducible refine (pturned_any _ s sh A c hsw Hbl.out hn).mono ?_
    rintro e w4 ⟨A2, c2, rfl, hbl2, hbq⟩
    have hx := Hx.out.below hbq Hx.out.lt
    clear Hx
    have Hx := Lib.hid hx
    clear hx
    have hs := Hs.out.below hbq Hs.out.lt
    clear Hs
    have Hs := Lib.hid hs
    clear hs
    have hB := HB.out.trans (hbq.mono HB.out.size)
    clear HB
    have HB := Lib.hid hB
    clear hB
    clear hbq
    go_upto_region 5 with (first | (refine wpl_put_new rfl ((turnS s sh).c A2 c2) segI_ rfl (by kernel_rfl) rfl _ _ rfl rfl rfl rfl ?_))
    have ht := Blk.new w4 30 ((turnS s sh).c A2 c2)
    have hx := Blk.alloc Hx.out (.cells ((turnS s sh).c A2 c2) 30)
    clear Hx
    have hs := Blk.alloc Hs.out (.cells ((turnS s sh).c A2 c2) 30)
    clear Hs
    have hB := HB.out.alloc HB.out.size (.cells ((turnS s sh).c A2 c2) 30)
    clear HB
    obtain ⟨gt, hge⟩ : ∃ g, g = w4.heap.size := ⟨_, rfl⟩
    rw [← hge] at ht ⊢
    clear hge
    generalize w4.alloc _ = w5 at *
    have Hx := Lib.hid hx
    clear hx
    have Hs := Lib.hid hs
    clear hs
    have Ht := Lib.hid ht
    clear ht
    have HB := Lib.hid hB
    clear hB
    obtain ⟨W6, cap, hcv, hb6, _, hr6, hcap⟩ := run_bytes_rowB w5 x L hL
    rename_i hz6
    clear hz6
    go_upto_region 6 with fail
    obtain ⟨gr, hgr⟩ : ∃ g, g = w5.heap.size := ⟨_, rfl⟩
    rw [← hgr] at hr6 ⊢
    have hwr : w.heap.size ≤ gr := by have := HB.out.size; omega
    clear hgr
    have Hwr := Lib.hid hwr
    clear hwr
    have hx := Hx.out.below hb6 Hx.out.lt
    clear Hx
    have Hx := Lib.hid hx
    clear hx
    have hs := Hs.out.below hb6 Hs.out.lt
    clear Hs
    have Hs := Lib.hid hs
    clear hs
    have ht := Ht.out.below hb6 Ht.out.lt
    clear Ht
    have Ht := Lib.hid ht
    clear ht
    have hB := HB.out.trans (hb6.mono HB.out.size)
    clear HB
    have HB := Lib.hid hB
    clear hB
    clear hb6
    have hr7 := RowB.below hr6 ((Below.refl W6.heap.size W6).alloc (Nat.le_refl _) (.cells #[.slice (some ⟨gr, 0, none⟩) L.length cap] 51)) hr6.lt
    clear hcv hr6
    have hb := Blk.new W6 51 #[.slice (some ⟨gr, 0, none⟩) L.length cap]
    have hx := Blk.alloc Hx.out (.cells #[.slice (some ⟨gr, 0, none⟩) L.length cap] 51)
    clear Hx
    have hs := Blk.alloc Hs.out (.cells #[.slice (some ⟨gr, 0, none⟩) L.length cap] 51)
    clear Hs
    have ht := Blk.alloc Ht.out (.cells #[.slice (some ⟨gr, 0, none⟩) L.length cap] 51)
    clear Ht
    have hB := HB.out.alloc HB.out.size (.cells #[.slice (some ⟨gr, 0, none⟩) L.length cap] 51)
    clear HB
    obtain ⟨gb, hge⟩ : ∃ g, g = W6.heap.size := ⟨_, rfl⟩
    rw [← hge] at hb ⊢
    clear hge
    generalize W6.alloc _ = w7 at *
    have Hx := Lib.hid hx
    clear hx
    have Hs := Lib.hid hs
    clear hs
    have Ht := Lib.hid ht
    clear ht
    have Hb := Lib.hid hb
    clear hb
    have HB := Lib.hid hB
    clear hB
    have Hr7 := Lib.hid hr7
    clear hr7
    go_upto_region 7 with fail
    have h40 : 40 ≤ L.length := by have := H40.out; omega
    have hat : ∀ i, i < L.length → L[i]? = some (L.getD i 0) := fun i hi => by simp [List.getD, List.getElem?_eq_getElem hi]
    have hsa : ∀ W i, i + 1 < L.length → Blk W gb 51 #[.slice (some ⟨gr, 0, none⟩) L.length cap] → RowB W gr L → Calls Try.prog 45 #[.int .i64 (i : Int), .pointer (some ⟨gb, 0, none⟩)] W fun e w' => e = .returned (.int .u16 ((w16 L i : Nat) : Int)) ∧ Below W.heap.size W w' := fun W i hi hb hr => sumAt_any W gb gr cap i L _ _ (hat i (by omega)) (hat (i + 1) hi) hb hr hx
    have h10 : ∀ W, Blk W gb 51 #[.slice (some ⟨gr, 0, none⟩) L.length cap] → RowB W gr L → Calls Try.prog 45 #[.int .i64 10, .pointer (some ⟨gb, 0, none⟩)] W fun e w' => e = .returned (.int .u16 ((w16 L 10 : Nat) : Int)) ∧ Below W.heap.size W w' := fun W => hsa W 10 (by omega)
    have h36 : ∀ W, Blk W gb 51 #[.slice (some ⟨gr, 0, none⟩) L.length cap] → RowB W gr L → Calls Try.prog 45 #[.int .i64 36, .pointer (some ⟨gb, 0, none⟩)] W fun e w' => e = .returned (.int .u16 ((w16 L 36 : Nat) : Int)) ∧ Below W.heap.size W w' := fun W => hsa W 36 (by omega)
    clear hsa hat
    generalize hq10 : w16 L 10 = q10 at *
    generalize hq36 : w16 L 36 = q36 at *
    have H10 := Lib.hid h10
    clear h10
    have H36 := Lib.hid h36
    clear h36
    have Hq10 := Lib.hid hq10
    clear hq10
    have Hq36 := Lib.hid hq36
    clear hq36
    clear h40
    go_wp2_with fail
    with_reducible refine (H10.out _ Hb.out Hr7.out).mono ?_
    rintro e w8 ⟨rfl, hbq⟩
    have hr8 := RowB.below Hr7.out hbq Hr7.out.lt
    clear Hr7
    have Hr8 := Lib.hid hr8
    clear hr8
    have hx := Hx.out.below hbq Hx.out.lt
    clear Hx
    have Hx := Lib.hid hx
    clear hx
    have hs := Hs.out.below hbq Hs.out.lt
    clear Hs
    have Hs := Lib.hid hs
    clear hs
    have ht := Ht.out.below hbq Ht.out.lt
    clear Ht
    have Ht := Lib.hid ht
    clear ht
    have hb := Hb.out.below hbq Hb.out.lt
    clear Hb
    have Hb := Lib.hid hb
    clear hb
    have hB := HB.out.trans (hbq.mono HB.out.size)
    clear HB
    have HB := Lib.hid hB
    clear hB
    clear hbq
    go_wp2_with fail
    with_reducible refine (H36.out _ Hb.out Hr8.out).mono ?_
    rintro e w9 ⟨rfl, hbq⟩
    have hr9 := RowB.below Hr8.out hbq Hr8.out.lt
    clear Hr8
    have Hr9 := Lib.hid hr9
    clear hr9
    have hx := Hx.out.below hbq Hx.out.lt
    clear Hx
    have Hx := Lib.hid hx
    clear hx
    have hs := Hs.out.below hbq Hs.out.lt
    clear Hs
    have Hs := Lib.hid hs
    clear hs
    have ht := Ht.out.below hbq Ht.out.lt
    clear Ht
    have Ht := Lib.hid ht
    clear ht
    have hb := Hb.out.below hbq Hb.out.lt
    clear Hb
    have Hb := Lib.hid hb
    clear hb
    have hB := HB.out.trans (hbq.mono HB.out.size)
    clear HB
    have HB := Lib.hid hB
    clear hB
    clear hbq
    go_upto_region 8 with fail
    have hr10 := RowB.below Hr9.out (((Below.refl w9.heap.size w9).alloc (Nat.le_refl _) (.cells #[.int .u16 (q10 : Int)] 23)).alloc (by simp) (.cells #[.int .u16 (q36 : Int)] 23)) Hr9.out.lt
    clear Hr9
    have hw9 := HB.out.size
    have hh := Blk.alloc (Blk.new w9 23 #[.int .u16 (q10 : Int)]) (.cells #[.int .u16 (q36 : Int)] 23)
    have hy := Blk.new (w9.alloc (.cells #[.int .u16 (q10 : Int)] 23)) 23 #[.int .u16 (q36 : Int)]
    rw [show (w9.alloc (.cells #[.int .u16 (q10 : Int)] 23)).heap.size = w9.heap.size + 1 by simp] at hy
    have hx := Blk.alloc (Blk.alloc (Hx.out) (.cells #[.int .u16 (q10 : Int)] 23)) (.cells #[.int .u16 (q36 : Int)] 23)
    clear Hx
    have hs := Blk.alloc (Blk.alloc (Hs.out) (.cells #[.int .u16 (q10 : Int)] 23)) (.cells #[.int .u16 (q36 : Int)] 23)
    clear Hs
    have ht := Blk.alloc (Blk.alloc (Ht.out) (.cells #[.int .u16 (q10 : Int)] 23)) (.cells #[.int .u16 (q36 : Int)] 23)
    clear Ht
    have hb := Blk.alloc (Blk.alloc (Hb.out) (.cells #[.int .u16 (q10 : Int)] 23)) (.cells #[.int .u16 (q36 : Int)] 23)
    clear Hb
    have hB := Below.alloc (Below.alloc (HB.out) (Nat.le_trans HB.out.size (by simp <;> omega)) (.cells #[.int .u16 (q10 : Int)] 23)) (Nat.le_trans HB.out.size (by simp <;> omega)) (.cells #[.int .u16 (q36 : Int)] 23)
    clear HB
    obtain ⟨gy, hgey⟩ : ∃ g, g = w9.heap.size + 1 := ⟨_, rfl⟩
    rw [← hgey] at hy ⊢
    obtain ⟨gh, hgeh⟩ : ∃ g, g = w9.heap.size := ⟨_, rfl⟩
    rw [← hgeh] at hh ⊢
    have hne_h_y : gh ≠ gy := by omega
    have hle_h : w9.heap.size ≤ gh := by omega
    have hle_y : w9.heap.size ≤ gy := by omega
    clear hgeh hgey
    generalize (w9.alloc _).alloc _ = wn5 at *
    have Hx := Lib.hid hx
    clear hx
    have Hs := Lib.hid hs
    clear hs
    have Ht := Lib.hid ht
    clear ht
    have Hb := Lib.hid hb
    clear hb
    have Hh := Lib.hid hh
    clear hh
    have Hy := Lib.hid hy
    clear hy
    have HB := Lib.hid hB
    clear hB
    obtain ⟨w10, hwnw10⟩ : ∃ W, W = wn5 := ⟨_, rfl⟩
    rw [← hwnw10] at Hx Hs Ht Hb Hh Hy HB hr10 ⊢
    clear hwnw10
    have hls : LayS gb gr gh gy cap L.length (rew0 L).M (rew0 L).hd (rew0 L).wh w10 := ⟨Hb.out, hr10, rfl, by have := Hh.out; rw [← Hq10.out] at this; exact this, by have := Hy.out; rw [← Hq36.out] at this; exact this⟩
    have hwh : w.heap.size ≤ gh := by omega
    have hwy : w.heap.size ≤ gy := by omega
    have nt : ¬ OutL gr gh gy gt := by
      have e1 := Ne.symm (RowB.ne_ hr10 Ht.out (by decide))
      have e2 := Blk.ne_ Hh.out Ht.out (by decide)
      have e3 := Blk.ne_ Hy.out Ht.out (by decide)
      rintro (h | h | h)
      · exact e1 h.symm
      · exact e2 h.symm
      · exact e3 h.symm
    have nx : ¬ OutL gr gh gy gx := by
      have e1 := Ne.symm (RowB.ne_ hr10 Hx.out (by decide))
      have e2 := Blk.ne_ Hh.out Hx.out (by decide)
      have e3 := Blk.ne_ Hy.out Hx.out (by decide)
      rintro (h | h | h)
      · exact e1 h.symm
      · exact e2 h.symm
      · exact e3 h.symm
    have nw : ∀ i, i < w.heap.size → ¬ OutL gr gh gy i := by
      have := Hwr.out
      rintro i hi (h | h | h) <;> omega
    have nhr := RowB.ne_ hr10 Hh.out (by decide)
    have nyr := RowB.ne_ hr10 Hy.out (by decide)
    have nbr := RowB.ne_ hr10 Hb.out (by decide)
    have Nhr := Lib.hid nhr
    clear nhr
    have Nyr := Lib.hid nyr
    clear nyr
    have Nbr := Lib.hid nbr
    clear nbr
    clear hr10 hle_h hle_y hw9 hwh hwy Hwr Hq10 Hq36 H10 H36 Hs Hb Hh Hy
    have ok0 := rew0_ok L
    have Hls := Lib.hid hls
    clear hls
    have Nt := Lib.hid nt
    clear nt
    have Nx := Lib.hid nx
    clear nx
    have Nw := Lib.hid nw
    clear nw
    have Ok0 := Lib.hid ok0
    clear ok0
    have Hne_h_y := Lib.hid hne_h_y
    clear hne_h_y
    have Hcap := Lib.hid hcap
    clear hcap
    have Hbl2 := Lib.hid hbl2
    clear hbl2
    have Hsw := Lib.hid hsw
    clear hsw
    have Hn := Lib.hid hn
    clear hn
    go_upto_region 9 with fail
    obtain ⟨t, htt⟩ : ∃ t, t = turnS s sh := ⟨_, rfl⟩
    rw [← htt] at Ht
    have htw : t.wf := by rw [htt]; exact turnS_wf Hsw.out hsh
    have htl : rew1 L t = rew1 L (turnS (sgL L) sh) := by rw [htt, Htn.out]
    have b0 := htw.b0
    have b1 := htw.b1
    have b2 := htw.b2
    have b3 := htw.b3
    have b4 := htw.b4
    have b5 := htw.b5
    have b7 := htw.b7
    clear htw htt Htn
    have Htl := Lib.hid htl
    clear htl
    have B0 := Lib.hid b0
    clear b0
    have B1 := Lib.hid b1
    clear b1
    have B2 := Lib.hid b2
    clear b2
    have B3 := Lib.hid b3
    clear b3
    have B4 := Lib.hid b4
    clear b4
    have B5 := Lib.hid b5
    clear b5
    have B7 := Lib.hid b7
    clear b7
    have cf4 : ∀ (vals : Array Value) (w : World), (callFunc 48 vals).run Try.prog w = .ok (.enter 48 vals) w := fun _ _ => by kernel_rfl
    have cf2 : ∀ (vals : Array Value) (w : World), (callFunc 49 vals).run Try.prog w = .ok (.enter 49 vals) w := fun _ _ => by kernel_rfl
    have cft : ∀ (vals : Array Value) (w : World), (callFunc 50 vals).run Try.prog w = .ok (.enter 50 vals) w := fun _ _ => by kernel_rfl
    have Cf4 := Lib.hid cf4
    clear cf4
    have Cf2 := Lib.hid cf2
    clear cf2
    have Cft := Lib.hid cft
    clear cft
    have z2 : ∀ n, (be2 n).length = 2 := fun _ => rfl
    have z4 : ∀ n, (be4 n).length = 4 := fun _ => rfl
    -- region 9
    have hS0 : Fresh w10 w10 := Below.refl _ _
    have ne : Nonempty (Cls (Fresh w10)) := ⟨⟨w10, hS0⟩⟩
    have k0 : ∀ y : Cls (Fresh w10), y.w.cell? ⟨gt, 0, none⟩ = some (.int .u32 (t.s0 : Int)) := fun y => (Ht.out.below y.h Ht.out.lt).cell 0
    have k2 : ∀ y : Cls (Fresh w10), y.w.cell? ⟨gt, 2, none⟩ = some (.int .u32 (t.s2 : Int)) := fun y => (Ht.out.below y.h Ht.out.lt).cell 2
    have m0 : ∀ y : Cls (Fresh w10), Calls Try.prog 48 #[.int .u32 (t.s0 : Int), .int .i64 4] y.w fun e w'' => e = .returned (.string ⟨(be4 t.s0).toArray⟩) ∧ Fresh w10 w'' ∧ Below y.w.heap.size y.w w'' := fun y => (P.high32 t.s0 y.w B0.out).mono fun e w' ⟨he, hb⟩ => ⟨he, Fresh.below y.h hb, hb⟩
    have m2 : ∀ y : Cls (Fresh w10), Calls Try.prog 48 #[.int .u32 (t.s2 : Int), .int .i64 4] y.w fun e w'' => e = .returned (.string ⟨(be4 t.s2).toArray⟩) ∧ Fresh w10 w'' ∧ Below y.w.heap.size y.w w'' := fun y => (P.high32 t.s2 y.w B2.out).mono fun e w' ⟨he, hb⟩ => ⟨he, Fresh.below y.h hb, hb⟩
    have M0 := Lib.hid m0
    clear m0
    have M2 := Lib.hid m2
    clear m2
    refine wp_region_flow 10 (Fresh w10) (fun w w' => Below w.heap.size w w') (by kernel_rfl) (by kernel_rfl) (by kernel_rfl) (fun w => Below.refl _ _) (Fresh.below hS0 (Below.drew (Below.refl _ _))) ?_
    simp only [List.take_succ_cons, List.take_zero, List.drop_succ_cons, List.drop_zero]
    repeat (first
      | (refine flow_quiet (fun w => Below.refl _ _) rfl rfl rfl rfl ?_; intro K hK; go_big_quiet_op; go_big_quiet_on)
      | (refine flow_call Cf4.out _ ?_ rfl rfl rfl _ M0.out w10 ?_; (focus (simp only [List.map_toArray, List.map_cons, List.map_nil]; rfl)); intro K hK; go_big_quiet_op; go_big_quiet_on)
      | (refine flow_call Cf4.out _ ?_ rfl rfl rfl _ M2.out w10 ?_; (focus (simp only [List.map_toArray, List.map_cons, List.map_nil]; rfl)); intro K hK; go_big_quiet_op; go_big_quiet_on))
    refine flow_nil ?_
    intro W11 f hW hF
    simp only [fillW, Act.put, List.setIfInBounds_toArray, List.set_cons_succ, List.set_cons_zero]
    clear M0 M2 k0 k2 ne hF f
    have hW : Below w10.heap.size w10 W11 := hW
    have hls := Hls.out.below hW
    clear Hls
    have hx := Hx.out.below hW Hx.out.lt
    clear Hx
    have Hx := Lib.hid hx
    clear hx
    have ht := Ht.out.below hW Ht.out.lt
    clear Ht
    have Ht := Lib.hid ht
    clear ht
    have hB := HB.out.trans (hW.mono HB.out.size)
    clear HB
    have HB := Lib.hid hB
    clear hB
    clear hW hS0
    have Hls := Lib.hid hls
    clear hls
    obtain ⟨st1, hst1⟩ : ∃ st, st = LS.lay (rew0 L) 12 (adr t) := ⟨_, rfl⟩
    have okst1 : LS.ok st1 L.length := by rw [hst1]; exact LS.ok.lay Ok0.out (by rw [adr_len]; have := H40.out; omega)
    go_wp2_with fail
    refine (lay_st gb gr gh gy cap L.length 12 (rew0 L) Ok0.out _ (adr t) (cat2 _ _) W11 Hls.out (by rw [adr_len]; have := H40.out; omega) hx Hcap.out Hne_h_y.out).mono ?_
    rintro e w12 ⟨rfl, hls, hout⟩
    rw [← hst1] at hls
    have ht := Ht.out.out_ hout Nt.out
    have hx2 := Hx.out.out_ hout Nx.out
    have hB := HB.out.trans (hout.below HB.out.size Nw.out)
    clear Hls Ht Hx HB hout
    have Ht := Lib.hid ht
    have Hx := Lib.hid hx2
    have HB := Lib.hid hB
    clear ht hx2 hB
    have Hls := Lib.hid hls
    clear hls
    have Okst1 := Lib.hid okst1
    clear okst1
    have Hst1 := Lib.hid hst1
    clear hst1
    -- region 10
    go_upto_region 10 with fail
    have hS0 : Fresh w12 w12 := Below.refl _ _
    have ne : Nonempty (Cls (Fresh w12)) := ⟨⟨w12, hS0⟩⟩
    have k1 : ∀ y : Cls (Fresh w12), y.w.cell? ⟨gt, 1, none⟩ = some (.int .u16 (t.s1 : Int)) := fun y => (Ht.out.below y.h Ht.out.lt).cell 1
    have k3 : ∀ y : Cls (Fresh w12), y.w.cell? ⟨gt, 3, none⟩ = some (.int .u16 (t.s3 : Int)) := fun y => (Ht.out.below y.h Ht.out.lt).cell 3
    have k4 : ∀ y : Cls (Fresh w12), y.w.cell? ⟨gt, 4, none⟩ = some (.int .u32 (t.s4 : Int)) := fun y => (Ht.out.below y.h Ht.out.lt).cell 4
    have k5 : ∀ y : Cls (Fresh w12), y.w.cell? ⟨gt, 5, none⟩ = some (.int .u32 (t.s5 : Int)) := fun y => (Ht.out.below y.h Ht.out.lt).cell 5
    have m1 : ∀ y : Cls (Fresh w12), Calls Try.prog 49 #[.int .u16 (t.s1 : Int), .int .i64 2] y.w fun e w'' => e = .returned (.string ⟨(be2 t.s1).toArray⟩) ∧ Fresh w12 w'' ∧ Below y.w.heap.size y.w w'' := fun y => (P.high16 t.s1 y.w B1.out).mono fun e w' ⟨he, hb⟩ => ⟨he, Fresh.below y.h hb, hb⟩
    have m3 : ∀ y : Cls (Fresh w12), Calls Try.prog 49 #[.int .u16 (t.s3 : Int), .int .i64 2] y.w fun e w'' => e = .returned (.string ⟨(be2 t.s3).toArray⟩) ∧ Fresh w12 w'' ∧ Below y.w.heap.size y.w w'' := fun y => (P.high16 t.s3 y.w B3.out).mono fun e w' ⟨he, hb⟩ => ⟨he, Fresh.below y.h hb, hb⟩
    have m4 : ∀ y : Cls (Fresh w12), Calls Try.prog 48 #[.int .u32 (t.s4 : Int), .int .i64 4] y.w fun e w'' => e = .returned (.string ⟨(be4 t.s4).toArray⟩) ∧ Fresh w12 w'' ∧ Below y.w.heap.size y.w w'' := fun y => (P.high32 t.s4 y.w B4.out).mono fun e w' ⟨he, hb⟩ => ⟨he, Fresh.below y.h hb, hb⟩
    have m5 : ∀ y : Cls (Fresh w12), Calls Try.prog 48 #[.int .u32 (t.s5 : Int), .int .i64 4] y.w fun e w'' => e = .returned (.string ⟨(be4 t.s5).toArray⟩) ∧ Fresh w12 w'' ∧ Below y.w.heap.size y.w w'' := fun y => (P.high32 t.s5 y.w B5.out).mono fun e w' ⟨he, hb⟩ => ⟨he, Fresh.below y.h hb, hb⟩
    have M1 := Lib.hid m1
    clear m1
    have M3 := Lib.hid m3
    clear m3
    have M4 := Lib.hid m4
    clear m4
    have M5 := Lib.hid m5
    clear m5
    refine wp_region_flow 18 (Fresh w12) (fun w w' => Below w.heap.size w w') (by kernel_rfl) (by kernel_rfl) (by kernel_rfl) (fun w => Below.refl _ _) (Fresh.below hS0 (Below.drew (Below.refl _ _))) ?_
    simp only [List.take_succ_cons, List.take_zero, List.drop_succ_cons, List.drop_zero]
    repeat (first
      | (refine flow_quiet (fun w => Below.refl _ _) rfl rfl rfl rfl ?_; intro K hK; go_big_quiet_op; go_big_quiet_on)
      | (refine flow_call Cf2.out _ ?_ rfl rfl rfl _ M1.out w12 ?_; (focus (simp only [List.map_toArray, List.map_cons, List.map_nil]; rfl)); intro K hK; go_big_quiet_op; go_big_quiet_on)
      | (refine flow_call Cf2.out _ ?_ rfl rfl rfl _ M3.out w12 ?_; (focus (simp only [List.map_toArray, List.map_cons, List.map_nil]; rfl)); intro K hK; go_big_quiet_op; go_big_quiet_on)
      | (refine flow_call Cf4.out _ ?_ rfl rfl rfl _ M4.out w12 ?_; (focus (simp only [List.map_toArray, List.map_cons, List.map_nil]; rfl)); intro K hK; go_big_quiet_op; go_big_quiet_on)
      | (refine flow_call Cf4.out _ ?_ rfl rfl rfl _ M5.out w12 ?_; (focus (simp only [List.map_toArray, List.map_cons, List.map_nil]; rfl)); intro K hK; go_big_quiet_op; go_big_quiet_on))
    refine flow_nil ?_
    intro W13 f hW hF
    simp only [fillW, Act.put, List.setIfInBounds_toArray, List.set_cons_succ, List.set_cons_zero]
    clear M1 M3 M4 M5 k1 k3 k4 k5 ne hF f
    have hW : Below w12.heap.size w12 W13 := hW
    have hls := Hls.out.below hW
    clear Hls
    have hx := Hx.out.below hW Hx.out.lt
    clear Hx
    have Hx := Lib.hid hx
    clear hx
    have ht := Ht.out.below hW Ht.out.lt
    clear Ht
    have Ht := Lib.hid ht
    clear ht
    have hB := HB.out.trans (hW.mono HB.out.size)
    clear HB
    have HB := Lib.hid hB
    clear hB
    clear hW hS0
    have Hls := Lib.hid hls
    clear hls
    obtain ⟨st2, hst2⟩ : ∃ st, st = LS.lay st1 20 (nums t) := ⟨_, rfl⟩
    have okst2 : LS.ok st2 L.length := by rw [hst2]; exact LS.ok.lay Okst1.out (by rw [nums_len]; have := H40.out; omega)
    go_wp2_with fail
    refine (lay_st gb gr gh gy cap L.length 20 st1 Okst1.out _ (nums t) (cat4 _ _ _ _) W13 Hls.out (by rw [nums_len]; have := H40.out; omega) hx Hcap.out Hne_h_y.out).mono ?_
    rintro e w14 ⟨rfl, hls, hout⟩
    rw [← hst2] at hls
    have ht := Ht.out.out_ hout Nt.out
    have hx2 := Hx.out.out_ hout Nx.out
    have hB := HB.out.trans (hout.below HB.out.size Nw.out)
    clear Hls Ht Hx HB hout
    have Ht := Lib.hid ht
    have Hx := Lib.hid hx2
    have HB := Lib.hid hB
    clear ht hx2 hB
    have Hls := Lib.hid hls
    clear hls
    have Okst2 := Lib.hid okst2
    clear okst2
    have Hst2 := Lib.hid hst2
    clear hst2
    -- region 11
    have k7 : w14.cell? ⟨gt, 7, none⟩ = some (.int .u16 (t.s7 : Int)) := Ht.out.cell 7
    go_wp2_with fail
    refine (P.high16 t.s7 w14 B7.out).mono ?_
    rintro e w15 ⟨rfl, hW⟩
    clear k7
    have hls := Hls.out.below hW
    clear Hls
    have hx := Hx.out.below hW Hx.out.lt
    clear Hx
    have Hx := Lib.hid hx
    clear hx
    have ht := Ht.out.below hW Ht.out.lt
    clear Ht
    have Ht := Lib.hid ht
    clear ht
    have hB := HB.out.trans (hW.mono HB.out.size)
    clear HB
    have HB := Lib.hid hB
    clear hB
    clear hW
    have Hls := Lib.hid hls
    clear hls
    obtain ⟨st3, hst3⟩ : ∃ st, st = LS.lay st2 34 (be2 t.s7) := ⟨_, rfl⟩
    have okst3 : LS.ok st3 L.length := by rw [hst3]; exact LS.ok.lay Okst2.out (by rw [be2_len]; have := H40.out; omega)
    go_wp2_with fail
    refine (lay_st gb gr gh gy cap L.length 34 st2 Okst2.out _ (be2 t.s7) rfl w15 Hls.out (by rw [be2_len]; have := H40.out; omega) hx Hcap.out Hne_h_y.out).mono ?_
    rintro e w16 ⟨rfl, hls, hout⟩
    rw [← hst3] at hls
    have ht := Ht.out.out_ hout Nt.out
    have hx2 := Hx.out.out_ hout Nx.out
    have hB := HB.out.trans (hout.below HB.out.size Nw.out)
    clear Hls Ht Hx HB hout
    have Ht := Lib.hid ht
    have Hx := Lib.hid hx2
    have HB := Lib.hid hB
    clear ht hx2 hB
    have Hls := Lib.hid hls
    clear hls
    have Okst3 := Lib.hid okst3
    clear okst3
    have Hst3 := Lib.hid hst3
    clear hst3
    -- region 12
    have hst : st3 = rew1 L (turnS (sgL L) sh) := by rw [← Htl.out, Hst3.out, Hst2.out, Hst1.out]; rfl
    have l32 : 32 < x.size := by have : x.size = L.length := by rw [← hL]; rfl
                                 have := H40.out; omega
    have g32 : (x[32]'l32).toNat = at0L L 32 := by
      unfold at0L
      rw [← hL, T.getD_get x 32 l32]
    have i32 : (32 : Int) < (x.size : Int) := by omega
    have u32 := (x[32]'l32).toNat_lt
    have v32 : ((x[32]'l32).toNat : Int) < 256 := by omega
    obtain ⟨n12, hn12⟩ : ∃ n, n = 40 + (oB L).length := ⟨_, rfl⟩
    have x12 : (20 : Int) + ((x[32]'l32).toNat : Int) / 16 * 4 = (n12 : Int) := by have := H20.out; omega
    have y12 : (40 : Int) ≤ (20 : Int) + ((x[32]'l32).toNat : Int) / 16 * 4 := by omega
    have z12 : (20 : Int) + ((x[32]'l32).toNat : Int) / 16 * 4 ≤ (x.size : Int) := by
      have : x.size = L.length := by rw [← hL]; rfl
      have := H40.out
      omega
    have e12 : (x.extract 40 ((20 : Int) + ((x[32]'l32).toNat : Int) / 16 * 4).toNat).data.toList = oB L := by
      rw [x12, Int.toNat_natCast, T.str_sub, hL, hn12]
      unfold T.sub
      rw [Nat.add_sub_cancel_left]
      exact Hob.out.symm
    obtain ⟨S, hS⟩ : ∃ S, S = x.extract 40 ((20 : Int) + ((x[32]'l32).toNat : Int) / 16 * 4).toNat := ⟨_, rfl⟩
    have hslc : ∀ W, (Instr.slice 9 (.string x) (some (.int .i64 40)) (some (.int .i64 ((20 : Int) + ((x[32]'l32).toNat : Int) / 16 * 4))) none).run Try.prog W = .ok (.string S) W := fun W => by
      have := run_slice_string (P := Try.prog) W 9 x .i64 .i64 40 ((20 : Int) + ((x[32]'l32).toNat : Int) / 16 * 4) Try.underlying9 (by decide) y12 z12
      rw [this, hS]
      rfl
    rw [← hS] at e12
    obtain ⟨O, hO⟩ : ∃ O, O = (turnR sh.x5 sh.x6 sh.x7 (oB L)).1 := ⟨_, rfl⟩
    obtain ⟨oc, hoc⟩ : ∃ c, c = (turnR sh.x5 sh.x6 sh.x7 (oB L)).2 := ⟨_, rfl⟩
    have hOl : O.length = (oB L).length := by
      rw [hO]
      unfold turnR
      rw [if_pos (fine_of HE.out).o]
      exact turnL_len _ _ _ _
    have hturn := fun W => oturn_any S (oB L) e12 sh.x5 sh.x6 sh.x7 hsh.b5 hsh.b6 hsh.b7 W
    unfold TurnPost at hturn
    rw [← hO, ← hoc] at hturn
    have Hst := Lib.hid hst
    clear hst
    have G32 := Lib.hid g32
    clear g32
    have Hn12 := Lib.hid hn12
    clear hn12
    have E12 := Lib.hid e12
    clear e12
    have X12 := Lib.hid x12
    clear x12
    have Hturn := Lib.hid hturn
    clear hturn
    have HOl := Lib.hid hOl
    clear hOl
    have HO := Lib.hid hO
    clear hO
    have Hoc := Lib.hid hoc
    clear hoc
    have HS := Lib.hid hS
    clear hS
    clear Htl Hst1 Hst2 Hst3
    go_upto_region 12 with fail
    have hS0 : Fresh w16 w16 := Below.refl _ _
    have ne : Nonempty (Cls (Fresh w16)) := ⟨⟨w16, hS0⟩⟩
    have k5 : ∀ y : Cls (Fresh w16), y.w.cell? ⟨gx, 5, none⟩ = some (.int .u32 (sh.x5 : Int)) := fun y => (Hx.out.below y.h Hx.out.lt).cell 5
    have k6 : ∀ y : Cls (Fresh w16), y.w.cell? ⟨gx, 6, none⟩ = some (.int .u32 (sh.x6 : Int)) := fun y => (Hx.out.below y.h Hx.out.lt).cell 6
    have k7 : ∀ y : Cls (Fresh w16), y.w.cell? ⟨gx, 7, none⟩ = some (.int .u32 (sh.x7 : Int)) := fun y => (Hx.out.below y.h Hx.out.lt).cell 7
    have mt : ∀ y : Cls (Fresh w16), Calls Try.prog 50 #[.string S, .int .u32 (sh.x5 : Int), .int .u32 (sh.x6 : Int), .int .u32 (sh.x7 : Int)] y.w fun e w'' => e = .returned (.tuple #[.string ⟨O.toArray⟩, .int .i64 oc]) ∧ Fresh w16 w'' ∧ Below y.w.heap.size y.w w'' := fun y => (Hturn.out y.w).mono fun e w' ⟨he, hb⟩ => ⟨he, Fresh.below y.h hb, hb⟩
    have Mt := Lib.hid mt
    clear mt
    refine wp_region_flow 20 (Fresh w16) (fun w w' => Below w.heap.size w w') (by kernel_rfl) (by kernel_rfl) (by kernel_rfl) (fun w => Below.refl _ _) (Fresh.below hS0 (Below.drew (Below.refl _ _))) ?_
    simp only [List.take_succ_cons, List.take_zero, List.drop_succ_cons, List.drop_zero]
    repeat (first
      | (refine flow_quiet (fun w => Below.refl _ _) rfl rfl rfl rfl ?_; intro K hK; go_big_quiet_op; go_big_quiet_on)
      | (refine flow_call Cft.out _ ?_ rfl rfl rfl _ Mt.out w16 ?_; (focus (simp only [List.map_toArray, List.map_cons, List.map_nil]; rfl)); intro K hK; go_big_quiet_op; go_big_quiet_on))
    refine flow_nil ?_
    intro W17 f hW hF
    simp only [fillW, Act.put, List.setIfInBounds_toArray, List.set_cons_succ, List.set_cons_zero]
    clear Mt k5 k6 k7 ne hF f
    have hW : Below w16.heap.size w16 W17 := hW
    have hls := Hls.out.below hW
    clear Hls
    have hx := Hx.out.below hW Hx.out.lt
    clear Hx
    have Hx := Lib.hid hx
    clear hx
    have ht := Ht.out.below hW Ht.out.lt
    clear Ht
    have Ht := Lib.hid ht
    clear ht
    have hB := HB.out.trans (hW.mono HB.out.size)
    clear HB
    have HB := Lib.hid hB
    clear hB
    clear hW hS0
    have Hls := Lib.hid hls
    clear hls
    -- region 13
    clear Hturn y12 z12 hslc HS
    obtain ⟨st4, hst4⟩ : ∃ st, st = LS.lay st3 40 O := ⟨_, rfl⟩
    have okst4 : LS.ok st4 L.length := by rw [hst4]; exact LS.ok.lay Okst3.out (by rw [HOl.out]; have := H40.out; omega)
    go_wp2_with fail
    refine (lay_st gb gr gh gy cap L.length 40 st3 Okst3.out _ O rfl W17 Hls.out (by rw [HOl.out]; have := H40.out; omega) hx Hcap.out Hne_h_y.out).mono ?_
    rintro e w18 ⟨rfl, hls, hout⟩
    rw [← hst4] at hls
    have ht := Ht.out.out_ hout Nt.out
    have hx2 := Hx.out.out_ hout Nx.out
    have hB := HB.out.trans (hout.below HB.out.size Nw.out)
    clear Hls Ht Hx HB hout
    have Ht := Lib.hid ht
    have Hx := Lib.hid hx2
    have HB := Lib.hid hB
    clear ht hx2 hB
    have Hls := Lib.hid hls
    clear hls
    have Okst4 := Lib.hid okst4
    clear okst4
    have Hst4 := Lib.hid hst4
    clear hst4
    clear Ht Hx
    -- region 14
    go_upto_region 14 with fail
    have hh10 : st4.hd < 65536 := Okst4.out.hd
    have Hh10 := Lib.hid hh10
    clear hh10
    have l10 : (10 : Int) ≤ (L.length : Int) := by have := H40.out; omega
    have c10 : (L.length : Int) ≤ (cap : Int) := by have := Hcap.out; omega
    have d10 : ¬ cap = 10 := by have := H40.out; omega
    have hlb := Hls.out.b
    have hlc := Hls.out.h
    have hS0 : Fresh w18 w18 := Below.refl _ _
    have ne : Nonempty (Cls (Fresh w18)) := ⟨⟨w18, hS0⟩⟩
    have k0 : ∀ y : Cls (Fresh w18), y.w.cell? ⟨gb, 0, none⟩ = some (.slice (some ⟨gr, 0, none⟩) L.length cap) := fun y => (hlb.below y.h hlb.lt).cell 0
    have k1 : ∀ y : Cls (Fresh w18), y.w.cell? ⟨gh, 0, none⟩ = some (.int .u16 (st4.hd : Int)) := fun y => (hlc.below y.h hlc.lt).cell 0
    have m0 : ∀ y : Cls (Fresh w18), Calls Try.prog 49 #[.int .u16 (st4.hd : Int), .int .i64 2] y.w fun e w'' => e = .returned (.string ⟨(be2 st4.hd).toArray⟩) ∧ Fresh w18 w'' ∧ Below y.w.heap.size y.w w'' := fun y => (P.high16 st4.hd y.w Hh10.out).mono fun e w' ⟨he, hb⟩ => ⟨he, Fresh.below y.h hb, hb⟩
    have M0 := Lib.hid m0
    clear m0
    have Hlb := Lib.hid hlb
    clear hlb
    have Hlc := Lib.hid hlc
    clear hlc
    refine wp_region_flow 4 (Fresh w18) (fun w w' => Below w.heap.size w w') (by kernel_rfl) (by kernel_rfl) (by kernel_rfl) (fun w => Below.refl _ _) (Fresh.below hS0 (Below.drew (Below.refl _ _))) ?_
    simp only [List.take_succ_cons, List.take_zero, List.drop_succ_cons, List.drop_zero]
    repeat (first
      | (refine flow_quiet (fun w => Below.refl _ _) rfl rfl rfl rfl ?_; intro K hK; go_big_quiet_op; go_big_quiet_on)
      | (refine flow_call Cf2.out _ ?_ rfl rfl rfl _ M0.out w18 ?_; (focus (simp only [List.map_toArray, List.map_cons, List.map_nil]; rfl)); intro K hK; go_big_quiet_op; go_big_quiet_on))
    refine flow_nil ?_
    intro W19 f hW hF
    simp only [fillW, Act.put, List.setIfInBounds_toArray, List.set_cons_succ, List.set_cons_zero]
    clear M0 k0 k1 ne hF f Hlb Hlc
    have hW : Below w18.heap.size w18 W19 := hW
    have hls := Hls.out.below hW
    clear Hls
    have hB := HB.out.trans (hW.mono HB.out.size)
    clear HB
    have HB := Lib.hid hB
    clear hB
    clear hW hS0
    obtain ⟨w20, q1, q2, q3⟩ := run_copy_rowB W19 gr 10 (L.length - 10) (cap - 10) ⟨(be2 (st4.hd)).toArray⟩ (st4.M) (be2 (st4.hd)) rfl hls.r (by rw [be2_len]; have := H40.out; omega) (by rw [be2_len, hls.n]; have := H40.out; omega)
    have hls2 := hls.setr (M' := layM (st4.M) 10 (be2 (st4.hd))) q2 (by rw [layM_len (by rw [be2_len, hls.n]; have := H40.out; omega), hls.n]) q3 Nhr.out Nyr.out Nbr.out
    have hout : Out (OutL gr gh gy) W19 w20 := Out.grown (O := OutL gr gh gy) q3 (.inl rfl)
    have hB := HB.out.trans (hout.below HB.out.size Nw.out)
    clear HB q2 q3 hout hls
    have HB := Lib.hid hB
    clear hB
    have hls := hls2
    clear hls2
    have Hls := Lib.hid hls
    clear hls
    go_upto_region 15 with fail
    clear q1 l10 c10 d10
    -- region 15
    go_upto_region 15 with fail
    have hh36 : st4.wh < 65536 := Okst4.out.wh
    have Hh36 := Lib.hid hh36
    clear hh36
    have l10 : (36 : Int) ≤ (L.length : Int) := by have := H40.out; omega
    have c10 : (L.length : Int) ≤ (cap : Int) := by have := Hcap.out; omega
    have d10 : ¬ cap = 36 := by have := H40.out; omega
    have hlb := Hls.out.b
    have hlc := Hls.out.w
    have hS0 : Fresh w20 w20 := Below.refl _ _
    have ne : Nonempty (Cls (Fresh w20)) := ⟨⟨w20, hS0⟩⟩
    have k0 : ∀ y : Cls (Fresh w20), y.w.cell? ⟨gb, 0, none⟩ = some (.slice (some ⟨gr, 0, none⟩) L.length cap) := fun y => (hlb.below y.h hlb.lt).cell 0
    have k1 : ∀ y : Cls (Fresh w20), y.w.cell? ⟨gy, 0, none⟩ = some (.int .u16 (st4.wh : Int)) := fun y => (hlc.below y.h hlc.lt).cell 0
    have m0 : ∀ y : Cls (Fresh w20), Calls Try.prog 49 #[.int .u16 (st4.wh : Int), .int .i64 2] y.w fun e w'' => e = .returned (.string ⟨(be2 st4.wh).toArray⟩) ∧ Fresh w20 w'' ∧ Below y.w.heap.size y.w w'' := fun y => (P.high16 st4.wh y.w Hh36.out).mono fun e w' ⟨he, hb⟩ => ⟨he, Fresh.below y.h hb, hb⟩
    have M0 := Lib.hid m0
    clear m0
    have Hlb := Lib.hid hlb
    clear hlb
    have Hlc := Lib.hid hlc
    clear hlc
    refine wp_region_flow 4 (Fresh w20) (fun w w' => Below w.heap.size w w') (by kernel_rfl) (by kernel_rfl) (by kernel_rfl) (fun w => Below.refl _ _) (Fresh.below hS0 (Below.drew (Below.refl _ _))) ?_
    simp only [List.take_succ_cons, List.take_zero, List.drop_succ_cons, List.drop_zero]
    repeat (first
      | (refine flow_quiet (fun w => Below.refl _ _) rfl rfl rfl rfl ?_; intro K hK; go_big_quiet_op; go_big_quiet_on)
      | (refine flow_call Cf2.out _ ?_ rfl rfl rfl _ M0.out w20 ?_; (focus (simp only [List.map_toArray, List.map_cons, List.map_nil]; rfl)); intro K hK; go_big_quiet_op; go_big_quiet_on))
    refine flow_nil ?_
    intro W21 f hW hF
    simp only [fillW, Act.put, List.setIfInBounds_toArray, List.set_cons_succ, List.set_cons_zero]
    clear M0 k0 k1 ne hF f Hlb Hlc
    have hW : Below w20.heap.size w20 W21 := hW
    have hls := Hls.out.below hW
    clear Hls
    have hB := HB.out.trans (hW.mono HB.out.size)
    clear HB
    have HB := Lib.hid hB
    clear hB
    clear hW hS0
    obtain ⟨w22, q1, q2, q3⟩ := run_copy_rowB W21 gr 36 (L.length - 36) (cap - 36) ⟨(be2 (st4.wh)).toArray⟩ (layM st4.M 10 (be2 st4.hd)) (be2 (st4.wh)) rfl hls.r (by rw [be2_len]; have := H40.out; omega) (by rw [be2_len, hls.n]; have := H40.out; omega)
    have hls2 := hls.setr (M' := layM (layM st4.M 10 (be2 st4.hd)) 36 (be2 (st4.wh))) q2 (by rw [layM_len (by rw [be2_len, hls.n]; have := H40.out; omega), hls.n]) q3 Nhr.out Nyr.out Nbr.out
    have hout : Out (OutL gr gh gy) W21 w22 := Out.grown (O := OutL gr gh gy) q3 (.inl rfl)
    have hB := HB.out.trans (hout.below HB.out.size Nw.out)
    clear HB q2 q3 hout hls
    have HB := Lib.hid hB
    clear hB
    have hls := hls2
    clear hls2
    have Hls := Lib.hid hls
    clear hls
    go_upto_region 16 with fail
    clear q1 l10 c10 d10
    -- region 16
    have hM : layM (layM st4.M 10 (be2 st4.hd)) 36 (be2 st4.wh) = rewL L sh := by
      rw [Hst4.out, Hst.out, HO.out]
      rfl
    have hls := Hls.out
    rw [hM] at hls
    have hb0 := hls.b.cell 0
    simp at hb0
    have hbk := run_bytes_back w22 ⟨gr, 0, none⟩ L.length cap (rewL L sh) hls.n.symm (by
      intro j hj
      rw [add_plain, Nat.zero_add, hls.r.cell (List.getElem?_eq_getElem hj)]
      rfl)
    have hR : rewR L sh = (⟨(rewL L sh).toArray⟩, 0) := by
      unfold rewR
      rw [if_pos HE.out]
    clear hls hM Hls
    generalize rewL L sh = M at *
    have HR := Lib.hid hR
    clear hR
    go_wp2
    go_ret2
    refine ⟨?_, HB.out⟩
    rw [HR.out]
    rfl
  · go_wp2
    go_ret2
    rw [rew_bad hrc hc]
    exact ⟨rfl, HB.out⟩
end Go.Proofs.Ytengegcnocdkoaa
end
section
set_option maxRecDepth 20000
namespace Go.Proofs.Ytengegcnocdkoaa
open Go.RowKit
/-! options' own bytes, turned -/
theorem turnF_eq {t : Nat → List UInt8 → List UInt8} : ∀ (f g : Nat) (L : List UInt8), L.length < f → L.length < g → turnF t f L = turnF t g L := by
  intro f
  induction f with
  | zero => intro g L h; omega
  | succ f ih =>
    intro g L hf hg
    cases g with
    | zero => omega
    | succ g =>
      match L with
      | [] => rfl
      | [k] =>
        by_cases h0 : k.toNat = 0
        · rw [turnF_zero _ _ _ h0, turnF_zero _ _ _ h0]
        by_cases h1 : k.toNat = 1
        · rw [turnF_one _ _ _ h1, turnF_one _ _ _ h1, ih g [] (by simp at *; omega) (by simp at *; omega)]
        rw [turnF_end _ _ h0 h1, turnF_end _ _ h0 h1]
      | k :: n :: b =>
        simp only [List.length_cons] at hf hg
        by_cases h0 : k.toNat = 0
        · rw [turnF_zero _ _ _ h0, turnF_zero _ _ _ h0]
        by_cases h1 : k.toNat = 1
        · rw [turnF_one _ _ _ h1, turnF_one _ _ _ h1, ih g (n :: b) (by simp; omega) (by simp; omega)]
        by_cases hc : longB k.toNat n.toNat = true ∧ n.toNat ≤ b.length + 2
        · rw [turnF_opt _ _ h0 h1 hc, turnF_opt _ _ h0 h1 hc, ih g (b.drop (n.toNat - 2)) (by rw [List.length_drop]; omega) (by rw [List.length_drop]; omega)]
        · rw [turnF_bad _ _ h0 h1 hc, turnF_bad _ _ h0 h1 hc]
section
variable (bl va ec : Nat)
theorem turnT_nil : turnT bl va ec [] = [] := rfl
theorem turnT_one {k : UInt8} (r : List UInt8) (h : k.toNat = 1) : turnT bl va ec (k :: r) = k :: turnT bl va ec r := by
  unfold turnT
  rw [turnF_one _ _ _ h]
  congr 1
theorem turnT_opt {k n : UInt8} (b r : List UInt8) (h0 : k.toNat ≠ 0) (h1 : k.toNat ≠ 1) (hl : longB k.toNat n.toNat = true) (hn : n.toNat = b.length + 2) : turnT bl va ec (k :: n :: (b ++ r)) = k :: n :: (tb bl va ec k.toNat b ++ turnT bl va ec r) := by
  unfold turnT
  rw [turnF_opt _ _ h0 h1 ⟨hl, by rw [List.length_append]; omega⟩, hn, Nat.add_sub_cancel, List.take_left, List.drop_left]
  congr 3
  exact turnF_eq _ _ _ (by simp; omega) (by simp)
theorem turn_mss (o : Op) (r : List UInt8) : turnT bl va ec (mssL o ++ r) = mssL (turnO bl va ec o) ++ turnT bl va ec r := by
  have e : mssL (turnO bl va ec o) = mssL o := rfl
  rw [e]
  unfold mssL
  split
  · rfl
  · rw [show [2, 4] ++ be2 o.mss ++ r = (2 : UInt8) :: 4 :: (be2 o.mss ++ r) by simp, turnT_opt _ _ _ _ _ (by decide) (by decide) (by decide) rfl]
    rfl
theorem turn_scale (o : Op) (r : List UInt8) : turnT bl va ec (scaleL o ++ r) = scaleL (turnO bl va ec o) ++ turnT bl va ec r := by
  have e : scaleL (turnO bl va ec o) = scaleL o := rfl
  rw [e]
  unfold scaleL
  split
  · rfl
  · rw [show [1, 3, 3, UInt8.ofNat o.scale.toNat] ++ r = (1 : UInt8) :: 3 :: 3 :: ([UInt8.ofNat o.scale.toNat] ++ r) by simp, turnT_one _ _ _ _ (by decide), turnT_opt _ _ _ _ _ (by decide) (by decide) (by decide) rfl]
    rfl
theorem turn_sack (o : Op) (r : List UInt8) : turnT bl va ec (sackL o ++ r) = sackL (turnO bl va ec o) ++ turnT bl va ec r := by
  have e : sackL (turnO bl va ec o) = sackL o := rfl
  rw [e]
  unfold sackL
  split
  · rw [show [1, 1, 4, 2] ++ r = (1 : UInt8) :: 1 :: 4 :: 2 :: ([] ++ r) by simp, turnT_one _ _ _ _ (by decide), turnT_one _ _ _ _ (by decide), turnT_opt _ _ _ _ _ (by decide) (by decide) (by decide) rfl]
    rfl
  · rfl
theorem turn_time (o : Op) (hw : o.wf) (r : List UInt8) : turnT bl va ec (timeL o ++ r) = timeL (turnO bl va ec o) ++ turnT bl va ec r := by
  obtain ⟨w1, w2, w3, w4, w5⟩ := hw
  unfold timeL
  show turnT bl va ec ((if o.time = true then _ else _) ++ r) = (if o.time = true then [1, 1, 8, 10] ++ (be4 (if o.time then (o.val + va) % 4294967296 else o.val) ++ be4 (if o.time then (o.echo + ec) % 4294967296 else o.echo)) else []) ++ _
  split
  · rename_i ht
    rw [show [1, 1, 8, 10] ++ (be4 o.val ++ be4 o.echo) ++ r = (1 : UInt8) :: 1 :: 8 :: 10 :: ((be4 o.val ++ be4 o.echo) ++ r) by simp, turnT_one _ _ _ _ (by decide), turnT_one _ _ _ _ (by decide), turnT_opt _ _ _ _ _ (by decide) (by decide) (by decide) rfl]
    have e : tb bl va ec (8 : UInt8).toNat (be4 o.val ++ be4 o.echo) = be4 ((o.val + va) % 4294967296) ++ be4 ((o.echo + ec) % 4294967296) := by
      unfold tb
      rw [if_pos (by decide), take4_be4, drop4_be4, numL_be4 w3, numL_be4 w4]
    rw [e]
    simp
  · rfl
theorem addWF_blks (d : Nat) : ∀ (l : List (Int × Int)) (f : Nat), (blksL l).length ≤ f → (∀ p ∈ l, (0 ≤ p.1 ∧ p.1 ≤ 4294967295) ∧ 0 ≤ p.2 ∧ p.2 ≤ 4294967295) → addWF d f (blksL l) = blksL (l.map (tP d)) := by
  intro l
  induction l with
  | nil =>
    intro f _ _
    cases f <;> simp [addWF, blksL]
  | cons p l ih =>
    intro f hf hb
    have h1 : ∀ (q : Int × Int) (m : List (Int × Int)), blksL (q :: m) = be4 q.1.toNat ++ (be4 q.2.toNat ++ blksL m) := fun q m => by simp [blksL]
    have hp := hb p List.mem_cons_self
    rw [List.map_cons, h1, h1]
    rw [h1] at hf
    rw [List.length_append, List.length_append, be4_len, be4_len] at hf
    obtain ⟨f, rfl⟩ : ∃ f', f = f' + 2 := ⟨f - 2, by omega⟩
    rw [addWF, if_neg (be4_ne _ _), take4_be4, drop4_be4, addWF, if_neg (be4_ne _ _), take4_be4, drop4_be4, ih f (by omega) (fun q hq => hb q (List.mem_cons_of_mem _ hq)), numL_be4 (by omega), numL_be4 (by omega)]
    have e1 : (p.1.toNat + d) % 4294967296 = (tP d p).1.toNat := by unfold tP; dsimp only; omega
    have e2 : (p.2.toNat + d) % 4294967296 = (tP d p).2.toNat := by unfold tP; dsimp only; omega
    rw [e1, e2]
theorem turn_blk (o : Op) (hw : o.wf) (h : o.bl.length ≤ 4) (r : List UInt8) : turnT bl va ec (bheadL o.bl.length ++ blksL o.bl ++ r) = bheadL (turnO bl va ec o).bl.length ++ blksL (turnO bl va ec o).bl ++ turnT bl va ec r := by
  have hlm : (turnO bl va ec o).bl.length = o.bl.length := by show (o.bl.map _).length = _; simp
  rw [hlm]
  unfold bheadL
  by_cases h0 : o.bl.length = 0
  · have e : (turnO bl va ec o).bl = [] := List.length_eq_zero_iff.1 (hlm.trans h0)
    rw [if_pos h0, e, List.length_eq_zero_iff.1 h0]
    rfl
  · rw [if_neg h0]
    have hl := blks_len o.bl
    have hb : (UInt8.ofNat (2 + 8 * o.bl.length)).toNat = 2 + 8 * o.bl.length := by rw [UInt8.toNat_ofNat']; omega
    rw [show [1, 1, 5, UInt8.ofNat (2 + 8 * o.bl.length)] ++ blksL o.bl ++ r = (1 : UInt8) :: 1 :: 5 :: UInt8.ofNat (2 + 8 * o.bl.length) :: (blksL o.bl ++ r) by simp, turnT_one _ _ _ _ (by decide), turnT_one _ _ _ _ (by decide), turnT_opt _ _ _ _ _ (by decide) (by decide) ?_ (by rw [hb, hl]; omega)]
    · have e : tb bl va ec (5 : UInt8).toNat (blksL o.bl) = blksL (turnO bl va ec o).bl := by
        unfold tb
        rw [if_neg (by decide), if_pos (by decide)]
        exact addWF_blks bl o.bl _ (Nat.le_refl _) hw.bl
      rw [e]
      simp
    · rw [hb]
      have : o.bl.length = 1 ∨ o.bl.length = 2 ∨ o.bl.length = 3 ∨ o.bl.length = 4 := by omega
      rcases this with h | h | h | h <;> rw [h] <;> rfl
theorem turn_raw (o : Op) (hw : o.wf) (h : o.bl.length ≤ 4) : turnT bl va ec (rawL o) = rawL (turnO bl va ec o) := by
  have := turn_mss bl va ec o (scaleL o ++ (sackL o ++ (timeL o ++ (bheadL o.bl.length ++ blksL o.bl ++ []))))
  rw [turn_scale, turn_sack, turn_time _ _ _ _ hw, turn_blk _ _ _ _ hw h, turnT_nil] at this
  unfold rawL
  simpa [List.append_assoc] using this
end
section
variable {s : Sg} {x : Sh}
/-- a segment's packet, in parts -/
def Sg.pk (s : Sg) : Pk := ⟨I.frontL s.ih (20 + s.tl.length), be2 (I.sumL s.ih (20 + s.tl.length)), adr s, nums s, [T.offB (20 + s.th.opts.size), s.th.flags], be2 s.s7, be2 (T.sumL s.s0 s.s2 s.th s.d.data.toList), be2 0, rawL s.o, s.d.data.toList⟩
theorem pk_ok (s : Sg) : s.pk.ok := ⟨rfl, rfl, rfl, rfl, rfl, rfl, rfl, rfl⟩
theorem pk_all (s : Sg) : s.pl = s.pk.all := by
  have e : s.th.opts.data.toList = rawL s.o := by show (rawL s.o).toArray.toList = _; simp
  have e2 : s.tl = T.rawL s.th s.d.data.toList (T.sumL s.s0 s.s2 s.th s.d.data.toList) := rfl
  unfold Sg.pl I.encL I.headL
  rw [e2]
  unfold T.rawL T.frontL T.backL
  rw [e]
  unfold Pk.all Sg.pk adr nums
  rw [e2]
  simp only [List.append_assoc]
  rfl
theorem own_fine (w : s.wf) (h : s.may = true) : Fine s.pl ∧ sgL s.pl = s := by
  obtain ⟨l1, l2, l3, l4⟩ := Sg.len w h
  have hm := Sg.th_may w h
  have hp := Sg.may_parts h
  have kI : hI s.pl = s.ih := I.decH_enc (Sg.ih_ok w)
  have kd : s.pl.drop 20 = s.tl := I.enc_drop _ _
  have kT : hT s.pl = s.th := by unfold hT; rw [kd]; exact T.decH_enc (Sg.th_ok w) hm
  have e : s.th.opts.data.toList = rawL s.o := by show (rawL s.o).toArray.toList = _; simp
  have kO : oB s.pl = rawL s.o := by unfold oB; rw [kT, e]
  have kR : decR (rawL s.o) = (s.o, 0) := by
    unfold decR
    rw [if_neg (by have := (mayB_parts hp.2.1).2.2.2; omega), dec_raw s.o w.o hp.2.1]
  have kD : dB s.pl = s.d := by
    unfold dB
    rw [kd]
    have : (s.tl.drop (T.endN s.tl)) = s.d.data.toList := T.drop_enc hm
    rw [this]
  refine ⟨⟨I.decE_enc (Sg.ih_ok w) (by omega), by rw [kI]; rfl, ?_, by rw [kO, kR], by rw [kT, Sg.th_flags w]; exact hp.1, by rw [kD]; exact hp.2.2⟩, ?_⟩
  · rw [kI, kd]
    have h1 := Sg.th_size (s := s)
    exact T.decE_enc (s := s.s0) (d := s.s2) hm (by have : s.d.data.toList.length = s.d.size := rfl; omega)
  · unfold sgL
    rw [kI, kT, kO, kR, kD, Sg.th_flags w]
    rfl
theorem turn_len (hw : s.o.wf) (h : s.o.bl.length ≤ 4) : (rawL (turnS s x).o).length = (rawL s.o).length := by
  show (rawL (turnO x.x5 x.x6 x.x7 s.o)).length = _
  rw [← turn_raw _ _ _ _ hw h, turnL_len]
theorem turn_may (w : s.wf) (h : s.may = true) : (turnS s x).may = true := by
  have hp := Sg.may_parts h
  have hq := mayB_parts hp.2.1
  have hl := turn_len (x := x) w.o hq.2.2.1
  have hm := hp.2.1
  unfold mayB at hm
  simp only [Bool.and_eq_true, decide_eq_true_eq] at hm
  unfold Sg.may pmayB
  simp only [Bool.and_eq_true, decide_eq_true_eq]
  refine ⟨⟨hp.1, ?_⟩, hp.2.2⟩
  unfold mayB
  simp only [Bool.and_eq_true, decide_eq_true_eq]
  refine ⟨hm.1, hm.2.1, ?_, ?_, by rw [hl]; exact hm.2.2.2.2⟩
  · show (s.o.bl.map _).length ≤ 4
    rw [List.length_map]
    exact hm.2.2.1
  · have h4 := hm.2.2.2.1
    show (s.o.time || ((if s.o.time then (s.o.val + x.x6) % 4294967296 else s.o.val) == 0 && (if s.o.time then (s.o.echo + x.x7) % 4294967296 else s.o.echo) == 0)) = true
    cases ht : s.o.time with
    | true => rfl
    | false =>
      rw [ht] at h4
      simpa using h4
theorem nrm_c {a b : Nat} (h : a = b) : 65535 - nrm a = 65535 - nrm b := by rw [h]
theorem ofL_w (l : List UInt8) : ofL l = 65535 - nrm (wsum l) := rfl
theorem wsum_front (h : I.IPh) (n : Nat) : 0 < wsum (I.frontL h n) := by
  unfold wsum I.frontL
  show 0 < (wordsL ((69 : UInt8) :: h.tos :: _)).sum
  simp only [wordsL, List.sum_cons]
  have : (69 : UInt8).toNat = 69 := rfl
  omega
theorem tsum_w (s : Sg) (hr : (rawL s.o).length % 4 = 0) (n : Nat) (hn : n = 20 + s.th.opts.size + s.d.data.toList.length) : T.sumL s.s0 s.s2 s.th s.d.data.toList = 65535 - nrm (wsum (adr s) + wsum ([0, 6] ++ be2 n) + wsum (nums s) + wsum [T.offB (20 + s.th.opts.size), s.th.flags] + wsum (be2 s.s7) + wsum (be2 0) + wsum (rawL s.o) + wsum s.d.data.toList) := by
  have e : s.th.opts.data.toList = rawL s.o := by show (rawL s.o).toArray.toList = _; simp
  unfold T.sumL
  rw [← hn, ofL_w]
  refine nrm_c ?_
  have e1 : T.aheadL s.s0 s.s2 n ++ T.frontL s.th ++ T.backL s.th s.d.data.toList = adr s ++ (([0, 6] ++ be2 n) ++ (nums s ++ ([T.offB (20 + s.th.opts.size), s.th.flags] ++ (be2 s.s7 ++ (be2 0 ++ (rawL s.o ++ s.d.data.toList)))))) := by
    unfold T.aheadL T.frontL T.backL adr nums
    rw [e]
    simp only [List.append_assoc]
    rfl
  rw [e1, wsum_app (adr s) _ (by rw [adr_len]), wsum_app ([0, 6] ++ be2 n) _ (by simp [be2_len]), wsum_app (nums s) _ (by rw [nums_len]), wsum_app [T.offB (20 + s.th.opts.size), s.th.flags] _ (by simp), wsum_app (be2 s.s7) _ (by rw [be2_len]), wsum_app (be2 0) _ (by rw [be2_len]), wsum_app (rawL s.o) _ (by omega)]
  omega
/-- A SEGMENT'S OWN PACKET, TURNED, IS THAT OF THE SEGMENT, TURNED -/
theorem rew_own (w : s.wf) (h : s.may = true) (hx : x.wf) : rewL s.pl x = (turnS s x).pl := by
  obtain ⟨hf, hsg⟩ := own_fine w h
  have hp := Sg.may_parts h
  have hq := mayB_parts hp.2.1
  have hl := turn_len (x := x) w.o hq.2.2.1
  have hr4 : (rawL s.o).length % 4 = 0 := raw_four _
  have hO : rawL (turnS s x).o = (turnR x.x5 x.x6 x.x7 (oB s.pl)).1 := by
    have kT : hT s.pl = s.th := by
      unfold hT
      rw [show s.pl.drop 20 = s.tl from I.enc_drop _ _]
      exact T.decH_enc (Sg.th_ok w) (Sg.th_may w h)
    have e : s.th.opts.data.toList = rawL s.o := by show (rawL s.o).toArray.toList = _; simp
    have kO : oB s.pl = rawL s.o := by unfold oB; rw [kT, e]
    unfold turnR
    rw [if_pos hf.o, kO, turn_raw _ _ _ _ w.o hq.2.2.1]
    rfl
  rw [rewL_parts (pk_ok s) (pk_all s) _ hO (by rw [hl]; rfl), hsg, pk_all (turnS s x)]
  have z1 : (turnS s x).th.opts.size = s.th.opts.size := by rw [Sg.th_size, Sg.th_size, hl]
  have z2 : (turnS s x).tl.length = s.tl.length := by
    show (T.encL _ _ _ _).length = (T.encL _ _ _ _).length
    rw [T.enc_len, T.enc_len, z1]
    rfl
  obtain ⟨n, hn⟩ : ∃ n, n = 20 + s.tl.length := ⟨_, rfl⟩
  have hsix := wsum_six (20 + s.th.opts.size + s.d.data.toList.length)
  have hh : sumT (wd (be2 (I.sumL s.ih n))) (adr s) (adr (turnS s x)) = I.sumL (turnS s x).ih n := by
    have e1 : I.sumL s.ih n = 65535 - nrm (wsum (I.frontL s.ih n) + wsum (adr s)) := by
      unfold I.sumL
      rw [ofL_w, wsum_app _ _ (by rw [I.frontL_length])]
      rfl
    have e2 : I.sumL (turnS s x).ih n = 65535 - nrm (wsum (I.frontL s.ih n) + wsum (adr (turnS s x))) := by
      unfold I.sumL
      rw [ofL_w, wsum_app _ _ (by rw [I.frontL_length])]
      rfl
    rw [wd_be2 (by have := I.sumL_lt s.ih n; omega), e2]
    exact sumT_of rfl (wsum_front _ _) e1
  have ht : sumT (sumT (sumT (sumT (wd (be2 (T.sumL s.s0 s.s2 s.th s.d.data.toList))) (adr s) (adr (turnS s x))) (nums s) (nums (turnS s x))) (be2 s.s7) (be2 (turnS s x).s7)) (rawL s.o) (rawL (turnS s x).o) = T.sumL (turnS s x).s0 (turnS s x).s2 (turnS s x).th (turnS s x).d.data.toList := by
    have e1 := tsum_w s hr4 _ rfl
    have e2 := tsum_w (turnS s x) (by rw [hl]; exact hr4) _ rfl
    rw [z1] at e2
    have e3 : (turnS s x).d.data.toList = s.d.data.toList := rfl
    have e4 : (turnS s x).th.flags = s.th.flags := rfl
    rw [e3, e4] at e2
    rw [e3, e2, wd_be2 (by have := T.sumL_lt s.s0 s.s2 s.th s.d.data.toList; omega)]
    generalize wsum ([0, 6] ++ be2 (20 + s.th.opts.size + s.d.data.toList.length)) = K at *
    generalize wsum [T.offB (20 + s.th.opts.size), s.th.flags] = C at *
    generalize wsum s.d.data.toList = D at *
    generalize wsum (be2 0) = U at *
    have s1 := sumT_of (s := T.sumL s.s0 s.s2 s.th s.d.data.toList) (o := adr s) (t := adr (turnS s x)) (R := K + wsum (nums s) + C + wsum (be2 s.s7) + U + wsum (rawL s.o) + D) rfl (by omega) (e1.trans (nrm_c (by omega)))
    rw [s1]
    have s2 := sumT_of (o := nums s) (t := nums (turnS s x)) (R := K + wsum (adr (turnS s x)) + C + wsum (be2 s.s7) + U + wsum (rawL s.o) + D) rfl (by omega) rfl
    rw [show K + wsum (nums s) + C + wsum (be2 s.s7) + U + wsum (rawL s.o) + D + wsum (adr (turnS s x)) = K + wsum (adr (turnS s x)) + C + wsum (be2 s.s7) + U + wsum (rawL s.o) + D + wsum (nums s) by omega, s2]
    have s3 := sumT_of (o := be2 s.s7) (t := be2 (turnS s x).s7) (R := K + wsum (adr (turnS s x)) + C + wsum (nums (turnS s x)) + U + wsum (rawL s.o) + D) rfl (by omega) rfl
    rw [show K + wsum (adr (turnS s x)) + C + wsum (be2 s.s7) + U + wsum (rawL s.o) + D + wsum (nums (turnS s x)) = K + wsum (adr (turnS s x)) + C + wsum (nums (turnS s x)) + U + wsum (rawL s.o) + D + wsum (be2 s.s7) by omega, s3]
    have s4 := sumT_of (o := rawL s.o) (t := rawL (turnS s x).o) (R := K + wsum (adr (turnS s x)) + C + wsum (nums (turnS s x)) + U + wsum (be2 (turnS s x).s7) + D) hl.symm (by omega) rfl
    rw [show K + wsum (adr (turnS s x)) + C + wsum (nums (turnS s x)) + U + wsum (rawL s.o) + D + wsum (be2 (turnS s x).s7) = K + wsum (adr (turnS s x)) + C + wsum (nums (turnS s x)) + U + wsum (be2 (turnS s x).s7) + D + wsum (rawL s.o) by omega, s4]
    exact nrm_c (by omega)
  rw [hn] at hh
  unfold Pk.lay Sg.pk
  dsimp only
  rw [z2, z1, hh, ht]
  rfl
end
end Go.Proofs.Ytengegcnocdkoaa
end
section
namespace Go.Proofs.Ytengegcnocdkoaa
open Go.RowKit Go.BigFrame
theorem neq_blk (a b c d : Int) (W : World) : (binOp .neq 92 (.agg #[.int .u32 a, .int .u32 b]) (.agg #[.int .u32 c, .int .u32 d])).run Try.prog W = .ok (.bool (!(decide (a = c) && decide (b = d)))) W := by
  by_cases h1 : a = c
  · subst h1
    by_cases h2 : b = d
    · subst h2
      rw [decide_eq_true (rfl : a = a), decide_eq_true (rfl : b = b)]
      go_simp
    · have h3 : (b == d) = false := by simpa using h2
      rw [decide_eq_true (rfl : a = a), decide_eq_false h2]
      go_simp
  · have h3 : (a == c) = false := by simpa using h1
    rw [decide_eq_false h1]
    go_simp
/-- the rows of two lists, compared -/
theorem equal_any (w : World) (A B : Option Addr) (c e : Nat) (l m : List (Int × Int)) (hl : BlR w A l) (hm : BlR w B m) (hn : l.length ≤ maxLen) (hn2 : m.length ≤ maxLen) :
    Calls Try.prog 70 #[.slice A l.length c, .slice B m.length e] w fun en w' => en = .returned (.bool (decide (l = m))) ∧ ∃ n, w' = w.drewN n := by
  unfold maxLen at hn hn2
  by_cases hlen : l.length = m.length
  · obtain ⟨n, hne⟩ : ∃ n, n = l.length := ⟨_, rfl⟩
    rw [← hlen, ← hne]
    rw [← hne] at hn hlen
    have i1 : (n : Int) ≤ 9223372036854775807 := by omega
    have Hl := Lib.hid hl
    clear hl
    have Hm := Lib.hid hm
    clear hm
    have Hne := Lib.hid hne
    clear hne
    have Hlen := Lib.hid hlen
    clear hlen
    go_enter Try.func70, Try.ntmps70
    go_wp2
    go_loopw [13] (fun i wr => ∃ k : Nat, i = .int .i64 (k : Int) ∧ k ≤ n ∧ l.take k = m.take k ∧ ∃ q, wr = w.drewN q) (fun i _ => n - (intOf i).toNat)
    case atStart => exact ⟨0, rfl, Nat.zero_le _, rfl, 0, rfl⟩
    case round =>
      obtain ⟨k, rfl, hkn, heq, q, rfl⟩ := hrel
      by_cases hk : k < n
      · have j1 : (k : Int) < (n : Int) := by omega
        have j0 : (0 : Int) ≤ (k : Int) := by omega
        obtain ⟨p1, hp1⟩ : ∃ p, l[k]? = some p := ⟨_, List.getElem?_eq_getElem (by rw [← Hne.out]; exact hk)⟩
        obtain ⟨p2, hp2⟩ : ∃ p, m[k]? = some p := ⟨_, List.getElem?_eq_getElem (by rw [← Hlen.out]; exact hk)⟩
        rcases Hl.out with h | ⟨rb, off, hA, hrb, hc⟩
        · rw [h] at hp1; simp at hp1
        rcases Hm.out with h | ⟨rb2, off2, hB, hrb2, hc2⟩
        · rw [h] at hp2; simp at hp2
        subst hA hB
        obtain ⟨x1, x2⟩ := hc k p1 hp1
        obtain ⟨y1, y2⟩ := hc2 k p2 hp2
        have hnb := fun W => neq_blk p1.1 p1.2 p2.1 p2.2 W
        by_cases he : p1 = p2
        · subst he
          have hnx : l.take (k + 1) = m.take (k + 1) := by rw [List.take_add_one, List.take_add_one, heq, hp1, hp2]
          simp only [decide_true, Bool.and_self, Bool.not_true] at hnb
          clear heq hp1 hp2 hc hc2
          have Hnx := Lib.hid hnx
          clear hnx
          go_upto_region 6 with fail
          go_quiet (fail)
          go_wp2_with fail
          go_roundw
          case rel => exact ⟨k + 1, by go_num, by omega, Hnx.out, _, rfl⟩
          case measure => simp [intOf]; omega
        · have hd : (decide (p1.1 = p2.1) && decide (p1.2 = p2.2)) = false := by
            by_cases h1 : p1.1 = p2.1
            · by_cases h2 : p1.2 = p2.2
              · exact absurd (Prod.ext h1 h2) he
              · simp [h2]
            · simp [h1]
          have hne2 : decide (l = m) = false := by
            rw [decide_eq_false_iff_not]
            intro h
            rw [h, hp2] at hp1
            injection hp1 with hp1
            exact he hp1.symm
          simp only [hd, Bool.not_false] at hnb
          clear heq hp1 hp2 hc hc2 hd he
          have Hne2 := Lib.hid hne2
          clear hne2
          go_upto_region 6 with fail
          go_quiet (fail)
          go_wp2
          go_ret
          exact ⟨ret_bool Hne2.out.symm, _, by rw [World.drewN_drewN]⟩
      · obtain rfl : n = k := by omega
        have j1 : ¬ (n : Int) < (n : Int) := by omega
        have he : decide (l = m) = true := by
          rw [decide_eq_true_iff]
          rw [List.take_of_length_le (by rw [← Hne.out]; exact Nat.le_refl _), List.take_of_length_le (by rw [← Hlen.out]; exact Nat.le_refl _)] at heq
          exact heq
        clear heq
        have He := Lib.hid he
        clear he
        go_wp2
        go_ret
        exact ⟨ret_bool He.out.symm, _, rfl⟩
  · have i1 : ((l.length : Int) == (m.length : Int)) = false := by rw [beq_eq_false_iff_ne]; omega
    have i2 : ¬ (l.length : Int) = (m.length : Int) := by omega
    have he : decide (l = m) = false := by
      rw [decide_eq_false_iff_not]
      intro h
      exact hlen (by rw [h])
    have He := Lib.hid he
    clear he
    have Hl := Lib.hid hl
    clear hl
    have Hm := Lib.hid hm
    clear hm
    have Hlen := Lib.hid hlen
    clear hlen
    go_enter Try.func70, Try.ntmps70
    go_wp2
    go_ret
    exact ⟨ret_bool He.out.symm, 0, rfl⟩
set_option maxHeartbeats 4000000 in
theorem osame_raw (w : World) (x0 x1 x5 x6 y0 y1 y5 y6 : Int) (x2 x4 y2 y4 : Bool) (A B : Option Addr) (c e : Nat) (l m : List (Int × Int)) (hl : BlR w A l) (hm : BlR w B m) (hn : l.length ≤ maxLen) (hn2 : m.length ≤ maxLen) :
    Calls Try.prog 37 #[.agg #[.int .u16 x0, .int .i64 x1, .bool x2, .slice A l.length c, .bool x4, .int .u32 x5, .int .u32 x6], .agg #[.int .u16 y0, .int .i64 y1, .bool y2, .slice B m.length e, .bool y4, .int .u32 y5, .int .u32 y6]] w fun en w' => en = .returned (.bool ((x0 == y0) && ((x1 == y1) && ((x2 == y2) && (decide (l = m) && ((x4 == y4) && ((x5 == y5) && (x6 == y6)))))))) ∧ Below w.heap.size w w' := by
  have hb : Below w.heap.size w ((w.alloc (.cells #[.int .u16 x0, .int .i64 x1, .bool x2, .slice A l.length c, .bool x4, .int .u32 x5, .int .u32 x6] 28)).alloc (.cells #[.int .u16 y0, .int .i64 y1, .bool y2, .slice B m.length e, .bool y4, .int .u32 y5, .int .u32 y6] 28)) := ((Below.refl _ _).alloc (Nat.le_refl _) _).alloc (by simp) _
  have he := equal_any _ A B c e l m (hl.below (((Below.refl _ _).alloc (Nat.le_refl _) (.cells #[.int .u16 x0, .int .i64 x1, .bool x2, .slice A l.length c, .bool x4, .int .u32 x5, .int .u32 x6] 28)).alloc (by simp) (.cells #[.int .u16 y0, .int .i64 y1, .bool y2, .slice B m.length e, .bool y4, .int .u32 y5, .int .u32 y6] 28))) (hm.below (((Below.refl _ _).alloc (Nat.le_refl _) (.cells #[.int .u16 x0, .int .i64 x1, .bool x2, .slice A l.length c, .bool x4, .int .u32 x5, .int .u32 x6] 28)).alloc (by simp) (.cells #[.int .u16 y0, .int .i64 y1, .bool y2, .slice B m.length e, .bool y4, .int .u32 y5, .int .u32 y6] 28))) hn hn2
  obtain ⟨V, hV⟩ : ∃ V, V = ((x0 == y0) && ((x1 == y1) && ((x2 == y2) && (decide (l = m) && ((x4 == y4) && ((x5 == y5) && (x6 == y6))))))) := ⟨_, rfl⟩
  rw [← hV]
  clear hn hn2
  have Hb := Lib.hid hb
  clear hb
  have HV := Lib.hid hV
  clear hV
  have Hl := Lib.hid hl
  clear hl
  have Hm := Lib.hid hm
  clear hm
  cases h0 : (x0 == y0) with
  | false =>
    clear he
    have hV : V = false := by rw [HV.out]; simp [h0]
    clear HV
    have HV := Lib.hid hV
    clear hV
    go_enter Try.func37, Try.ntmps37
    go_wp2
    go_ret
    exact ⟨ret_bool HV.out.symm, Hb.out⟩
  | true =>
    cases h1 : (x1 == y1) with
    | false =>
      clear he
      have hV : V = false := by rw [HV.out]; simp [h0, h1]
      clear HV
      have HV := Lib.hid hV
      clear hV
      go_enter Try.func37, Try.ntmps37
      go_wp2
      go_ret
      exact ⟨ret_bool HV.out.symm, Hb.out⟩
    | true =>
      cases h2 : (x2 == y2) with
      | false =>
        clear he
        have hV : V = false := by rw [HV.out]; simp [h0, h1, h2]
        clear HV
        have HV := Lib.hid hV
        clear hV
        go_enter Try.func37, Try.ntmps37
        go_wp2
        go_ret
        exact ⟨ret_bool HV.out.symm, Hb.out⟩
      | true =>
        cases h3 : (decide (l = m)) with
        | false =>
          rw [h3] at he
          have He := Lib.hid he
          clear he
          have hV : V = false := by rw [HV.out]; simp [h0, h1, h2, h3]
          clear HV
          have HV := Lib.hid hV
          clear hV
          go_enter Try.func37, Try.ntmps37
          go_wp2_with fail
          (with_reducible refine (He.out).mono ?_)
          rintro en w' ⟨rfl, q, rfl⟩
          go_wp2
          go_ret
          exact ⟨ret_bool HV.out.symm, below_drewN Hb.out q⟩
        | true =>
          rw [h3] at he
          have He := Lib.hid he
          clear he
          cases h4 : (x4 == y4) with
          | false =>
            have hV : V = false := by rw [HV.out]; simp [h0, h1, h2, h3, h4]
            clear HV
            have HV := Lib.hid hV
            clear hV
            go_enter Try.func37, Try.ntmps37
            go_wp2_with fail
            (with_reducible refine (He.out).mono ?_)
            rintro en w' ⟨rfl, q, rfl⟩
            go_wp2
            go_ret
            exact ⟨ret_bool HV.out.symm, below_drewN Hb.out q⟩
          | true =>
            cases h5 : (x5 == y5) with
            | false =>
              have hV : V = false := by rw [HV.out]; simp [h0, h1, h2, h3, h4, h5]
              clear HV
              have HV := Lib.hid hV
              clear hV
              go_enter Try.func37, Try.ntmps37
              go_wp2_with fail
              (with_reducible refine (He.out).mono ?_)
              rintro en w' ⟨rfl, q, rfl⟩
              go_wp2
              go_ret
              exact ⟨ret_bool HV.out.symm, below_drewN Hb.out q⟩
            | true =>
              cases h6 : (x6 == y6) with
              | false =>
                have hV : V = false := by rw [HV.out]; simp [h0, h1, h2, h3, h4, h5, h6]
                clear HV
                have HV := Lib.hid hV
                clear hV
                go_enter Try.func37, Try.ntmps37
                go_wp2_with fail
                (with_reducible refine (He.out).mono ?_)
                rintro en w' ⟨rfl, q, rfl⟩
                go_wp2
                go_ret
                exact ⟨ret_bool HV.out.symm, below_drewN Hb.out q⟩
              | true =>
                have hV : V = true := by rw [HV.out]; simp [h0, h1, h2, h3, h4, h5, h6]
                clear HV
                have HV := Lib.hid hV
                clear hV
                go_enter Try.func37, Try.ntmps37
                go_wp2_with fail
                (with_reducible refine (He.out).mono ?_)
                rintro en w' ⟨rfl, q, rfl⟩
                go_wp2
                go_ret
                exact ⟨ret_bool HV.out.symm, below_drewN Hb.out q⟩
end Go.Proofs.Ytengegcnocdkoaa
end
section
namespace Go.Proofs.Ytengegcnocdkoaa
open Go.RowKit Go.BigFrame
theorem eql_addr (a b c d : Int) (W : World) : (binOp .eql 25 (.agg #[.int .u32 a, .int .u16 b]) (.agg #[.int .u32 c, .int .u16 d])).run Try.prog W = .ok (.bool (decide (a = c) && decide (b = d))) W := by
  by_cases h1 : a = c
  · subst h1
    by_cases h2 : b = d
    · subst h2
      rw [decide_eq_true (rfl : a = a), decide_eq_true (rfl : b = b)]
      go_simp
    · have h3 : (b == d) = false := by simpa using h2
      rw [decide_eq_true (rfl : a = a), decide_eq_false h2]
      go_simp
  · have h3 : (a == c) = false := by simpa using h1
    rw [decide_eq_false h1]
    go_simp
set_option maxRecDepth 100000 in
set_option maxHeartbeats 8000000 in
theorem psame_raw (w : World) (x0 y0 x1 y1 x2 y2 x3 y3 x4 y4 x5 y5 x6 y6 x7 y7 x8 y8 x9 y9 x13 y13 x14 y14 : Int) (x10 x12 y10 y12 : Bool) (A B : Option Addr) (c e : Nat) (l m : List (Int × Int)) (dx dy : ByteArray) (hl : BlR w A l) (hm : BlR w B m) (hn : l.length ≤ maxLen) (hn2 : m.length ≤ maxLen) :
    Calls Try.prog 15 #[.agg #[.int .u32 x0, .int .u16 x1, .int .u32 x2, .int .u16 x3, .int .u32 x4, .int .u32 x5, .int .u8 x6, .int .u16 x7, .int .u16 x8, .int .i64 x9, .bool x10, .slice A l.length c, .bool x12, .int .u32 x13, .int .u32 x14, .string dx], .agg #[.int .u32 y0, .int .u16 y1, .int .u32 y2, .int .u16 y3, .int .u32 y4, .int .u32 y5, .int .u8 y6, .int .u16 y7, .int .u16 y8, .int .i64 y9, .bool y10, .slice B m.length e, .bool y12, .int .u32 y13, .int .u32 y14, .string dy]] w fun en w' => en = .returned (.bool ((decide (x0 = y0) && decide (x1 = y1)) && ((decide (x2 = y2) && decide (x3 = y3)) && ((x4 == y4) && ((x5 == y5) && ((x6 == y6) && ((x7 == y7) && (((x8 == y8) && ((x9 == y9) && ((x10 == y10) && (decide (l = m) && ((x12 == y12) && ((x13 == y13) && (x14 == y14))))))) && ((dx.toList == dy.toList)))))))))) ∧ Below w.heap.size w w' := by
  have hb : Below w.heap.size w ((w.alloc (.cells #[.int .u32 x0, .int .u16 x1, .int .u32 x2, .int .u16 x3, .int .u32 x4, .int .u32 x5, .int .u8 x6, .int .u16 x7, .int .u16 x8, .int .i64 x9, .bool x10, .slice A l.length c, .bool x12, .int .u32 x13, .int .u32 x14, .string dx] 30)).alloc (.cells #[.int .u32 y0, .int .u16 y1, .int .u32 y2, .int .u16 y3, .int .u32 y4, .int .u32 y5, .int .u8 y6, .int .u16 y7, .int .u16 y8, .int .i64 y9, .bool y10, .slice B m.length e, .bool y12, .int .u32 y13, .int .u32 y14, .string dy] 30)) := ((Below.refl _ _).alloc (Nat.le_refl _) _).alloc (by simp) _
  have he := osame_raw ((w.alloc (.cells #[.int .u32 x0, .int .u16 x1, .int .u32 x2, .int .u16 x3, .int .u32 x4, .int .u32 x5, .int .u8 x6, .int .u16 x7, .int .u16 x8, .int .i64 x9, .bool x10, .slice A l.length c, .bool x12, .int .u32 x13, .int .u32 x14, .string dx] 30)).alloc (.cells #[.int .u32 y0, .int .u16 y1, .int .u32 y2, .int .u16 y3, .int .u32 y4, .int .u32 y5, .int .u8 y6, .int .u16 y7, .int .u16 y8, .int .i64 y9, .bool y10, .slice B m.length e, .bool y12, .int .u32 y13, .int .u32 y14, .string dy] 30)) x8 x9 x13 x14 y8 y9 y13 y14 x10 x12 y10 y12 A B c e l m (hl.below hb) (hm.below hb) hn hn2
  have ha := eql_addr x0 x1 y0 y1
  have hc := eql_addr x2 x3 y2 y3
  obtain ⟨os, hos⟩ : ∃ os, os = ((x8 == y8) && ((x9 == y9) && ((x10 == y10) && (decide (l = m) && ((x12 == y12) && ((x13 == y13) && (x14 == y14))))))) := ⟨_, rfl⟩
  obtain ⟨t0, ht0⟩ : ∃ t, t = (decide (x0 = y0) && decide (x1 = y1)) := ⟨_, rfl⟩
  obtain ⟨t1, ht1⟩ : ∃ t, t = (decide (x2 = y2) && decide (x3 = y3)) := ⟨_, rfl⟩
  rw [← hos] at he ⊢
  rw [← ht0] at ha ⊢
  rw [← ht1] at hc ⊢
  clear hos ht0 ht1
  obtain ⟨V, hV⟩ : ∃ V, V = (t0 && (t1 && ((x4 == y4) && ((x5 == y5) && ((x6 == y6) && ((x7 == y7) && (os && (dx.toList == dy.toList)))))))) := ⟨_, rfl⟩
  rw [← hV]
  have hp1 := (Blk.new w 30 #[.int .u32 x0, .int .u16 x1, .int .u32 x2, .int .u16 x3, .int .u32 x4, .int .u32 x5, .int .u8 x6, .int .u16 x7, .int .u16 x8, .int .i64 x9, .bool x10, .slice A l.length c, .bool x12, .int .u32 x13, .int .u32 x14, .string dx]).alloc (.cells #[.int .u32 y0, .int .u16 y1, .int .u32 y2, .int .u16 y3, .int .u32 y4, .int .u32 y5, .int .u8 y6, .int .u16 y7, .int .u16 y8, .int .i64 y9, .bool y10, .slice B m.length e, .bool y12, .int .u32 y13, .int .u32 y14, .string dy] 30)
  have hp2 := blk_newB w (.cells #[.int .u32 x0, .int .u16 x1, .int .u32 x2, .int .u16 x3, .int .u32 x4, .int .u32 x5, .int .u8 x6, .int .u16 x7, .int .u16 x8, .int .i64 x9, .bool x10, .slice A l.length c, .bool x12, .int .u32 x13, .int .u32 x14, .string dx] 30) 30 #[.int .u32 y0, .int .u16 y1, .int .u32 y2, .int .u16 y3, .int .u32 y4, .int .u32 y5, .int .u8 y6, .int .u16 y7, .int .u16 y8, .int .i64 y9, .bool y10, .slice B m.length e, .bool y12, .int .u32 y13, .int .u32 y14, .string dy]
  clear hn hn2
  have Hb := Lib.hid hb
  clear hb
  have HV := Lib.hid hV
  clear hV
  have Hl := Lib.hid hl
  clear hl
  have Hm := Lib.hid hm
  clear hm
  have Hp1 := Lib.hid hp1
  clear hp1
  have Hp2 := Lib.hid hp2
  clear hp2
  cases t0 with
  | false =>
    have hV : V = false := by rw [HV.out]; simp
    clear HV
    have HV := Lib.hid hV
    clear hV
    clear he
    go_enter Try.func15, Try.ntmps15
    go_wp2
    go_ret
    exact ⟨ret_bool HV.out.symm, Hb.out⟩
  | true =>
    cases t1 with
    | false =>
      have hV : V = false := by rw [HV.out]; simp
      clear HV
      have HV := Lib.hid hV
      clear hV
      clear he
      go_enter Try.func15, Try.ntmps15
      go_wp2
      go_ret
      exact ⟨ret_bool HV.out.symm, Hb.out⟩
    | true =>
      cases h2 : (x4 == y4) with
      | false =>
        have hV : V = false := by rw [HV.out]; simp [h2]
        clear HV
        have HV := Lib.hid hV
        clear hV
        clear he
        go_enter Try.func15, Try.ntmps15
        go_wp2
        go_ret
        exact ⟨ret_bool HV.out.symm, Hb.out⟩
      | true =>
        cases h3 : (x5 == y5) with
        | false =>
          have hV : V = false := by rw [HV.out]; simp [h2, h3]
          clear HV
          have HV := Lib.hid hV
          clear hV
          clear he
          go_enter Try.func15, Try.ntmps15
          go_wp2
          go_ret
          exact ⟨ret_bool HV.out.symm, Hb.out⟩
        | true =>
          cases h4 : (x6 == y6) with
          | false =>
            have hV : V = false := by rw [HV.out]; simp [h2, h3, h4]
            clear HV
            have HV := Lib.hid hV
            clear hV
            clear he
            go_enter Try.func15, Try.ntmps15
            go_wp2
            go_ret
            exact ⟨ret_bool HV.out.symm, Hb.out⟩
          | true =>
            cases h5 : (x7 == y7) with
            | false =>
              have hV : V = false := by rw [HV.out]; simp [h2, h3, h4, h5]
              clear HV
              have HV := Lib.hid hV
              clear hV
              clear he
              go_enter Try.func15, Try.ntmps15
              go_wp2
              go_ret
              exact ⟨ret_bool HV.out.symm, Hb.out⟩
            | true =>
              cases os with
              | false =>
                have hV : V = false := by rw [HV.out]; simp [h2, h3, h4, h5]
                clear HV
                have HV := Lib.hid hV
                clear hV
                have He := Lib.hid he
                clear he
                go_enter Try.func15, Try.ntmps15
                go_wp2_with fail
                (with_reducible refine (He.out).mono ?_)
                rintro en w' ⟨rfl, hbq⟩
                have hq1 := Hp1.out.below hbq Hp1.out.lt
                have hq2 := Hp2.out.below hbq Hp2.out.lt
                have z1 := hq1.cell 15
                have z2 := hq2.cell 15
                have zl1 := hq1.lt
                have zl2 := hq2.lt
                simp at z1 z2
                clear hq1 hq2
                have hbz := Hb.out.trans (hbq.mono Hb.out.size)
                clear hbq
                have Hbz := Lib.hid hbz
                clear hbz
                go_wp2
                go_ret
                exact ⟨ret_bool HV.out.symm, Hbz.out⟩
              | true =>
                cases h7 : (dx.toList == dy.toList) with
                | false =>
                  have hV : V = false := by rw [HV.out]; simp [h2, h3, h4, h5, h7]
                  clear HV
                  have HV := Lib.hid hV
                  clear hV
                  have He := Lib.hid he
                  clear he
                  go_enter Try.func15, Try.ntmps15
                  go_wp2_with fail
                  (with_reducible refine (He.out).mono ?_)
                  rintro en w' ⟨rfl, hbq⟩
                  have hq1 := Hp1.out.below hbq Hp1.out.lt
                  have hq2 := Hp2.out.below hbq Hp2.out.lt
                  have z1 := hq1.cell 15
                  have z2 := hq2.cell 15
                  have zl1 := hq1.lt
                  have zl2 := hq2.lt
                  simp at z1 z2
                  clear hq1 hq2
                  have hbz := Hb.out.trans (hbq.mono Hb.out.size)
                  clear hbq
                  have Hbz := Lib.hid hbz
                  clear hbz
                  go_wp2
                  go_ret
                  exact ⟨ret_bool HV.out.symm, Hbz.out⟩
                | true =>
                  have hV : V = true := by rw [HV.out]; simp [h2, h3, h4, h5, h7]
                  clear HV
                  have HV := Lib.hid hV
                  clear hV
                  have He := Lib.hid he
                  clear he
                  go_enter Try.func15, Try.ntmps15
                  go_wp2_with fail
                  (with_reducible refine (He.out).mono ?_)
                  rintro en w' ⟨rfl, hbq⟩
                  have hq1 := Hp1.out.below hbq Hp1.out.lt
                  have hq2 := Hp2.out.below hbq Hp2.out.lt
                  have z1 := hq1.cell 15
                  have z2 := hq2.cell 15
                  have zl1 := hq1.lt
                  have zl2 := hq2.lt
                  simp at z1 z2
                  clear hq1 hq2
                  have hbz := Hb.out.trans (hbq.mono Hb.out.size)
                  clear hbq
                  have Hbz := Lib.hid hbz
                  clear hbz
                  go_wp2
                  go_ret
                  exact ⟨ret_bool HV.out.symm, Hbz.out⟩
end Go.Proofs.Ytengegcnocdkoaa
end
section
namespace Go.Proofs.Ytengegcnocdkoaa
open Go.RowKit Go.BigFrame
/-- are they the same? -/
def sameB (o p : Op) : Bool := ((o.mss : Int) == (p.mss : Int)) && ((o.scale == p.scale) && ((o.sack == p.sack) && (decide (o.bl = p.bl) && ((o.time == p.time) && (((o.val : Int) == (p.val : Int)) && ((o.echo : Int) == (p.echo : Int)))))))
theorem sameB_iff (o p : Op) : sameB o p = true ↔ o = p := by
  unfold sameB
  simp only [Bool.and_eq_true, beq_iff_eq, decide_eq_true_eq, Int.natCast_inj]
  constructor
  · rintro ⟨h1, h2, h3, h4, h5, h6, h7⟩
    cases o
    cases p
    simp only at h1 h2 h3 h4 h5 h6 h7
    subst h1 h2 h3 h4 h5 h6 h7
    rfl
  · rintro rfl
    exact ⟨rfl, rfl, rfl, rfl, rfl, rfl, rfl⟩
end Go.Proofs.Ytengegcnocdkoaa
end
