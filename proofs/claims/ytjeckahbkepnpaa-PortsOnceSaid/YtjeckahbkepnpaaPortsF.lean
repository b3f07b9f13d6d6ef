/- Layer 11 (ports): the law's works. -/
import Derived.Test.YtjeckahbkepnpaaPortsE
set_option linter.unusedVariables false
set_option linter.unusedSimpArgs false
namespace Go.Proofs.Ytjeckahbkepnpaa
open Go.RowKit Go.Maps Go.BigFrame

theorem isKey16 {x : Int} : S16.isKey x ↔ 0 ≤ x ∧ x < 65536 := by
  simp [S16.isKey, Lit.wf, IntKind.min, IntKind.max, IntKind.signed, IntKind.bits]
  omega
theorem keys_len {M : Lit → Option Value} {n : Nat} {ss : List Int} {s : Po} (hK : S16.KeysAre M n ss) (hL : poL s M) (xs : List Int) (hx : xs.Nodup) (hm : ∀ x, x ∈ xs ↔ 0 ≤ x ∧ x < 65536 ∧ s.L x.toNat = true) : n = xs.length := by
  have hp : ss.Perm xs := (List.perm_ext_iff_of_nodup hK.1 hx).2 fun x => by
    rw [hm x]
    constructor
    · intro h
      have hk := isKey16.1 (hK.2.2.1 x h)
      have := (hK.2.2.2 x (isKey16.2 hk)).1 h
      have e := hL x.toNat (by omega)
      rw [show ((x.toNat : Nat) : Int) = x by omega] at e
      rw [e] at this
      refine ⟨hk.1, hk.2, ?_⟩
      by_cases hb : s.L x.toNat = true
      · exact hb
      · rw [if_neg hb] at this; cases this
    · rintro ⟨h1, h2, h3⟩
      refine (hK.2.2.2 x (isKey16.2 ⟨h1, h2⟩)).2 ?_
      have e := hL x.toNat (by omega)
      rw [show ((x.toNat : Nat) : Int) = x by omega] at e
      rw [e, if_pos h3]; rfl
  rw [← hp.length_eq, hK.2.1]
def ws1 : Po := (po0 1 3).took 1
def ws2 : Po := ws1.took 2
def ws3 : Po := ws2.gave 1 9
def ws4 : Po := ws3.took 3
def ws5 : Po := ws4.took 1
theorem takeC {w : World} {b m1 m2 k : Nat} {s : Po} (h : PoAt w b m1 m2 s k) (t : Int) (ht : may t) (r : Nat) (hk : k ≤ 1000000) (hf : s.seek t (s.high + 1 - s.low) s.cur = some r) (rI : Int) (hr : (r : Int) = rI) :
    Calls Try.prog 8 #[.pointer (some ⟨b, 0, none⟩), .int .i64 t] w fun e w' => e = .returned (.tuple #[.int .u16 rI, .int .i64 0]) ∧ PoAt w' b m1 m2 (s.took r) (k + 1) ∧ Out (fun i => i = b ∨ i = m1 ∨ i = m2) w w' := by
  subst hr; exact take_ok h t ht r hk hf
theorem ws5_L (x : Nat) : ws5.L x = true ↔ x = 1 ∨ x = 2 ∨ x = 3 := by
  simp only [ws5, ws4, ws3, ws2, ws1, po0, Po.took, Po.gave]
  by_cases h1 : x = 1
  · subst h1; decide
  · by_cases h2 : x = 2
    · subst h2; decide
    · by_cases h3 : x = 3
      · subst h3; decide
      · simp [h1, h2, h3]
theorem lent5 {w w' : World} {k : Nat} {v : Value} (h : LentIs w w' k ws5 v) : ∃ A cap, v = .slice A 3 cap := by
  obtain ⟨n, ML, ss, n1, n2, n3, A, cap, rfl, n4⟩ := h
  have hn : n = 3 := keys_len n3 n2 [1, 2, 3] (by decide) (fun x => by
    rw [ws5_L]
    simp only [List.mem_cons, List.mem_nil_iff, or_false]
    omega)
  subst hn
  exact ⟨A, cap, rfl⟩
set_option maxRecDepth 100000 in
set_option maxHeartbeats 1000000 in
theorem alive11 (w : World) : Calls Try.prog 5 #[] w fun e w' => e = .returned (.bool true) ∧ Below w.heap.size w w' := by
  have c0 : Calls Try.prog 6 #[.int .u16 1, .int .u16 3] w _ := new_any 1 3 (by omega) (by omega) (by omega) w
  have m5 : may 5 := ⟨by decide, by decide⟩
  have m9 : may 9 := ⟨by decide, by decide⟩
  have M := Lib.hid (And.intro m5 m9)
  clear m5 m9
  go_enter Try.func5, Try.ntmps5
  go_wp2_with (go_at_call 6; with_reducible refine c0.mono ?_; rintro e w0 ⟨b, m1, m2, rfl, h0, q1, q2, q3, hb0⟩)
  clear c0
  have HB := Lib.hid (And.intro q1 (And.intro q2 (And.intro q3 hb0)))
  clear q1 q2 q3 hb0
  have c1 := takeC h0 5 M.out.1 1 (by omega) (by decide) 1 rfl
  clear h0
  go_wp2_with (go_at_call 8; with_reducible refine c1.mono ?_; rintro e w1 ⟨rfl, h1, o1⟩)
  clear c1
  have c2 := takeC h1 5 M.out.1 2 (by omega) (by decide) 2 rfl
  have O1 := Lib.hid o1
  clear o1
  clear h1
  go_wp2_with (go_at_call 8; with_reducible refine c2.mono ?_; rintro e w2 ⟨rfl, h2, o2⟩)
  clear c2
  have c3 : Calls Try.prog 9 #[.pointer (some ⟨b, 0, none⟩), .int .u16 1, .int .i64 9] w2 _ := give_ok h2 (by omega) 1 (by omega) 9 M.out.2 (by decide)
  have O2 := Lib.hid o2
  clear o2
  clear h2
  go_wp2_with (go_at_call 9; with_reducible refine c3.mono ?_; rintro e w3 ⟨rfl, h3, o3⟩)
  clear c3
  have c4 := takeC h3 5 M.out.1 3 (by omega) (by decide) 3 rfl
  have O3 := Lib.hid o3
  clear o3
  clear h3
  go_wp2_with (go_at_call 8; with_reducible refine c4.mono ?_; rintro e w4 ⟨rfl, h4, o4⟩)
  clear c4
  have c5 := take_full h4 5 M.out.1 (by decide)
  have O4 := Lib.hid o4
  clear o4
  have H4 := Lib.hid h4
  clear h4
  go_wp2_with (go_at_call 8; with_reducible refine c5.mono ?_; rintro e w5 ⟨rfl, q5, rfl⟩)
  clear c5
  have h5 := H4.out.drewN q5
  have o5 : Out (fun i => i = b ∨ i = m1 ∨ i = m2) w4 (w4.drewN q5) := Out.of_below (below_drewN (Below.refl _ _) _)
  generalize w4.drewN q5 = w5 at *
  have c6 := takeC h5 9 M.out.2 1 (by omega) (by decide) 1 rfl
  have O5 := Lib.hid o5
  clear o5
  clear h5 H4
  go_wp2_with (go_at_call 8; with_reducible refine c6.mono ?_; rintro e w6 ⟨rfl, h6, o6⟩)
  clear c6
  have c7 : Calls Try.prog 7 #[.pointer (some ⟨b, 0, none⟩), .int .i64 9] w6 fun e w' => e = .returned (.int .i64 0) ∧ w' = w6 := free_any h6 9
  have c8 := lent_any h6 (by omega)
  have O6 := Lib.hid o6
  clear o6
  clear h6
  go_wp2_with (first
    | (go_at_call 7; with_reducible refine c7.mono ?_; rintro e w7 ⟨rfl, hw⟩; rw [hw]; clear hw)
    | (go_at_call 10; with_reducible refine c8.mono ?_; rintro e w8 ⟨v, rfl, hl, hb8⟩; obtain ⟨A, cap, rfl⟩ := lent5 hl; have HB8 := Lib.hid hb8; clear hb8 hl))
  go_ret
  refine ⟨rfl, ?_⟩
  have ho : Out (fun i => i = b ∨ i = m1 ∨ i = m2) w0 w6 := Out.trans (Out.trans (Out.trans (Out.trans (Out.trans O1.out O2.out (fun _ _ e => e)) O3.out (fun _ _ e => e)) O4.out (fun _ _ e => e)) O5.out (fun _ _ e => e)) O6.out (fun _ _ e => e)
  have hb6 : Below w.heap.size w0 w6 := ho.below HB.out.2.2.2.size (by rintro i hi (rfl | rfl | rfl) <;> have := HB.out <;> omega)
  exact (HB.out.2.2.2.trans hb6).trans (HB8.out.mono (Nat.le_trans HB.out.2.2.2.size hb6.size))
end Go.Proofs.Ytjeckahbkepnpaa
