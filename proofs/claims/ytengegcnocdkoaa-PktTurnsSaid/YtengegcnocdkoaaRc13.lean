/- Contracts and plain lemmas: PktLay, PktRewP, PktWf. -/
import Derived.Test.YtengegcnocdkoaaRc7
import Derived.Test.YtengegcnocdkoaaRc8
import Derived.Test.YtengegcnocdkoaaRc5
import Derived.Test.YtengegcnocdkoaaRc12
import Derived.Test.YtengegcnocdkoaaRc11
set_option linter.unusedVariables false
set_option linter.unusedSimpArgs false
set_option linter.unusedSectionVars false
section
set_option maxRecDepth 20000
namespace Go.Proofs.Ytengegcnocdkoaa
open Go.RowKit Go.BigFrame
/-- a text is laid at i -/
def layM (M : List UInt8) (i : Nat) (t : List UInt8) : List UInt8 := M.take i ++ t ++ M.drop (i + t.length)
theorem layM_len {M : List UInt8} {i : Nat} {t : List UInt8} (h : i + t.length ≤ M.length) : (layM M i t).length = M.length := by
  unfold layM
  simp
  omega
def sumT (s : Nat) (old now : List UInt8) : Nat := turnsL s ((wordsL old).zip (wordsL now))
/-- what Rewrite's closures work on -/
structure LayS (gb gr gh gw cap n : Nat) (M : List UInt8) (hd wh : Nat) (W : World) : Prop where
  b : Blk W gb 51 #[.slice (some ⟨gr, 0, none⟩) n cap]
  r : RowB W gr M
  n : M.length = n
  h : Blk W gh 23 #[.int .u16 (hd : Int)]
  w : Blk W gw 23 #[.int .u16 (wh : Int)]
def OutL (gr gh gw : Nat) : Nat → Prop := fun i => i = gr ∨ i = gh ∨ i = gw
def LayPost (gb gr gh gw cap n : Nat) (M : List UInt8) (hd wh i : Nat) (t : List UInt8) (W : World) (e : Ending) (w' : World) : Prop :=
  e = .returned (.tuple #[]) ∧ LayS gb gr gh gw cap n (layM M i t) (if i < 20 then sumT hd ((M.drop i).take t.length) t else hd) (sumT wh ((M.drop i).take t.length) t) w' ∧ Out (OutL gr gh gw) W w'
theorem turnsL_lt : ∀ (l : List (Nat × Nat)) (s : Nat), s < 65536 → turnsL s l < 65536
  | [], s, h => h
  | p :: l, s, h => turnsL_lt l _ (Nat.lt_of_le_of_lt (turnL_le s p.1 p.2) (by decide))
theorem sumT_lt {s : Nat} (h : s < 65536) (o t : List UInt8) : sumT s o t < 65536 := turnsL_lt _ _ h
section
variable {gb gr gh gw cap n hd wh : Nat} {M : List UInt8} {W W' : World}
theorem LayS.below (h : LayS gb gr gh gw cap n M hd wh W) (hb : Below W.heap.size W W') : LayS gb gr gh gw cap n M hd wh W' :=
  ⟨h.b.below hb h.b.lt, h.r.below hb h.r.lt, h.n, h.h.below hb h.h.lt, h.w.below hb h.w.lt⟩
theorem LayS.seth (h : LayS gb gr gh gw cap n M hd wh W) (n1 : gh ≠ gb) (n3 : gh ≠ gr) (n5 : gh ≠ gw) (u : Nat) : LayS gb gr gh gw cap n M u wh (W.setCell ⟨gh, 0, none⟩ (.int .u16 (u : Int))) :=
  ⟨h.b.far (Ne.symm n1) _, h.r.grown (only_set (World.grownBy.refl _ _) 0 _) (by simpa using Ne.symm n3), h.n, by have := h.h.set_ 0 (.int .u16 (u : Int)); simpa using this, h.w.far (Ne.symm n5) _⟩
theorem LayS.setw (h : LayS gb gr gh gw cap n M hd wh W) (n2 : gw ≠ gb) (n4 : gw ≠ gr) (n5 : gh ≠ gw) (u : Nat) : LayS gb gr gh gw cap n M hd u (W.setCell ⟨gw, 0, none⟩ (.int .u16 (u : Int))) :=
  ⟨h.b.far (Ne.symm n2) _, h.r.grown (only_set (World.grownBy.refl _ _) 0 _) (by simpa using Ne.symm n4), h.n, h.h.far n5 _, by have := h.w.set_ 0 (.int .u16 (u : Int)); simpa using this⟩
theorem LayS.setr (h : LayS gb gr gh gw cap n M hd wh W) {M' : List UInt8} (hr : RowB W' gr M') (hn : M'.length = n) (hg : W.grownBy W' (some gr)) (n3 : gh ≠ gr) (n4 : gw ≠ gr) (n5 : gb ≠ gr) : LayS gb gr gh gw cap n M' hd wh W' :=
  ⟨h.b.grown hg (by simpa using n5), hr, hn, h.h.grown hg (by simpa using n3), h.w.grown hg (by simpa using n4)⟩
end
set_option maxHeartbeats 1000000 in
theorem lay_any (gb gr gh gw cap n hd wh i : Nat) (M : List UInt8) (x : ByteArray) (t : List UInt8) (hx : x.data.toList = t) (W : World) (hs : LayS gb gr gh gw cap n M hd wh W) (hd1 : hd < 65536) (hw1 : wh < 65536) (hi : i + t.length ≤ n) (hn : n ≤ 131072) (hcap : n ≤ cap) (hne : gh ≠ gw) :
    Calls Try.prog 46 #[.int .i64 (i : Int), .string x, .pointer (some ⟨gb, 0, none⟩), .pointer (some ⟨gh, 0, none⟩), .pointer (some ⟨gw, 0, none⟩)] W (LayPost gb gr gh gw cap n M hd wh i t W) := by
  obtain ⟨old, hold⟩ : ∃ old, old = (M.drop i).take t.length := ⟨_, rfl⟩
  have hol : old.length = t.length := by rw [hold, List.length_take, List.length_drop, hs.n]; omega
  have hxs : x.size = t.length := by rw [← hx]; rfl
  have hos : (⟨old.toArray⟩ : ByteArray).size = t.length := by
    show old.toArray.size = _
    simp [hol]
  have e1 : (⟨old.toArray⟩ : ByteArray).data.toList = old := rfl
  have hT : ∀ s : Nat, s < 65536 → ∀ W, Calls Try.prog 47 #[.int .u16 (s : Int), .string ⟨old.toArray⟩, .string x] W fun e w' => e = .returned (.int .u16 ((sumT s old t : Nat) : Int)) ∧ Below W.heap.size W w' := by
    intro s hs' W
    have := turns_any s ⟨old.toArray⟩ x hs' (by omega) (by omega) W
    rw [hos, hxs, Nat.min_self, e1, hx, List.take_of_length_le (by omega), List.take_of_length_le (Nat.le_refl _)] at this
    exact this
  have hTh := hT hd hd1
  have hTw := hT wh hw1
  unfold LayPost
  rw [← hold]
  have hbk : cap ≠ i → (convert 51 9 (.slice (some ⟨gr, i, none⟩) t.length (cap - i))).run Try.prog W = .ok (.string ⟨old.toArray⟩) W := by
    intro _
    refine run_bytes_back W ⟨gr, i, none⟩ _ _ old hol.symm ?_
    intro j hj
    rw [add_plain]
    refine hs.r.cell (j := i + j) (c := old[j]) ?_
    have e : old[j]? = some old[j] := List.getElem?_eq_getElem hj
    have : old[j]? = M[i + j]? := by
      rw [hold, List.getElem?_take, if_pos (by omega), List.getElem?_drop]
    rw [← this, e]
  have hbk0 : cap = i → (convert 51 9 (.slice (some ⟨gr, 0, none⟩) t.length 0)).run Try.prog W = .ok (.string ⟨old.toArray⟩) W := by
    intro hc
    exact run_bytes_back W ⟨gr, 0, none⟩ _ _ old hol.symm (fun j hj => absurd hj (by omega))
  generalize hu : sumT hd old t = uh at *
  generalize hv : sumT wh old t = uw at *
  have hb0 := hs.b.cell 0
  simp at hb0
  have j1 : (i : Int) + (t.length : Int) ≤ (n : Int) := by omega
  have j2 : (n : Int) ≤ (cap : Int) := by omega
  have j3 : (0 : Int) ≤ (i : Int) := by omega
  have j5 : (0 : Int) ≤ (t.length : Int) := by omega
  have hxi : (x.size : Int) = (t.length : Int) := by omega
  have ne1 := Blk.ne_ hs.h hs.b (by decide)
  have ne2 := Blk.ne_ hs.w hs.b (by decide)
  have ne3 := RowB.ne_ hs.r hs.h (by decide)
  have ne4 := RowB.ne_ hs.r hs.w (by decide)
  have ne5 := RowB.ne_ hs.r hs.b (by decide)
  clear hT hu hv hold hol hxs hos e1
  by_cases hic : cap = i
  · have hbk := hbk0 hic
    have ht0 : t = [] := List.eq_nil_of_length_eq_zero (by omega)
    have hcp : ∀ W4, LayS gb gr gh gw cap n M (if i < 20 then uh else hd) uw W4 → ∃ W5, (Builtin.copy_ #[51, 9] 3 #[.slice (some ⟨gr, 0, none⟩) (n - i) 0, .string x]).run Try.prog W4 = .ok (.int .i64 (t.length : Int)) W5 ∧ RowB W5 gr (layM M i t) ∧ W4.grownBy W5 (some gr) := by
      intro W4 h
      obtain ⟨W5, q1, q2, q3⟩ := run_copy_rowB W4 gr 0 (n - i) 0 x M t hx h.r (by omega) (by rw [h.n]; omega)
      refine ⟨W5, q1, ?_, q3⟩
      have e : layM M i t = M.take 0 ++ t ++ M.drop (0 + t.length) := by rw [ht0]; simp [layM]
      rw [e]
      exact q2
    clear hbk0 ht0
    have Hs := Lib.hid hs
    clear hs
    have HTh := Lib.hid hTh
    clear hTh
    have HTw := Lib.hid hTw
    clear hTw
    have Hx := Lib.hid hx
    clear hx
    have Hcp := Lib.hid hcp
    clear hcp
    go_enter Try.func46, Try.ntmps46
    go_upto_region 1 with fail
    clear hb0 hbk
    by_cases hi20 : i < 20
    · have j6 : (i : Int) < 20 := by omega
      have c0 := Hs.out.h.cell 0
      simp at c0
      go_wp2_with fail
      with_reducible refine (HTh.out _).mono ?_
      rintro e W1 ⟨rfl, hb1⟩
      clear c0
      have hs1 := Hs.out.below hb1
      have ho1 : Out (OutL gr gh gw) W W1 := Out.of_below hb1
      have c0 := hs1.h.cell 0
      simp at c0
      have f0 := hs1.h.frozen 0
      clear hb1
      have Hs1 := Lib.hid hs1
      clear hs1
      have Ho1 := Lib.hid ho1
      clear ho1
      go_upto_region 3 with fail
      have hs2 := Hs1.out.seth ne1 ne3 hne uh
      have ho2 := Ho1.out.set_ (t := gh) (.inr (.inl rfl)) 0 (.int .u16 (uh : Int))
      generalize W1.setCell _ _ = W2 at *
      clear c0 f0
      have c0 := hs2.w.cell 0
      simp at c0
      have Hs2 := Lib.hid hs2
      clear hs2
      have Ho2 := Lib.hid ho2
      clear ho2
      go_wp2_with fail
      with_reducible refine (HTw.out _).mono ?_
      rintro e W3 ⟨rfl, hb3⟩
      clear c0
      have hs3 := Hs2.out.below hb3
      have ho3 : Out (OutL gr gh gw) W W3 := Out.trans Ho2.out (Out.of_below (O := OutL gr gh gw) hb3) (fun _ _ e => e)
      have c0 := hs3.w.cell 0
      simp at c0
      have f0 := hs3.w.frozen 0
      clear hb3
      have Hs3 := Lib.hid hs3
      clear hs3
      have Ho3 := Lib.hid ho3
      clear ho3
      go_upto_region 4 with fail
      have hs4 := Hs3.out.setw ne2 ne4 hne uw
      have ho4 := Ho3.out.set_ (t := gw) (.inr (.inr rfl)) 0 (.int .u16 (uw : Int))
      generalize W3.setCell _ _ = W4 at *
      clear c0 f0
      have d0 := hs4.b.cell 0
      simp at d0
      obtain ⟨W5, q1, q2, q3⟩ := Hcp.out W4 (by first | (rw [if_pos hi20]; exact hs4) | (rw [if_neg hi20]; exact hs4))
      have hs5 := hs4.setr q2 (by have := layM_len (M := M) (i := i) (t := t) (by rw [hs4.n]; exact hi); rw [hs4.n] at this; exact this) q3 ne3 ne4 ne5
      have ho5 : Out (OutL gr gh gw) W W5 := Out.trans ho4 (Out.grown (O := OutL gr gh gw) q3 (.inl rfl)) (fun _ _ e => e)
      clear hs4 ho4 q2 q3
      have Hs5 := Lib.hid hs5
      clear hs5
      have Ho5 := Lib.hid ho5
      clear ho5
      go_wp2
      first | go_end0 | refine bodyPost_ret (results_none rfl _ _ _) rfl ?_
      exact ⟨rfl, by first | exact Hs5.out | (have h := Hs5.out; rw [hic] at h; exact h), Ho5.out⟩
    · have j6 : (20 : Int) ≤ (i : Int) := by omega
      go_upto_region 3 with fail
      have hs2 := Hs.out
      have ho2 : Out (OutL gr gh gw) W W := Out.refl _ _
      have c0 := hs2.w.cell 0
      simp at c0
      have Hs2 := Lib.hid hs2
      clear hs2
      have Ho2 := Lib.hid ho2
      clear ho2
      go_wp2_with fail
      with_reducible refine (HTw.out _).mono ?_
      rintro e W3 ⟨rfl, hb3⟩
      clear c0
      have hs3 := Hs2.out.below hb3
      have ho3 : Out (OutL gr gh gw) W W3 := Out.trans Ho2.out (Out.of_below (O := OutL gr gh gw) hb3) (fun _ _ e => e)
      have c0 := hs3.w.cell 0
      simp at c0
      have f0 := hs3.w.frozen 0
      clear hb3
      have Hs3 := Lib.hid hs3
      clear hs3
      have Ho3 := Lib.hid ho3
      clear ho3
      go_upto_region 4 with fail
      have hs4 := Hs3.out.setw ne2 ne4 hne uw
      have ho4 := Ho3.out.set_ (t := gw) (.inr (.inr rfl)) 0 (.int .u16 (uw : Int))
      generalize W3.setCell _ _ = W4 at *
      clear c0 f0
      have d0 := hs4.b.cell 0
      simp at d0
      obtain ⟨W5, q1, q2, q3⟩ := Hcp.out W4 (by first | (rw [if_pos hi20]; exact hs4) | (rw [if_neg hi20]; exact hs4))
      have hs5 := hs4.setr q2 (by have := layM_len (M := M) (i := i) (t := t) (by rw [hs4.n]; exact hi); rw [hs4.n] at this; exact this) q3 ne3 ne4 ne5
      have ho5 : Out (OutL gr gh gw) W W5 := Out.trans ho4 (Out.grown (O := OutL gr gh gw) q3 (.inl rfl)) (fun _ _ e => e)
      clear hs4 ho4 q2 q3
      have Hs5 := Lib.hid hs5
      clear hs5
      have Ho5 := Lib.hid ho5
      clear ho5
      go_wp2
      first | go_end0 | refine bodyPost_ret (results_none rfl _ _ _) rfl ?_
      exact ⟨rfl, by first | exact Hs5.out | (have h := Hs5.out; rw [hic] at h; exact h), Ho5.out⟩
  · have hbk := hbk hic
    have hcp : ∀ W4, LayS gb gr gh gw cap n M (if i < 20 then uh else hd) uw W4 → ∃ W5, (Builtin.copy_ #[51, 9] 3 #[.slice (some ⟨gr, i, none⟩) (n - i) (cap - i), .string x]).run Try.prog W4 = .ok (.int .i64 (t.length : Int)) W5 ∧ RowB W5 gr (layM M i t) ∧ W4.grownBy W5 (some gr) := by
      intro W4 h
      exact run_copy_rowB W4 gr i (n - i) (cap - i) x M t hx h.r (by omega) (by rw [h.n]; exact hi)
    clear hbk0
    have Hs := Lib.hid hs
    clear hs
    have HTh := Lib.hid hTh
    clear hTh
    have HTw := Lib.hid hTw
    clear hTw
    have Hx := Lib.hid hx
    clear hx
    have Hcp := Lib.hid hcp
    clear hcp
    go_enter Try.func46, Try.ntmps46
    go_upto_region 1 with fail
    clear hb0 hbk
    by_cases hi20 : i < 20
    · have j6 : (i : Int) < 20 := by omega
      have c0 := Hs.out.h.cell 0
      simp at c0
      go_wp2_with fail
      with_reducible refine (HTh.out _).mono ?_
      rintro e W1 ⟨rfl, hb1⟩
      clear c0
      have hs1 := Hs.out.below hb1
      have ho1 : Out (OutL gr gh gw) W W1 := Out.of_below hb1
      have c0 := hs1.h.cell 0
      simp at c0
      have f0 := hs1.h.frozen 0
      clear hb1
      have Hs1 := Lib.hid hs1
      clear hs1
      have Ho1 := Lib.hid ho1
      clear ho1
      go_upto_region 3 with fail
      have hs2 := Hs1.out.seth ne1 ne3 hne uh
      have ho2 := Ho1.out.set_ (t := gh) (.inr (.inl rfl)) 0 (.int .u16 (uh : Int))
      generalize W1.setCell _ _ = W2 at *
      clear c0 f0
      have c0 := hs2.w.cell 0
      simp at c0
      have Hs2 := Lib.hid hs2
      clear hs2
      have Ho2 := Lib.hid ho2
      clear ho2
      go_wp2_with fail
      with_reducible refine (HTw.out _).mono ?_
      rintro e W3 ⟨rfl, hb3⟩
      clear c0
      have hs3 := Hs2.out.below hb3
      have ho3 : Out (OutL gr gh gw) W W3 := Out.trans Ho2.out (Out.of_below (O := OutL gr gh gw) hb3) (fun _ _ e => e)
      have c0 := hs3.w.cell 0
      simp at c0
      have f0 := hs3.w.frozen 0
      clear hb3
      have Hs3 := Lib.hid hs3
      clear hs3
      have Ho3 := Lib.hid ho3
      clear ho3
      go_upto_region 4 with fail
      have hs4 := Hs3.out.setw ne2 ne4 hne uw
      have ho4 := Ho3.out.set_ (t := gw) (.inr (.inr rfl)) 0 (.int .u16 (uw : Int))
      generalize W3.setCell _ _ = W4 at *
      clear c0 f0
      have d0 := hs4.b.cell 0
      simp at d0
      obtain ⟨W5, q1, q2, q3⟩ := Hcp.out W4 (by first | (rw [if_pos hi20]; exact hs4) | (rw [if_neg hi20]; exact hs4))
      have hs5 := hs4.setr q2 (by have := layM_len (M := M) (i := i) (t := t) (by rw [hs4.n]; exact hi); rw [hs4.n] at this; exact this) q3 ne3 ne4 ne5
      have ho5 : Out (OutL gr gh gw) W W5 := Out.trans ho4 (Out.grown (O := OutL gr gh gw) q3 (.inl rfl)) (fun _ _ e => e)
      clear hs4 ho4 q2 q3
      have Hs5 := Lib.hid hs5
      clear hs5
      have Ho5 := Lib.hid ho5
      clear ho5
      go_wp2
      first | go_end0 | refine bodyPost_ret (results_none rfl _ _ _) rfl ?_
      exact ⟨rfl, by first | exact Hs5.out | (have h := Hs5.out; rw [hic] at h; exact h), Ho5.out⟩
    · have j6 : (20 : Int) ≤ (i : Int) := by omega
      go_upto_region 3 with fail
      have hs2 := Hs.out
      have ho2 : Out (OutL gr gh gw) W W := Out.refl _ _
      have c0 := hs2.w.cell 0
      simp at c0
      have Hs2 := Lib.hid hs2
      clear hs2
      have Ho2 := Lib.hid ho2
      clear ho2
      go_wp2_with fail
      with_reducible refine (HTw.out _).mono ?_
      rintro e W3 ⟨rfl, hb3⟩
      clear c0
      have hs3 := Hs2.out.below hb3
      have ho3 : Out (OutL gr gh gw) W W3 := Out.trans Ho2.out (Out.of_below (O := OutL gr gh gw) hb3) (fun _ _ e => e)
      have c0 := hs3.w.cell 0
      simp at c0
      have f0 := hs3.w.frozen 0
      clear hb3
      have Hs3 := Lib.hid hs3
      clear hs3
      have Ho3 := Lib.hid ho3
      clear ho3
      go_upto_region 4 with fail
      have hs4 := Hs3.out.setw ne2 ne4 hne uw
      have ho4 := Ho3.out.set_ (t := gw) (.inr (.inr rfl)) 0 (.int .u16 (uw : Int))
      generalize W3.setCell _ _ = W4 at *
      clear c0 f0
      have d0 := hs4.b.cell 0
      simp at d0
      obtain ⟨W5, q1, q2, q3⟩ := Hcp.out W4 (by first | (rw [if_pos hi20]; exact hs4) | (rw [if_neg hi20]; exact hs4))
      have hs5 := hs4.setr q2 (by have := layM_len (M := M) (i := i) (t := t) (by rw [hs4.n]; exact hi); rw [hs4.n] at this; exact this) q3 ne3 ne4 ne5
      have ho5 : Out (OutL gr gh gw) W W5 := Out.trans ho4 (Out.grown (O := OutL gr gh gw) q3 (.inl rfl)) (fun _ _ e => e)
      clear hs4 ho4 q2 q3
      have Hs5 := Lib.hid hs5
      clear hs5
      have Ho5 := Lib.hid ho5
      clear ho5
      go_wp2
      first | go_end0 | refine bodyPost_ret (results_none rfl _ _ _) rfl ?_
      exact ⟨rfl, by first | exact Hs5.out | (have h := Hs5.out; rw [hic] at h; exact h), Ho5.out⟩
end Go.Proofs.Ytengegcnocdkoaa
end
section
set_option maxRecDepth 20000
namespace Go.Proofs.Ytengegcnocdkoaa
open Go.RowKit
/-- bytes, the head's checksum, the whole's -/
structure LS where
  M : List UInt8
  hd : Nat
  wh : Nat
def LS.lay (st : LS) (i : Nat) (t : List UInt8) : LS := ⟨layM st.M i t, if i < 20 then sumT st.hd ((st.M.drop i).take t.length) t else st.hd, sumT st.wh ((st.M.drop i).take t.length) t⟩
structure LS.ok (st : LS) (n : Nat) : Prop where
  n : st.M.length = n
  hd : st.hd < 65536
  wh : st.wh < 65536
theorem LS.ok.lay {st : LS} {n : Nat} (h : st.ok n) {i : Nat} {t : List UInt8} (hi : i + t.length ≤ n) : (st.lay i t).ok n := by
  refine ⟨?_, ?_, sumT_lt h.wh _ _⟩
  · show (layM st.M i t).length = n
    rw [layM_len (by rw [h.n]; exact hi), h.n]
  · show (if i < 20 then _ else _) < 65536
    split
    · exact sumT_lt h.hd _ _
    · exact h.hd
def w16 (L : List UInt8) (i : Nat) : Nat := (L.getD i 0).toNat * 256 + (L.getD (i + 1) 0).toNat
theorem w16_lt (L : List UInt8) (i : Nat) : w16 L i < 65536 := by
  unfold w16
  have := (L.getD i 0).toNat_lt
  have := (L.getD (i + 1) 0).toNat_lt
  omega
def adr (s : Sg) : List UInt8 := be4 s.s0 ++ be4 s.s2
def nums (s : Sg) : List UInt8 := be2 s.s1 ++ be2 s.s3 ++ be4 s.s4 ++ be4 s.s5
def rew0 (L : List UInt8) : LS := ⟨L, w16 L 10, w16 L 36⟩
def rew1 (L : List UInt8) (s : Sg) : LS := (((rew0 L).lay 12 (adr s)).lay 20 (nums s)).lay 34 (be2 s.s7)
def rewS (L : List UInt8) (x : Sh) : LS := (rew1 L (turnS (sgL L) x)).lay 40 (turnR x.x5 x.x6 x.x7 (oB L)).1
def rewL (L : List UInt8) (x : Sh) : List UInt8 := layM (layM (rewS L x).M 10 (be2 (rewS L x).hd)) 36 (be2 (rewS L x).wh)
/-- what Rewrite answers -/
def rewR (L : List UInt8) (x : Sh) : ByteArray × Int := if pdecE L = 0 then (⟨(rewL L x).toArray⟩, 0) else (⟨#[]⟩, pdecE L)
theorem rew0_ok (L : List UInt8) : (rew0 L).ok L.length := ⟨rfl, w16_lt _ _, w16_lt _ _⟩
end Go.Proofs.Ytengegcnocdkoaa
end
section
set_option maxRecDepth 20000
namespace Go.Proofs.Ytengegcnocdkoaa
open Go.RowKit
theorem blocksF_le : ∀ (f : Nat) (B : List UInt8), (blocksF f B).length ≤ f
  | 0, _ => Nat.le_refl _
  | f + 1, B => by
    unfold blocksF
    split
    · simp
    · have := blocksF_le f (B.drop 8)
      simp only [List.length_cons]
      omega
theorem blocksF_wf : ∀ (f : Nat) (B : List UInt8), ∀ p ∈ blocksF f B, (0 ≤ p.1 ∧ p.1 ≤ 4294967295) ∧ 0 ≤ p.2 ∧ p.2 ≤ 4294967295
  | 0, _ => fun p hp => by cases hp
  | f + 1, B => by
    intro p hp
    unfold blocksF at hp
    split at hp
    · cases hp
    · rcases List.mem_cons.1 hp with rfl | hp
      · have h1 := numL_lt32 (B.take 4)
        have h2 := numL_lt32 ((B.drop 4).take 4)
        refine ⟨⟨?_, ?_⟩, ?_, ?_⟩ <;> dsimp only <;> omega
      · exact blocksF_wf f _ p hp
/-- what holds while options are read -/
structure RdI (st : Op × List Nat) : Prop where
  wf : st.1.wf
  bl : 5 ∉ st.2 → st.1.bl = []
  len : st.1.bl.length ≤ 32
theorem long5_le {n : Nat} (h : longB 5 (n + 2) = true) : n ≤ 32 := by rcases long5 h with h | h | h | h <;> omega
theorem wf_scale {n : Int} (h0 : 0 ≤ n) (h1 : n ≤ 14) : (Lit.int .i64 n).wf = true := by
  simp [Lit.wf, IntKind.min, IntKind.max, IntKind.signed, IntKind.bits]
  omega
theorem RdI.step {st st' : Op × List Nat} {x : It} (h : RdI st) (hx : ∀ B, x.2 = some B → longB x.1 (B.length + 2) = true) (hs : stepI st x = some st') : RdI st' := by
  obtain ⟨o, met⟩ := st
  obtain ⟨k, B⟩ := x
  obtain ⟨⟨w1, w2, w3, w4, w5⟩, hb, hl⟩ := h
  dsimp only at w1 w2 w3 w4 w5 hb hl hx
  unfold stepI at hs
  cases B with
  | none => cases hs
  | some B =>
    dsimp only at hs
    have hx := hx B rfl
    by_cases hm : k ∈ met
    · rw [if_pos hm] at hs; cases hs
    rw [if_neg hm] at hs
    have keep : ∀ q, (5 ∉ (if metB k = true then k :: met else met) → q) ↔ ((k ≠ 5 → 5 ∉ met → q)) := by
      intro q
      by_cases h5 : k = 5
      · subst h5
        have : metB 5 = true := rfl
        rw [if_pos this]
        simp
      · split
        · simp [h5, Ne.symm h5]
        · simp [h5]
    unfold takeI at hs
    by_cases k2 : k = 2
    · rw [if_pos k2] at hs
      by_cases h0 : numL B % 65536 = 0
      · rw [if_pos h0] at hs; cases hs
      · rw [if_neg h0] at hs
        simp only [Option.map_some, Option.some.injEq] at hs
        subst hs
        exact ⟨⟨Nat.mod_lt _ (by decide), w2, w3, w4, w5⟩, (keep _).2 fun _ => hb, hl⟩
    rw [if_neg k2] at hs
    by_cases k3 : k = 3
    · rw [if_pos k3] at hs
      simp only [Option.map_some, Option.some.injEq] at hs
      subst hs
      exact ⟨⟨w1, wf_scale (by dsimp only; omega) (by dsimp only; omega), w3, w4, w5⟩, (keep _).2 fun _ => hb, hl⟩
    rw [if_neg k3] at hs
    by_cases k4 : k = 4
    · rw [if_pos k4] at hs
      simp only [Option.map_some, Option.some.injEq] at hs
      subst hs
      exact ⟨⟨w1, w2, w3, w4, w5⟩, (keep _).2 fun _ => hb, hl⟩
    rw [if_neg k4] at hs
    by_cases k8 : k = 8
    · rw [if_pos k8] at hs
      simp only [Option.map_some, Option.some.injEq] at hs
      subst hs
      exact ⟨⟨w1, w2, numL_lt32 _, numL_lt32 _, w5⟩, (keep _).2 fun _ => hb, hl⟩
    rw [if_neg k8] at hs
    by_cases k5 : k = 5
    · rw [if_pos k5] at hs
      simp only [Option.map_some, Option.some.injEq] at hs
      subst k5
      subst hs
      have hb0 := hb hm
      rw [hb0] at w5 ⊢
      refine ⟨⟨w1, w2, w3, w4, ?_⟩, (keep _).2 fun h => absurd rfl h, ?_⟩
      · intro p hp
        exact blocksF_wf _ _ p (by simpa using hp)
      · have := blocksF_le B.length B
        have := long5_le hx
        show ([] ++ blocksF B.length B).length ≤ 32
        simp
        omega
    · rw [if_neg k5] at hs
      simp only [Option.map_some, Option.some.injEq] at hs
      subst hs
      exact ⟨⟨w1, w2, w3, w4, w5⟩, (keep _).2 fun _ => hb, hl⟩
theorem RdI.fold : ∀ (l : List It) (st st' : Op × List Nat), RdI st → (∀ x ∈ l, ∀ B, x.2 = some B → longB x.1 (B.length + 2) = true) → foldI l st = some st' → RdI st'
  | [], st, st', h, _, e => by cases e; exact h
  | x :: l, st, st', h, hx, e => by
    rw [foldI_cons] at e
    cases hs : stepI st x with
    | none => rw [hs] at e; cases e
    | some s2 =>
      rw [hs] at e
      exact RdI.fold l s2 st' (h.step (hx x List.mem_cons_self) hs) (fun y hy => hx y (List.mem_cons_of_mem _ hy)) e
theorem decR_wf (L : List UInt8) : (decR L).1.wf ∧ (decR L).1.bl.length ≤ 32 := by
  unfold decR
  split
  · exact ⟨⟨by decide, by decide, by decide, by decide, fun p hp => by cases hp⟩, by decide⟩
  · split
    · exact ⟨⟨by decide, by decide, by decide, by decide, fun p hp => by cases hp⟩, by decide⟩
    · rename_i o ho
      rw [decL_I] at ho
      cases hf : foldI (scan L) (noneO, []) with
      | none => rw [hf] at ho; cases ho
      | some st =>
        rw [hf] at ho
        cases ho
        have := RdI.fold (scan L) _ _ ⟨⟨by decide, by decide, by decide, by decide, fun p hp => by cases hp⟩, fun _ => rfl, by decide⟩ (scanF_ok _ _) hf
        exact ⟨this.wf, this.len⟩
theorem sgL_wf (L : List UInt8) : (sgL L).wf :=
  ⟨hI_src L, Nat.mod_lt _ (by decide), hI_dst L, Nat.mod_lt _ (by decide), numL_lt32 _, numL_lt32 _, UInt8.toNat_lt _, Nat.mod_lt _ (by decide), (decR_wf _).1⟩
theorem zeroSg_wf : zeroSg.wf := ⟨by decide, by decide, by decide, by decide, by decide, by decide, by decide, by decide, ⟨by decide, by decide, by decide, by decide, fun p hp => by cases hp⟩⟩
theorem pdecR_wf (L : List UInt8) : (pdecR L).1.wf ∧ (pdecR L).1.o.bl.length ≤ 32 := by
  unfold pdecR
  split
  · exact ⟨sgL_wf L, (decR_wf _).2⟩
  · exact ⟨zeroSg_wf, by show 0 ≤ 32; omega⟩
end Go.Proofs.Ytengegcnocdkoaa
end
