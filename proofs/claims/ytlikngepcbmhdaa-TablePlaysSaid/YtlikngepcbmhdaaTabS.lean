/- Layer 12 (table), of numbers: Set. -/
import Derived.Test.YtlikngepcbmhdaaTabH
set_option linter.unusedVariables false
set_option linter.unusedSimpArgs false
namespace Go.Proofs.Ytlikngepcbmhdaa
open Go.ChangeShapes Go.WideShapes Go.ChangeAt Go.RowKit Go.Maps

/-- an entry gets another value -/
def setT (s : Tab) (id : Nat) (v : Value) : Tab := { s with E := fun i => if i = id then (s.E i).map (fun e => { e with v := v }) else s.E i }
theorem set_E (s : Tab) (id : Nat) (v : Value) (i : Nat) : (setT s id v).E i = if i = id then (s.E i).map (fun e => { e with v := v }) else s.E i := rfl
theorem set_some {s : Tab} {id : Nat} {v : Value} {i : Nat} {e : Ent} (h : (setT s id v).E i = some e) : ∃ e0, s.E i = some e0 ∧ e.blk = e0.blk ∧ e.near = e0.near ∧ e.far = e0.far ∧ e.bound = e0.bound ∧ (i ≠ id → e = e0) ∧ (i = id → e = { e0 with v := v }) := by
  rw [set_E] at h
  by_cases hi : i = id
  · rw [if_pos hi] at h
    cases he : s.E i with
    | none => rw [he] at h; cases h
    | some e0 =>
      rw [he] at h
      injection h with h
      subst h
      exact ⟨e0, rfl, rfl, rfl, rfl, rfl, fun h => absurd hi h, fun _ => rfl⟩
  · rw [if_neg hi] at h
    exact ⟨e, h, rfl, rfl, rfl, rfl, fun _ => rfl, fun h => absurd h hi⟩
theorem set_allM (s : Tab) (id : Nat) (v : Value) : allM (setT s id v).E = allM s.E := by
  funext kl
  unfold allM
  split
  · rename_i i
    rw [set_E]
    split
    · cases s.E i.toNat <;> rfl
    · rfl
  · rfl
theorem setT_at {w : World} {t id : Nat} {s : Tab} {e : Ent} {v : Value} (h : TabAt TI w t s) (he : s.E id = some e) : TabAt TI (w.setCell ⟨e.blk, 0, none⟩ v) t (setT s id v) := by
  have hk := (h.ents id e he).2.2.1
  have hout : ∀ g, g ≠ e.blk → (w.setCell ⟨e.blk, 0, none⟩ v).heap[g]? = w.heap[g]? := fun g hg => Below.heap_setCell w ⟨e.blk, 0, none⟩ v g hg
  have ne (g : Nat) (o : Obj) (ho : w.heap[g]? = some o) (hne : ∀ cs, o ≠ .cells cs TI.ent (0, 0)) : g ≠ e.blk := fun e1 => by
    unfold Blk at hk
    rw [← e1, ho] at hk
    injection hk with hk
    exact hne _ hk
  refine ⟨?_, ?_, ?_, ?_, ?_, h.diff, h.n_le, h.m_le, h.last_le, ?_, ?_⟩
  · refine h.blk.of_eq (hout _ (ne _ _ h.blk ?_))
    intro cs e1
    injection e1 with _ e1
    exact absurd e1 (by decide)
  · rw [set_allM]
    obtain ⟨es, c, q1, _⟩ := h.all_.size
    exact h.all_.of_eq (hout _ (ne _ _ q1 (fun cs e1 => by cases e1)))
  · obtain ⟨M, q1, q2⟩ := h.by_
    obtain ⟨es, c, q3, _⟩ := q1.size
    exact ⟨M, q1.of_eq (hout _ (ne _ _ q3 (fun cs e1 => by cases e1))), q2⟩
  · intro i e1 h1
    obtain ⟨e0, q1, q2, q3, q4, q5, q6, q7⟩ := set_some h1
    obtain ⟨r1, r2, r3, r4, r5⟩ := h.ents i e0 q1
    refine ⟨r1, r2, ?_, by rw [q3]; exact r4, by rw [q4]; exact r5⟩
    by_cases hi : i = id
    · subst hi
      rw [he] at q1
      injection q1 with q1
      subst q1
      rw [q7 rfl]
      exact r3.set_ 0 v
    · rw [q6 hi]
      exact r3.of_eq (hout _ (fun e2 => hi (h.apart i id e0 e q1 he e2)))
  · intro i j e1 e2 h1 h2 h3
    obtain ⟨e3, q1, q2, _⟩ := set_some h1
    obtain ⟨e4, r1, r2, _⟩ := set_some h2
    exact h.apart i j e3 e4 q1 r1 (by rw [← q2, ← r2]; exact h3)
  · intro p hp hb
    obtain ⟨e1, q1, q2⟩ := h.leads p hp hb
    have hb2 : (setT s id v).by_ p = s.by_ p := rfl
    rw [hb2, set_E, q1]
    by_cases hi : s.by_ p = id
    · rw [if_pos hi]; exact ⟨_, rfl, q2⟩
    · rw [if_neg hi]; exact ⟨_, rfl, q2⟩
  · intro i e1 h1
    obtain ⟨e0, q1, q2, q3, q4, q5, _⟩ := set_some h1
    have := h.led i e0 q1
    rw [q3, q4, q5]
    exact this
set_option maxRecDepth 100000 in
set_option maxHeartbeats 1000000 in
theorem set_i {w : World} {t id : Nat} {s : Tab} {e : Ent} (v : Int) (h : TabAt TI w t s) (hid : id < 18446744073709551616) (he : s.E id = some e) :
    Calls Try.prog 16 #[.pointer (some ⟨t, 0, none⟩), .int .u64 (id : Int), .int .i64 v] w fun e' w' => e' = .returned (.int .i64 0) ∧ TabAt TI w' t (setT s id (.int .i64 v)) ∧ Out (fun b => b = e.blk) w w' := by
  have ho := of_i w t s id h hid
  have hv' : ofV s id = entPtr e := by unfold ofV; rw [he]
  rw [hv'] at ho
  have hc2 := h.blk.cell 2
  simp [tabCells] at hc2
  have hem := eq_map_i s.ba
  have hke := (h.ents id e he).2.2.1
  have hc0 := hke.cell 0
  have hf0 := hke.frozen 0
  simp [entCells] at hc0
  have hp := setT_at (v := .int .i64 v) h he
  have Hp := Lib.hid hp
  unfold entPtr at ho
  have hO : Out (fun b => b = e.blk) w (w.setCell ⟨e.blk, 0, none⟩ (.int .i64 v)) := Out.set_ (O := fun b => b = e.blk) (Out.refl _ _) rfl 0 _
  have HO := Lib.hid hO
  generalize setT s id (.int .i64 v) = s2 at *
  generalize e.blk = g at *
  generalize s.ba = ba at *
  generalize e.v = ev at *
  generalize (id : Int) = i at *
  have Ho := Lib.hid ho
  clear h hid he hv' ho hke hp hO
  go_enter Try.func16, Try.ntmps16
  go_wp2_with (go_at_call 25; with_reducible refine Ho.out.mono ?_; rintro e' w1 ⟨rfl, hw⟩; rw [← hw]; clear hw)
  go_ret
  exact ⟨rfl, Hp.out, HO.out⟩
set_option maxRecDepth 100000 in
theorem set_no_i {w : World} {t id : Nat} {s : Tab} (v : Int) (h : TabAt TI w t s) (hid : id < 18446744073709551616) (he : s.E id = none) :
    Calls Try.prog 16 #[.pointer (some ⟨t, 0, none⟩), .int .u64 (id : Int), .int .i64 v] w fun e' w' => e' = .returned (.int .i64 5) ∧ w' = w := by
  have ho := of_i w t s id h hid
  have hv' : ofV s id = .pointer none := by unfold ofV; rw [he]
  rw [hv'] at ho
  have hc2 := h.blk.cell 2
  simp [tabCells] at hc2
  have hem := eq_map_i s.ba
  generalize s.ba = ba at *
  generalize (id : Int) = i at *
  have Ho := Lib.hid ho
  clear h hid he hv' ho
  go_enter Try.func16, Try.ntmps16
  go_wp2_with (go_at_call 25; with_reducible refine Ho.out.mono ?_; rintro e' w1 ⟨rfl, hw⟩; rw [← hw]; clear hw)
  go_ret
  exact ⟨rfl, rfl⟩
end Go.Proofs.Ytlikngepcbmhdaa
