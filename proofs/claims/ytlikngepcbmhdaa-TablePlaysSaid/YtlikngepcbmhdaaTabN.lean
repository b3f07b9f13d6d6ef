/- Layer 12 (table), of numbers: Bind where there is none, or where it is bound; what each call answers, of a table that the call itself has made. -/
import Derived.Test.YtlikngepcbmhdaaTabP
import Derived.Test.YtlikngepcbmhdaaTabA
set_option linter.unusedVariables false
set_option linter.unusedSimpArgs false
namespace Go.Proofs.Ytlikngepcbmhdaa
open Go.ChangeShapes Go.WideShapes Go.ChangeAt Go.RowKit Go.Maps

set_option maxRecDepth 100000 in
theorem bind_none_i {w : World} {t id : Nat} {s : Tab} (p : Pr) (h : TabAt TI w t s) (hid : id < 18446744073709551616) (he : s.E id = none) :
    Calls Try.prog 14 #[.pointer (some ⟨t, 0, none⟩), .int .u64 (id : Int), .agg #[.int .u32 p.a, .int .u16 p.b, .int .u32 p.c, .int .u16 p.d]] w fun e' w' => e' = .returned (.int .i64 5) ∧ Below w.heap.size w w' := by
  obtain ⟨pa, pb, pc, pd⟩ := p
  obtain ⟨W, hW⟩ : ∃ W, W = w.alloc (.cells #[.int .u32 pa, .int .u16 pb, .int .u32 pc, .int .u16 pd] 34) := ⟨_, rfl⟩
  have hT : TabAt TI W t s := by rw [hW]; exact h.alloc _
  have ho := of_i W t s id hT hid
  have hv' : ofV s id = .pointer none := by unfold ofV; rw [he]
  rw [hv'] at ho
  have hc2 := hT.blk.cell 2
  simp [tabCells] at hc2
  have hem := eq_map_i s.ba
  have hB : Below w.heap.size w W := by rw [hW]; exact (Below.refl _ w).alloc (Nat.le_refl _) _
  generalize s.ba = ba at *
  generalize (id : Int) = i at *
  have Ho := Lib.hid ho
  have HW := Lib.hid hW
  have HB := Lib.hid hB
  clear h hT hid he hv' ho hW hB
  go_enter Try.func14, Try.ntmps14
  go_wp2_with (go_at_call 25; rw [← HW.out]; with_reducible refine Ho.out.mono ?_; rintro e' w1 ⟨rfl, hw⟩; rw [← hw]; clear hw)
  go_ret
  exact ⟨rfl, HB.out⟩
set_option maxRecDepth 100000 in
theorem bind_state_i {w : World} {t id : Nat} {s : Tab} {e : Ent} (p : Pr) (h : TabAt TI w t s) (hid : id < 18446744073709551616) (he : s.E id = some e) (hb : e.bound = true) :
    Calls Try.prog 14 #[.pointer (some ⟨t, 0, none⟩), .int .u64 (id : Int), .agg #[.int .u32 p.a, .int .u16 p.b, .int .u32 p.c, .int .u16 p.d]] w fun e' w' => e' = .returned (.int .i64 3) ∧ Below w.heap.size w w' := by
  obtain ⟨pa, pb, pc, pd⟩ := p
  obtain ⟨W, hW⟩ : ∃ W, W = w.alloc (.cells #[.int .u32 pa, .int .u16 pb, .int .u32 pc, .int .u16 pd] 34) := ⟨_, rfl⟩
  have hT : TabAt TI W t s := by rw [hW]; exact h.alloc _
  have ho := of_i W t s id hT hid
  have hv' : ofV s id = entPtr e := by unfold ofV; rw [he]
  rw [hv'] at ho
  have hc2 := hT.blk.cell 2
  simp [tabCells] at hc2
  have hem := eq_map_i s.ba
  have d9 := (hT.ents id e he).2.2.1.cell 9
  simp [entCells] at d9
  rw [hb] at d9
  unfold entPtr at ho
  have hB : Below w.heap.size w W := by rw [hW]; exact (Below.refl _ w).alloc (Nat.le_refl _) _
  generalize e.blk = g at *
  generalize s.ba = ba at *
  generalize (id : Int) = i at *
  have Ho := Lib.hid ho
  have HW := Lib.hid hW
  have HB := Lib.hid hB
  clear h hT hid he hv' ho hW hB hb
  go_enter Try.func14, Try.ntmps14
  go_wp2_with (go_at_call 25; rw [← HW.out]; with_reducible refine Ho.out.mono ?_; rintro e' w1 ⟨rfl, hw⟩; rw [← hw]; clear hw)
  go_ret
  exact ⟨rfl, HB.out⟩
section
variable {w0 W : World} {t : Nat} {s : Tab}
theorem hset_i (id : Nat) (v : Int) (en : Ent) (h : Has TI w0 W t s) (hid : id < 18446744073709551616) (he : s.E id = some en) :
    Calls Try.prog 16 #[.pointer (some ⟨t, 0, none⟩), .int .u64 (id : Int), .int .i64 v] W fun e W' => e = .returned (.int .i64 0) ∧ Has TI w0 W' t (setT s id (.int .i64 v)) :=
  (set_i v h.tab hid he).mono fun e w' ⟨he', h1, h2⟩ => ⟨he', h.out h1 (h2.mono fun i _ e => .inr (.inr (.inr ⟨id, en, he, e.symm⟩))) fun b hb => by
    rcases hb with e1 | e1 | e1 | ⟨i, e0, e1, e2⟩
    · exact .inl (.inl e1)
    · exact .inl (.inr (.inl e1))
    · exact .inl (.inr (.inr (.inl e1)))
    · obtain ⟨e3, q1, q2, _⟩ := set_some e1
      exact .inl (.inr (.inr (.inr ⟨i, e3, q1, by rw [← q2]; exact e2⟩)))⟩
theorem hpairs_i (id : Nat) (en : Ent) (h : Has TI w0 W t s) (hid : id < 18446744073709551616) (he : s.E id = some en) :
    Calls Try.prog 23 #[.pointer (some ⟨t, 0, none⟩), .int .u64 (id : Int)] W fun e W' => e = .returned (.tuple #[pairA en.near, pairA en.far, .bool en.bound]) ∧ Has TI w0 W' t s :=
  (pairs_i h.tab hid he).mono fun e w' ⟨he', hb⟩ => ⟨he', h.step hb⟩
theorem hall_i (h : Has TI w0 W t s) (hk : s.n ≤ 1000000) :
    Calls Try.prog 21 #[.pointer (some ⟨t, 0, none⟩)] W fun e W' => ∃ v ss, e = .returned v ∧ S64.KeysAre (allM s.E) s.n ss ∧ S64.SortedIs W W' s.n ss v ∧ Below W.heap.size W W' ∧ Has TI w0 W' t s :=
  (all_i h.tab hk).mono fun e w' ⟨v, ss, he', h1, h2, hb⟩ => ⟨v, ss, he', h1, h2, hb, h.step hb⟩
end
end Go.Proofs.Ytlikngepcbmhdaa
