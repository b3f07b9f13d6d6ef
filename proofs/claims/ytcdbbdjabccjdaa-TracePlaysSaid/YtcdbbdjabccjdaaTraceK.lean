/- Layer 31 (trace): Over, All. -/
import Derived.Test.YtcdbbdjabccjdaaTraceJ
set_option linter.unusedVariables false
set_option linter.unusedSimpArgs false
namespace Go.Proofs.Ytcdbbdjabccjdaa
open Go.RowKit Go.BigFrame Go.ChangeMaps

def Sd.over (s : Sd) : Bool := s.dd || (s.cl && s.eof)
theorem over_at (w : World) (b : Nat) (t : Tr) (h : TrAt w b t) : Calls Try.prog 16 #[.pointer (some ⟨b, 0, none⟩)] w fun e w' => e = .returned (.bool (t.s0.over && t.s1.over)) ∧ Below w.heap.size w w' := by
  have c0 := h.cell 0
  have c1 := h.cell 1
  have c2 := h.cell 2
  have c3 := h.cell 3
  have c4 := h.cell 4
  have c5 := h.cell 5
  have c6 := h.cell 6
  have c7 := h.cell 7
  have c8 := h.cell 8
  have c9 := h.cell 9
  have c10 := h.cell 10
  have c11 := h.cell 11
  have c13 := h.cell 13
  simp [trC] at c0 c1 c2 c3 c4 c5 c6 c7 c8 c9 c10 c11 c13
  have hn := none_at w b c13
  obtain ⟨⟨o0, a0, r0, l0, e0, d0⟩, ⟨o1, a1, r1, l1, e1, d1⟩, cs⟩ := t
  simp only at c0 c1 c2 c3 c4 c5 c6 c7 c8 c9 c10 c11
  have i0 : ∀ w, (Instr.index 30 (.agg #[.bool o0, .string a0, .int .i64 r0, .bool l0, .bool e0, .bool d0, .bool o1, .string a1, .int .i64 r1, .bool l1, .bool e1, .bool d1]) (.int .i64 0)).run Try.prog w = .ok (.agg #[.bool o0, .string a0, .int .i64 r0, .bool l0, .bool e0, .bool d0]) w := fun _ => by kernel_rfl
  have i1 : ∀ w, (Instr.index 30 (.agg #[.bool o0, .string a0, .int .i64 r0, .bool l0, .bool e0, .bool d0, .bool o1, .string a1, .int .i64 r1, .bool l1, .bool e1, .bool d1]) (.int .i64 1)).run Try.prog w = .ok (.agg #[.bool o1, .string a1, .int .i64 r1, .bool l1, .bool e1, .bool d1]) w := fun _ => by kernel_rfl
  show Calls _ _ _ _ fun e w' => e = .returned (.bool ((d0 || (l0 && e0)) && (d1 || (l1 && e1)))) ∧ Below w.heap.size w w'
  have Hn := Lib.hid hn
  clear hn
  clear c13 h
  go_enter Try.func16, Try.ntmps16
  go_wp2_with fail
  (with_reducible refine (Hn.out).mono ?_)
  rintro e w' ⟨rfl, rfl⟩
  go_wp2
  go_loopw [12] (fun i wr => Below w.heap.size w wr ∧ (i = .int .i64 0 ∨ (i = .int .i64 1 ∧ (d0 || (l0 && e0)) = true) ∨ (i = .int .i64 2 ∧ ((d0 || (l0 && e0)) && (d1 || (l1 && e1))) = true))) (fun i _ => 2 - (intOf i).toNat)
  case atStart => exact ⟨Below.refl _ _, .inl rfl⟩
  case round =>
    obtain ⟨hB, hrel⟩ := hrel
    have HB := Lib.hid hB
    clear hB
    rcases hrel with rfl | ⟨rfl, ho⟩ | ⟨rfl, ho⟩
    · cases d0 <;> cases l0 <;> cases e0
      all_goals go_wp2
      all_goals first
        | (go_ret; exact ⟨rfl, HB.out.alloc HB.out.size _⟩)
        | (go_roundw; (case rel => exact ⟨HB.out.alloc HB.out.size _, .inr (.inl ⟨by go_num, rfl⟩)⟩); (case measure => simp [intOf]))
    · have HO := Lib.hid ho
      clear ho
      cases d1 <;> cases l1 <;> cases e1
      all_goals go_wp2
      all_goals first
        | (go_ret; exact ⟨by rw [HO.out]; rfl, HB.out.alloc HB.out.size _⟩)
        | (go_roundw; (case rel => exact ⟨HB.out.alloc HB.out.size _, .inr (.inr ⟨by go_num, by rw [HO.out]; rfl⟩)⟩); (case measure => simp [intOf]))
    · have HO := Lib.hid ho
      clear ho
      go_wp2
      go_ret
      exact ⟨ret_bool HO.out.symm, HB.out⟩
end Go.Proofs.Ytcdbbdjabccjdaa
