/- Layer 16 (reasm): New, Take. -/
import Derived.Test.YtbiaphichaomaaaReasmW
set_option linter.unusedVariables false
set_option linter.unusedSimpArgs false
namespace Go.Proofs.Ytbiaphichaomaaa
open Go.RowKit Go.BigFrame Go.Maps Go.ChangeShapes Go.WideShapes Go.ChangeAt

def NewRPost (next most : Nat) (w : World) (e : Ending) (w' : World) : Prop :=
  ∃ b bm rv pv, e = .returned (.tuple #[.pointer (some ⟨b, 0, none⟩), .int .i64 0]) ∧ RsAt w' b bm rv pv (newR next most) ∧ Below w.heap.size w w' ∧ (∀ i, OwnR b bm rv i → w.heap.size ≤ i ∧ i < w'.heap.size)
theorem new_r (next most : Nat) (w : World) (h1 : next ≤ 4611686018427387904) (h2 : 1 ≤ most) (h3 : most ≤ 65536) :
    Calls Try.prog 6 #[.int .u64 (next : Int), .int .i64 (most : Int)] w (NewRPost next most w) := by
  have i1 : ¬ (4611686018427387904 : Int) < (next : Int) := by omega
  have i2 : ¬ (most : Int) < 1 := by omega
  have i3 : ¬ (65536 : Int) < (most : Int) := by omega
  have hnew : (Instr.makeMap 46 none).run Try.prog w = .ok (.map (some w.heap.size)) (w.alloc (.map #[] 0)) := by kernel_rfl
  have hpost : NewRPost next most w (.returned (.tuple #[.pointer (some ⟨w.heap.size + 1, 0, none⟩), .int .i64 0])) ((w.alloc (.map #[] 0)).alloc (.cells #[.int .i64 (most : Int), .int .u64 (next : Int), .slice none 0 0, .map (some w.heap.size), .slice none 0 0] 48)) := by
    have e1 : (w.alloc (.map #[] 0)).heap.size = w.heap.size + 1 := by simp
    refine ⟨w.heap.size + 1, w.heap.size, .slice none 0 0, .slice none 0 0, rfl, ⟨?_, World.ownsRow_nil _ _ _ _, ⟨0, ?_, Nat.zero_le _⟩, ⟨none, 0, rfl, Nat.le_refl _, Nat.zero_le _, .inl rfl⟩⟩, ((Below.refl _ _).alloc (Nat.le_refl _) _).alloc (by simp) _, ?_⟩
    · have := Blk.new (w.alloc (.map #[] 0)) 48 #[.int .i64 (most : Int), .int .u64 (next : Int), .slice none 0 0, .map (some w.heap.size), .slice none 0 0]
      rw [e1] at this
      exact this
    · refine ((MapIs.made Try.prog 28 w).alloc _).congr ?_ rfl
      funext kl
      unfold farM newR
      split
      · simp
      · rfl
    · rintro i (rfl | rfl | h)
      · simp
      · simp <;> omega
      · simp [Value.ownBlock] at h
  have Hpost := Lib.hid hpost
  clear hpost
  go_enter Try.func6, Try.ntmps6
  go_wp2
  go_ret2
  exact Hpost.out
theorem new_r_no (next most : Int) (w : World) (h : 4611686018427387904 < next ∨ most < 1 ∨ 65536 < most) :
    Calls Try.prog 6 #[.int .u64 next, .int .i64 most] w fun e w' => e = .returned (.tuple #[.pointer none, .int .i64 2]) ∧ w = w' := by
  go_enter Try.func6, Try.ntmps6
  go_wp2
  all_goals first | (go_ret2; exact ⟨rfl, rfl⟩) | (exfalso; omega)
/-- the bytes of a row of the call's own, as a string -/
theorem row_str {w : World} {base : Nat} {A : Option Addr} {n c m : Nat} {l : List UInt8} (h : w.ownsRow base 5 1 (.slice A n c) n (l.map byteV)) (hl : l.length = n) (hm : m ≤ n) :
    (convert 42 9 (.slice A m c)).run Try.prog w = .ok (.string ⟨(l.take m).toArray⟩) w := by
  rcases h.2 with ⟨hv, h0⟩ | ⟨g, cap, cur, hv, _, hg, hnc, _, hcs, ht⟩
  · injection hv with e1 e2 e3
    subst e1 e2 e3
    obtain rfl : m = 0 := by omega
    rw [List.take_zero]
    kernel_rfl
  · injection hv with e1 e2 e3
    subst e1 e3
    refine run_bytes_back w ⟨g, 0, none⟩ m c (l.take m) (by simp; omega) (fun j hj => ?_)
    have hj2 : j < m := by simp at hj; omega
    have e : (l.map byteV)[j]? = some (byteV l[j]) := by rw [List.getElem?_map, List.getElem?_eq_getElem (by omega)]; rfl
    rw [← ht, List.getElem?_take_of_lt (by omega)] at e
    rw [add_plain, Nat.zero_add, cell_of_row w g j cur _ (0, 0) hg]
    have : cur[j]? = some (byteV l[j]) := by simpa using e
    rw [this]
    simp [byteV]
theorem take_r (b bm : Nat) (rv pv : Value) (s : Rs) (w : World) (k : Int) (h : RsAt w b bm rv pv s) (hl : s.ready.length ≤ 1000000) :
    Calls Try.prog 8 #[.pointer (some ⟨b, 0, none⟩), .int .i64 k] w (RGo b bm rv (takeR s k).1 (.string ⟨(takeR s k).2.toArray⟩) w) := by
  by_cases hk : k ≤ 0
  · have ht : takeR s k = (s, []) := by unfold takeR; rw [if_pos hk]
    have hpost : RGo b bm rv (takeR s k).1 (.string ⟨(takeR s k).2.toArray⟩) w (.returned (.string ⟨#[]⟩)) w := by rw [ht]; exact ⟨rv, pv, rfl, h, Out.refl _ _, Later.refl _ _⟩
    have H := Lib.hid h
    clear h
    have Hpost := Lib.hid hpost
    clear hpost
    have Ht := Lib.hid ht
    clear ht
    go_enter Try.func8, Try.ntmps8
    go_wp2
    go_ret
    exact Hpost.out
  · obtain ⟨m, hm⟩ : ∃ m, m = min k.toNat s.ready.length := ⟨_, rfl⟩
    have ht : takeR s k = ({ s with ready := s.ready.drop m }, s.ready.take m) := by unfold takeR; rw [if_neg hk, hm]
    obtain ⟨A, c, hrv, hrc, hrm⟩ := own_slice0 h.row
    subst hrv
    obtain ⟨L, hL⟩ : ∃ L, L = s.ready.length := ⟨_, rfl⟩
    have hrow := h.row
    have hmL : m ≤ L := by omega
    have hmin : min k (L : Int) = (m : Int) := by omega
    have c2 := h.blk.cell 2
    have f2 := h.blk.frozen 2
    have hbl := h.blk.lt
    simp at c2
    rw [← hL] at c2 hrc hrow hl
    have hstr := row_str hrow hL.symm hmL
    obtain ⟨i0, hi, h0, h1, h2⟩ := info_parts infoU8
    have hrd : Reads w w.heap.size 1 A L (s.ready.map byteV) := Reads.of_own hrow
    have hcut := hrd.cut (k := m) (cap := c) hmL hrc
    rw [Nat.mul_one] at hcut
    have hone : ∀ u ∈ (s.ready.map byteV).drop m, u.oneCell' = true := by
      intro u hu
      obtain ⟨q, _, hq⟩ := List.mem_map.1 (List.mem_of_mem_drop hu)
      subst hq
      rfl
    have hown0 : w.ownsRow 0 5 1 (.slice none 0 0) 0 [] := World.ownsRow_nil _ _ _ _
    have hkk : ¬ k ≤ 0 := hk
    have j1 : (0 : Int) ≤ (m : Int) := by omega
    have j2 : (m : Int) ≤ (L : Int) := by omega
    have j3 : (L : Int) ≤ (c : Int) := by omega
    have j4 : (c : Int) ≤ 9223372036854775807 := by unfold maxLen at hrm; omega
    have j5 : m ≤ c := by omega
    clear hrow hrd hm
    have HL := Lib.hid hL
    clear hL
    have H := Lib.hid h
    clear h
    have Ht := Lib.hid ht
    clear ht
    have Hi := Lib.hid hi
    clear hi
    have H0 := Lib.hid h0
    clear h0
    have H1 := Lib.hid h1
    clear h1
    have H2 := Lib.hid h2
    clear h2
    have Hcut := Lib.hid hcut
    clear hcut
    have Hone := Lib.hid hone
    clear hone
    have Hown0 := Lib.hid hown0
    clear hown0
    have Hrm := Lib.hid hrm
    clear hrm
    have Hl := Lib.hid hl
    clear hl
    go_enter Try.func8, Try.ntmps8
    go_upto_region 5 with fail
    go_wp2_with (at_builtin; refine wpList_append_any _ rfl _ _ _ rfl 0 5 i0 _ 1 1 Try.underlying42 Hi.out H0.out H1.out H2.out rfl (by decide) (.slice none 0 0) 0 [] rfl Hown0.out _ _ (L - m) _ _ rfl Hcut.out Hone.out (by have := Hl.out; simp only [maxLen]; omega) (by have := Hl.out; omega) (Nat.zero_le _) ?_; intro v1 w1 hown1 hg1 hat1; rw [Nat.zero_add, List.nil_append] at hown1; obtain ⟨A1, k1, hv1, hrc1, hrm1⟩ := own_slice0 hown1; subst hv1; have hb1 := Blk.grown H.out.blk hg1 (by simp [Value.ownBlock]); have g2 := Blk.cell hb1 2; have e2 := Blk.frozen hb1 2; have hl1 := Blk.lt hb1; simp at g2; have Hb1 := Lib.hid hb1; have Hown1 := Lib.hid hown1; have Hg1 := Lib.hid hg1; have Hat1 := Lib.hid hat1; clear hb1 hown1 hg1 hat1)
    all_goals
      go_ret
      rw [Ht.out]
      have hlen : L - m = (s.ready.drop m).length := by rw [List.length_drop, ← HL.out]
      have hrow : w1.ownsRow 0 5 1 (.slice A1 (L - m) k1) (s.ready.drop m).length ((s.ready.drop m).map byteV) := by
        have := Hown1.out
        rw [← hlen]
        rw [← List.map_drop] at this
        exact this
      have hne : (Value.slice A1 (L - m) k1).ownBlock ≠ some b := own_blk_ne hrow Hb1.out (by decide)
      have hbm := H.out.map_ne
      obtain ⟨nm, q2, q3⟩ := H.out.far
      refine ⟨_, pv, rfl, ⟨by simpa using Blk.set_ Hb1.out 2 (.slice A1 (L - m) k1), own_row_eq hrow (fun i hi => Below.heap_setCell w1 ⟨b, 2, none⟩ _ i (fun e => hne (by rw [← (show i = b from e)]; exact hi))), ⟨nm, (q2.kept Hg1.out (by simp [Value.ownBlock])).setCell (fun e => hbm e.symm) _, q3⟩,
        H.out.parts.keep (fun g cs hg => by rw [Below.heap_setCell w1 ⟨b, 2, none⟩ _ g (fun e => Blk.ne_ hg H.out.blk (by decide) e)]; exact Hg1.out.block g hg.lt (by simp [Value.ownBlock]))⟩, ?_, ?_⟩
      · exact Out.set_ (⟨Hg1.out.os, Hg1.out.tape, Hg1.out.output, Hg1.out.size, fun i hi _ => Hg1.out.block i hi (by simp [Value.ownBlock])⟩ : Out (OwnR b bm _) w w1) (.inl rfl) 2 _
      · intro i hi
        rcases Hat1.out with e | e
        · rw [e] at hi; simp [Value.ownBlock] at hi
        · rw [e] at hi; injection hi with hi; exact .inr (by omega)
end Go.Proofs.Ytbiaphichaomaaa
