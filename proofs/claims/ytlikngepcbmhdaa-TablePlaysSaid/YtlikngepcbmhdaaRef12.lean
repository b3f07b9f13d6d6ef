/- Layer 12's reference: its entries in memory; At, Find. -/
import Derived.Test.YtlikngepcbmhdaaTabR
import Derived.Test.YtlikngepcbmhdaaFlowUB
import Derived.Deep.MidRow
set_option linter.unusedVariables false
set_option linter.unusedSimpArgs false
namespace Go.Proofs.Ytlikngepcbmhdaa
open Go.ChangeShapes Go.WideShapes Go.ChangeAt Go.RowKit Go.Maps

def peC (x : PE) : List Value := [.int .u64 (x.id : Int), .int .i64 x.v, .int .u32 x.near.a, .int .u16 x.near.b, .int .u32 x.near.c, .int .u16 x.near.d, .int .u32 x.far.a, .int .u16 x.far.b, .int .u32 x.far.c, .int .u16 x.far.d, .bool x.bound]
theorem peC_len (x : PE) : (peC x).length = 11 := rfl
theorem peC_one (x : PE) : ∀ u ∈ peC x, u.oneCell' = true := by
  intro u hu
  simp only [peC, List.mem_cons, List.not_mem_nil, or_false] at hu
  rcases hu with rfl | rfl | rfl | rfl | rfl | rfl | rfl | rfl | rfl | rfl | rfl <;> rfl
theorem peflat_len (l : List PE) : (l.flatMap peC).length = l.length * 11 := by
  induction l with
  | nil => rfl
  | cons x l ih => rw [List.flatMap_cons, List.length_append, ih, peC_len, List.length_cons]; omega
theorem peflat_get : ∀ (l : List PE) (j i : Nat) (hj : j < l.length), i < 11 → (l.flatMap peC)[j * 11 + i]? = (peC l[j])[i]?
  | x :: l, 0, i, hj, hi => by
    rw [List.flatMap_cons, List.getElem?_append_left (by rw [peC_len]; omega)]
    simp
  | x :: l, j + 1, i, hj, hi => by
    rw [List.flatMap_cons, List.getElem?_append_right (by rw [peC_len]; omega), peC_len, show (j + 1) * 11 + i - 11 = j * 11 + i by omega]
    exact peflat_get l j i (by simpa using hj) hi
structure RefAt (base : Nat) (w : World) (b most last : Nat) (l : List PE) (A : Option Addr) (c : Nat) : Prop where
  blk : Blk w b 44 #[.int .i64 (most : Int), .int .u64 (last : Int), .slice A l.length c]
  row : w.ownsRow base 55 11 (.slice A l.length c) l.length (l.flatMap peC)
/-- which block the reference's entries stand in -/
def rowR (A : Option Addr) : Option Nat := A.map (·.block)
theorem rowR_eq (A : Option Addr) (n c : Nat) : (Value.slice A n c).ownBlock = rowR A := by cases A <;> rfl
section
variable {base b most last c : Nat} {w w' : World} {l : List PE} {A : Option Addr}
theorem RefAt.ne (h : RefAt base w b most last l A c) {g : Nat} (hg : rowR A = some g) : g ≠ b := by
  rintro rfl
  rcases h.row.2 with ⟨e, _⟩ | ⟨g', cap, cur, e, _, hb, _⟩
  · injection e with e
    subst e
    cases hg
  · injection e with e
    subst e
    simp [rowR] at hg
    subst hg
    have := h.blk
    unfold Blk at this
    rw [hb] at this
    injection this with this
    injection this with _ this
    exact absurd this (by decide)
theorem RefAt.below (h : RefAt base w b most last l A c) (hb : Below w.heap.size w w') : RefAt base w' b most last l A c :=
  ⟨h.blk.below hb h.blk.lt, h.row.kept (only_of_below hb none) (Classical.em _)⟩
theorem RefAt.out {O : Nat → Prop} (h : RefAt base w b most last l A c) (ho : Out O w w') (h1 : ¬ O b) (h2 : ∀ g, rowR A = some g → ¬ O g) : RefAt base w' b most last l A c := by
  refine ⟨(ho.block _ h.blk.lt h1).trans h.blk, h.row.1, ?_⟩
  rcases h.row.2 with q | ⟨g, cap, cur, e, q1, q2, q3⟩
  · exact .inl q
  · refine .inr ⟨g, cap, cur, e, q1, ?_, q3⟩
    have hlt : g < w.heap.size := (Array.getElem?_eq_some_iff.1 q2).1
    injection e with e
    rw [ho.block g hlt (h2 g (by rw [e]; rfl))]
    exact q2
/-- an entry's cells -/
theorem RefAt.cells (h : RefAt base w b most last l A c) {j : Nat} (hj : j < l.length) : ∃ g cap cur, A = some ⟨g, 0, none⟩ ∧ g < w.heap.size ∧ base ≤ g ∧ w.heap[g]? = some (.cells cur 55 (0, 0)) ∧ l.length ≤ cap ∧ cap ≤ maxLen ∧ cur.size = cap * 11 ∧ w.rangeAt g (j * 11) (peC l[j]) ∧ w.there g (j * 11) 11 := by
  rcases h.row.2 with ⟨_, e⟩ | ⟨g, cap, cur, e, q1, q2, q3, q4, q5, q6⟩
  · omega
  · injection e with e
    have hlt : g < w.heap.size := (Array.getElem?_eq_some_iff.1 q2).1
    refine ⟨g, cap, cur, e, hlt, q1, q2, q3, q4, q5, ?_, ?_⟩
    · intro i v hv
      have hi : i < 11 := by
        have := (List.getElem?_eq_some_iff.1 hv).1
        rwa [peC_len] at this
      rw [cell_of_row w g (j * 11 + i) cur _ (0, 0) q2, ← hv, ← peflat_get l j i hj hi, ← q6, List.getElem?_take_of_lt (by omega)]
      simp
    · intro i hi
      rw [cell_of_row w g (j * 11 + i) cur _ (0, 0) q2]
      have : j * 11 + i < cur.size := by rw [q5]; have := Nat.mul_le_mul_right 11 q3; omega
      refine ⟨by simp [this], ?_⟩
      simp [World.frozen?, q2]
end

set_option maxRecDepth 100000 in
set_option maxHeartbeats 1000000 in
theorem rat_any {base b most last c : Nat} {w : World} {l : List PE} {A : Option Addr} (h : RefAt base w b most last l A c) (hm : l.length ≤ 1000000) (id N : Nat) (hN : N ≤ l.length) (h1 : ∀ j (hj : j < l.length), j < N → l[j].id ≠ id) (h2 : ∀ hj : N < l.length, l[N].id = id) :
    Calls Try.prog 24 #[.pointer (some ⟨b, 0, none⟩), .int .u64 (id : Int)] w fun e w' => e = .returned (.int .i64 (if N < l.length then (N : Int) else -1)) ∧ w = w' := by
  have hc2 := h.blk.cell 2
  simp only [List.getElem?_toArray, List.getElem?_cons_zero, List.getElem?_cons_succ] at hc2
  have HX := Lib.hid (And.intro h (And.intro h1 h2))
  clear h h1 h2
  go_enter Try.func24, Try.ntmps24
  go_wp2
  go_loopw [5] (fun i wr => ∃ k : Nat, i = .int .i64 k ∧ k ≤ N ∧ wr = w) (fun i _ => l.length + 1 - (intOf i).toNat)
  case atStart => exact ⟨0, rfl, Nat.zero_le _, rfl⟩
  case round =>
    obtain ⟨k, rfl, hk, rfl⟩ := hrel
    by_cases hl : k < l.length
    · have hlz : (k : Int) < (l.length : Int) := by omega
      have hk0 : (0 : Int) ≤ k := by omega
      obtain ⟨g, cap, cur, rfl, hg, _, _, _, _, _, hr, _⟩ := HX.out.1.cells hl
      have q0 : wr.cell? ⟨g, k * 11, none⟩ = some (.int .u64 (l[k].id : Int)) := hr 0 _ rfl
      clear hr
      by_cases hkN : k < N
      · have hne := HX.out.2.1 k hl hkN
        generalize l[k].id = x at *
        have hnez : ¬ (x : Int) = (id : Int) := by omega
        have hnb : ((x : Int) == (id : Int)) = false := by simp [hnez]
        clear hne
        go_wp2
        go_roundw
        case rel => exact ⟨k + 1, by go_num, hkN, by simp⟩
        case measure => simp [intOf]; omega
      · obtain rfl : k = N := by omega
        rw [HX.out.2.2 hl] at q0
        go_wp2
        go_ret
        exact ⟨rfl, rfl⟩
    · have hlz : ¬ (k : Int) < (l.length : Int) := by omega
      go_wp2
      go_ret
      first | exact ⟨rfl, rfl⟩ | exact ⟨by rw [if_neg (by omega)], rfl⟩
/-- what Find answers: the first entry of which p is a pair (N: its place, or how many there are) -/
structure FindR (l : List PE) (p : Pr) (N id side : Nat) : Prop where
  le : N ≤ l.length
  ahead : ∀ j (hj : j < l.length), j < N → l[j].near ≠ p ∧ ¬ (l[j].bound = true ∧ l[j].far = p)
  here : ∀ hj : N < l.length, (l[N].near = p ∧ side = 1 ∨ l[N].near ≠ p ∧ l[N].bound = true ∧ l[N].far = p ∧ side = 2) ∧ id = l[N].id
  none_ : N = l.length → id = 0 ∧ side = 0
set_option maxRecDepth 100000 in
set_option maxHeartbeats 4000000 in
theorem rfind_any {base b most last c : Nat} {w : World} {l : List PE} {A : Option Addr} {p : Pr} {N id side : Nat} (h : RefAt base w b most last l A c) (hm : l.length ≤ 1000000) (hF : FindR l p N id side) :
    Calls Try.prog 20 #[.pointer (some ⟨b, 0, none⟩), .agg #[.int .u32 p.a, .int .u16 p.b, .int .u32 p.c, .int .u16 p.d]] w fun e w' => e = .returned (.tuple #[.int .u64 (id : Int), .int .u8 (side : Int)]) ∧ Below w.heap.size w w' := by
  obtain ⟨gp, egp⟩ : ∃ gp, gp = w.heap.size := ⟨_, rfl⟩
  have hrel0 : Hid (RefAt base (w.alloc (.cells #[.int .u32 p.a, .int .u16 p.b, .int .u32 p.c, .int .u16 p.d] 34)) b most last l A c ∧ Blk (w.alloc (.cells #[.int .u32 p.a, .int .u16 p.b, .int .u32 p.c, .int .u16 p.d] 34)) gp 34 #[.int .u32 p.a, .int .u16 p.b, .int .u32 p.c, .int .u16 p.d] ∧ Below w.heap.size w (w.alloc (.cells #[.int .u32 p.a, .int .u16 p.b, .int .u32 p.c, .int .u16 p.d] 34))) := by
    refine Lib.hid ⟨h.below ((Below.refl _ _).alloc (Nat.le_refl _) _), ?_, (Below.refl _ _).alloc (Nat.le_refl _) _⟩
    rw [egp]
    exact Blk.new _ _ _
  have HF := Lib.hid hF
  have hN := hF.le
  clear h hF
  go_enter Try.func20, Try.ntmps20
  go_wp2
  rw [← egp]
  clear egp
  generalize w.alloc _ = w1 at *
  go_loopw [6] (fun i wr => ∃ k : Nat, i = .int .i64 k ∧ k ≤ N ∧ Hid (RefAt base wr b most last l A c ∧ Blk wr gp 34 #[.int .u32 p.a, .int .u16 p.b, .int .u32 p.c, .int .u16 p.d] ∧ Below w.heap.size w wr)) (fun i _ => l.length + 1 - (intOf i).toNat)
  case atStart => exact ⟨0, rfl, Nat.zero_le _, hrel0⟩
  case round =>
    clear hrel0
    obtain ⟨k, rfl, hk, HI⟩ := hrel
    have hc2 := HI.out.1.blk.cell 2
    have z0 := HI.out.2.1.cell 0
    have z1 := HI.out.2.1.cell 1
    have z2 := HI.out.2.1.cell 2
    have z3 := HI.out.2.1.cell 3
    simp only [List.getElem?_toArray, List.getElem?_cons_zero, List.getElem?_cons_succ] at hc2 z0 z1 z2 z3
    by_cases hl : k < l.length
    · have hlz : (k : Int) < (l.length : Int) := by omega
      have hk0 : (0 : Int) ≤ k := by omega
      obtain ⟨g, cap, cur, rfl, hg, _, _, _, _, _, hr, _⟩ := HI.out.1.cells hl
      obtain ⟨x, hx⟩ : ∃ x, x = l[k] := ⟨_, rfl⟩
      rw [← hx] at hr
      have q0 : wr.cell? ⟨g, k * 11, none⟩ = some (.int .u64 (x.id : Int)) := hr 0 _ rfl
      have q2 : wr.cell? ⟨g, k * 11 + 2, none⟩ = some (.int .u32 x.near.a) := hr 2 _ rfl
      have q3 : wr.cell? ⟨g, k * 11 + 3, none⟩ = some (.int .u16 x.near.b) := hr 3 _ rfl
      have q4 : wr.cell? ⟨g, k * 11 + 4, none⟩ = some (.int .u32 x.near.c) := hr 4 _ rfl
      have q5 : wr.cell? ⟨g, k * 11 + 5, none⟩ = some (.int .u16 x.near.d) := hr 5 _ rfl
      have q6 : wr.cell? ⟨g, k * 11 + 6, none⟩ = some (.int .u32 x.far.a) := hr 6 _ rfl
      have q7 : wr.cell? ⟨g, k * 11 + 7, none⟩ = some (.int .u16 x.far.b) := hr 7 _ rfl
      have q8 : wr.cell? ⟨g, k * 11 + 8, none⟩ = some (.int .u32 x.far.c) := hr 8 _ rfl
      have q9 : wr.cell? ⟨g, k * 11 + 9, none⟩ = some (.int .u16 x.far.d) := hr 9 _ rfl
      have q10 : wr.cell? ⟨g, k * 11 + 10, none⟩ = some (.bool x.bound) := hr 10 _ rfl
      clear hr
      have e1 := eq_pair x.near p
      have e2 := eq_pair x.far p
      have Hx := Lib.hid hx
      clear hx
      have hstep : ∀ q : Nat, Hid (RefAt base (wr.drewN q) b most last l (some ⟨g, 0, none⟩) c ∧ Blk (wr.drewN q) gp 34 #[.int .u32 p.a, .int .u16 p.b, .int .u32 p.c, .int .u16 p.d] ∧ Below w.heap.size w (wr.drewN q)) := fun q => Lib.hid ⟨HI.out.1.below (below_drewN (Below.refl _ _) q), HI.out.2.1.drewN q, below_drewN HI.out.2.2 q⟩
      have HS := Lib.hid hstep
      clear hstep
      by_cases hkN : k < N
      · have hne := HF.out.ahead k hl hkN
        rw [← Hx.out] at hne
        simp only [hne.1, decide_false] at e1
        have HNE := Lib.hid hne
        clear hne
        cases hb : x.bound with
        | true =>
          have h4 : ¬ x.far = p := fun e => HNE.out.2 ⟨hb, e⟩
          simp only [h4, decide_false] at e2
          rw [hb] at q10
          clear h4 hb
          go_upto_region 4 with fail
          go_quiet (fail)
          go_upto_region 6 with fail
          go_quiet (fail)
          go_wp2
          go_roundw
          case rel => exact ⟨k + 1, by go_num, hkN, by first | exact HS.out _ | (rw [World.drewN_drewN]; exact HS.out _)⟩
          case measure => simp [intOf]; omega
        | false =>
          rw [hb] at q10
          clear hb e2
          go_upto_region 4 with fail
          go_quiet (fail)
          go_upto_region 6 with fail
          go_quiet (fail)
          go_wp2
          go_roundw
          case rel => exact ⟨k + 1, by go_num, hkN, by first | exact HS.out _ | (rw [World.drewN_drewN]; exact HS.out _)⟩
          case measure => simp [intOf]; omega
      · obtain rfl : k = N := by omega
        obtain ⟨hh, hid⟩ := HF.out.here hl
        rw [← Hx.out] at hh hid
        subst hid
        rcases hh with ⟨h4, rfl⟩ | ⟨h4, h5, h6, rfl⟩
        · simp only [show decide (x.near = p) = true from decide_eq_true h4] at e1
          clear h4 e2
          go_upto_region 4 with fail
          go_quiet (fail)
          go_wp2
          go_ret2
          exact ⟨rfl, (HS.out _).out.2.2⟩
        · simp only [h4, decide_false] at e1
          simp only [show decide (x.far = p) = true from decide_eq_true h6] at e2
          rw [h5] at q10
          clear h4 h5 h6
          go_upto_region 4 with fail
          go_quiet (fail)
          go_upto_region 6 with fail
          go_quiet (fail)
          go_wp2
          go_ret2
          exact ⟨rfl, by first | exact (HS.out _).out.2.2 | (rw [World.drewN_drewN]; exact (HS.out _).out.2.2)⟩
    · have hlz : ¬ (k : Int) < (l.length : Int) := by omega
      obtain ⟨rfl, rfl⟩ := HF.out.none_ (by omega)
      go_wp2
      go_ret2
      exact ⟨rfl, HI.out.2.2⟩
end Go.Proofs.Ytlikngepcbmhdaa
