/- The statement DrawsPlays: which numbers are told, call by call, is as the document says; for any list, any calls. -/
import Derived.Test.YthoodcpigmmehaaDrawsBoth
import Derived.Deep.RegionHeld3
set_option linter.unusedVariables false
set_option linter.unusedSimpArgs false
namespace Go.Proofs.Ythoodcpigmmehaa.drawsPlays
open Go.ChangeShapes Go.WideShapes Go.ChangeAt Go.RowKit
open Go.ChangeMaps (open_string shut_string)

theorem row_nats {xs : List Int} (h : ∀ x ∈ xs, (Lit.int .u32 x).wf = true) : xs.map (Value.int .u32) = (xs.map Int.toNat).map u32v ∧ ∀ x ∈ xs.map Int.toNat, x < 4294967296 := by
  constructor
  · rw [List.map_map]
    refine List.map_congr_left fun x hx => ?_
    obtain ⟨l, g⟩ := bounds_u32 (h x hx)
    show Value.int .u32 x = Value.int .u32 ((x.toNat : Nat) : Int)
    rw [Int.toNat_of_nonneg (by omega)]
  · intro x hx
    obtain ⟨y, hy, rfl⟩ := List.mem_map.1 hx
    obtain ⟨l, g⟩ := bounds_u32 (h y hy)
    omega
/-- a row that came in, as numbers -/
theorem row_of {w : World} {A : Option Addr} {n c : Nat} {zs : List Int} (h : IsRow .u32 w A n c zs) : ∃ l : List Nat, n = l.length ∧ Reads w w.heap.size 1 A l.length (l.map u32v) ∧ (∀ x ∈ l, x < 4294967296) ∧ l.length ≤ c ∧ c ≤ 9223372036854775807 ∧ (A = none → c = 0) := by
  have hcap : n ≤ c ∧ c ≤ 9223372036854775807 ∧ (A = none → c = 0) := by
    rcases h with ⟨rfl, rfl, rfl, _⟩ | ⟨x, rfl, h1, h2, _⟩
    · exact ⟨Nat.le_refl _, by omega, fun _ => rfl⟩
    · unfold maxLen at h2; exact ⟨h1, h2, fun h => by cases h⟩
  obtain ⟨x0, hx0, _, hr0, hw0⟩ := h.reads_
  rw [(row_nats hw0).1] at hr0
  have hl : (x0.map Int.toNat).length = n := by rw [List.length_map, hx0]
  refine ⟨x0.map Int.toNat, hl.symm, ?_, (row_nats hw0).2, ?_⟩
  · rw [hl]; exact hr0
  · rw [hl]; exact hcap
/-- the loop's relation -/
def Rel (w : World) (b1 b2 k : Nat) (W : World) : Prop := ∃ (l : List Nat) (last used : Nat), Both w b1 b2 l last used W ∧ last < 4294967296 ∧ used ≤ k ∧ l.length ≤ 4096 ∧ ∀ x ∈ l, x < 4294967296
def BothS (w : World) (b1 b2 : Nat) (A1 A2 : Option Addr) (c1 c2 : Nat) (l : List Nat) (last used : Nat) (W : World) : Prop := DrAt W b1 A1 c1 l last used ∧ RfAt W b2 A2 c2 l last used ∧ Below w.heap.size w W
theorem both_drew {w W : World} {b1 b2 : Nat} {l : List Nat} {last used : Nat} (h : Both w b1 b2 l last used W) : Both w b1 b2 l last used W.drew := ⟨h.1, h.2.1, h.2.2.1, h.2.2.2.1, Below.drew h.2.2.2.2⟩
theorem BothS.below {w : World} {b1 b2 : Nat} {A1 A2 : Option Addr} {c1 c2 : Nat} {l : List Nat} {last used : Nat} (W W' : World) (h : BothS w b1 b2 A1 A2 c1 c2 l last used W) (hb : Below W.heap.size W W') : BothS w b1 b2 A1 A2 c1 c2 l last used W' :=
  ⟨h.1.below hb, h.2.1.below hb, h.2.2.trans (hb.mono h.2.2.size)⟩
theorem head_lt {l : List Nat} {last : Nat} (hl : ∀ x ∈ l, x < 4294967296) : headN l last < 4294967296 := by
  cases l with
  | nil => exact Nat.mod_lt _ (by decide)
  | cons a t => exact hl a (by simp)
set_option maxRecDepth 100000 in
set_option maxHeartbeats 4000000 in
theorem walk (a0 : Option Addr) (len0 cap0 : Nat) (z0 : List Int) (a1 : Option Addr) (len1 cap1 : Nat) (w : World) (w0 : IsRow .u32 w a0 len0 cap0 z0) (w1 : StrRows2 w [(.inl (.inl .u8)), (.inr .u32)] a1 len1) :
    Calls Try.prog 3 #[.slice a0 len0 cap0, .slice a1 len1 cap1] w fun e w' => e = .returned (.bool true) ∧ Below w.heap.size w w' := by
  obtain ⟨l0, rfl, hr0, hlb, hc1, hc2, hc3⟩ := row_of w0
  clear w0
  have hhv := heavy_dr w a1 len1 cap1 w1
  obtain ⟨n, hn⟩ : ∃ n, n = l0.length := ⟨_, rfl⟩
  by_cases h1 : 9000 < n
  · have i1 : (9000 : Int) < (n : Int) := by omega
    rw [← hn]
    clear hr0 hlb hc1 hc2 hc3 hn w1 hhv
    go_enter Try.func3, Try.ntmps3
    go_wp2_with fail
    (with_reducible refine (alive_dr _).mono ?_)
    rintro e w2 ⟨rfl, hb⟩
    go_wp2
    go_ret
    exact ⟨rfl, hb⟩
  have i1 : (n : Int) ≤ 9000 := by omega
  have hnew := fun w' (h : Below w.heap.size w w') => new_at w' a0 cap0 l0 ((hr0.below h).more h.size) hc3 hc1 (by omega) hc2
  have hnew2 := fun w' (h : Below w.heap.size w w') => ref_new w' a0 cap0 l0 ((hr0.below h).more h.size) hc3 hc1 (by omega) hc2
  rw [← hn] at hnew hnew2 ⊢
  have hlb2 : ∀ x ∈ l0.take 4096, x < 4294967296 := fun x hx => hlb x (List.mem_of_mem_take hx)
  have hlz : (l0.take 4096).length ≤ 4096 := by rw [List.length_take]; omega
  generalize l0.take 4096 = L0 at *
  have Hnew := Lib.hid hnew
  clear hnew
  have Hnew2 := Lib.hid hnew2
  clear hnew2
  have Hn := Lib.hid hn
  clear hn
  have Hhv := Lib.hid hhv
  clear hhv
  have W1 := Lib.hid w1
  clear w1
  have Hlb2 := Lib.hid hlb2
  clear hlb2
  have Hlz := Lib.hid hlz
  clear hlz
  clear hr0 hlb hc1 hc2 hc3 h1
  go_enter Try.func3, Try.ntmps3
  go_wp2_with fail
  with_reducible refine Hhv.out.mono ?_
  rintro e w2 ⟨hv, rfl, rfl, hsz⟩
  cases hv with
  | true =>
    go_wp2_with fail
    (with_reducible refine (alive_dr _).mono ?_)
    rintro e w2 ⟨rfl, hb⟩
    go_wp2
    go_ret
    exact ⟨rfl, hb⟩
  | false =>
    obtain ⟨hz1, hz2⟩ := hsz rfl
    have i2 : (len1 : Int) ≤ 20000 := by omega
    have Hz2 := Lib.hid hz2
    clear hz2
    clear hsz
    go_wp2_with fail
    with_reducible refine (Hnew.out _ (Below.refl _ _)).mono ?_
    rintro e w3 ⟨b1, rfl, hd, hB1, hb1⟩
    go_wp2_with fail
    with_reducible refine (Hnew2.out _ hB1).mono ?_
    rintro e w4 ⟨b2, rfl, hr, hB2, hb2⟩
    have hboth : Both w b1 b2 L0 0 0 w4 := by
      obtain ⟨A, c, hd⟩ := hd
      exact ⟨⟨A, c, hd.below hB2⟩, hr, hb1, Nat.le_trans hB1.size hb2, hB1.trans (hB2.mono hB1.size)⟩
    have hrel0 : Rel w b1 b2 0 w4 := ⟨L0, 0, 0, hboth, by decide, Nat.le_refl _, Hlz.out, Hlb2.out⟩
    have Hrel0 := Lib.hid hrel0
    clear hrel0
    clear hd hr hB1 hB2 hb1 hb2 hboth Hnew Hnew2
    go_wp2_with fail
    go_loopw [7] (fun i wr => ∃ k : Nat, i = .int .i64 (k : Int) ∧ k ≤ len1 ∧ Rel w b1 b2 k wr) (fun i _ => len1 - (intOf i).toNat)
    case atStart => exact ⟨0, rfl, Nat.zero_le _, Hrel0.out⟩
    case round =>
      clear Hrel0
      obtain ⟨k, rfl, hkl, l, last, used, hb, hlast, hused, hll, hlx⟩ := hrel
      by_cases hk : k < len1
      · have j1 : (k : Int) < (len1 : Int) := by omega
        obtain ⟨bs, off, hx, hlt, hc⟩ := W1.out.2 k hk
        obtain ⟨v0, hv0, d, hd0, hwd⟩ := hc 0 (.inl (.inl .u8)) rfl
        obtain ⟨v1, hv1, A2, n2, c2, zs2, hvs, hrow, _⟩ := hc 1 (.inr .u32) rfl
        subst hd0 hvs
        have hn2 := Hz2.out k bs off A2 n2 c2 hk hx hv1
        obtain ⟨more, rfl, hmr, hmb, hm1, hm2, hm3⟩ := row_of hrow
        subst hx
        obtain ⟨d0, d1⟩ := bounds_u8 hwd
        have hB := hb.2.2.2.2
        have e0 : wr.cell? ⟨bs, off + k * 2, none⟩ = some (.int .u8 d) := (hB.cell (p := ⟨bs, off + k * 2, none⟩) hlt).trans hv0
        have e1 : wr.cell? ⟨bs, off + k * 2 + 1, none⟩ = some (.slice A2 more.length c2) := (hB.cell (p := ⟨bs, off + k * 2 + 1, none⟩) hlt).trans hv1
        clear hv0 hv1 hc hwd hrow
        by_cases h3 : d % 5 = 3
        · have t3 : (d % 5 == 3) = true := by rw [beq_iff_eq]; exact h3
          obtain ⟨⟨A5, c5, hd5⟩, ⟨A6, c6, hr6⟩, hx1, hx2, hx3⟩ := hb
          have p1 := peek_at wr b1 A5 c5 l last used hd5 hlast
          have p2 := ref_peek wr b2 A6 c6 l last used hr6 hlast
          have hb9 : Both w b1 b2 l last used wr := ⟨⟨A5, c5, hd5⟩, ⟨A6, c6, hr6⟩, hx1, hx2, hx3⟩
          have h9 : last < 4294967296 ∧ used ≤ k + 1 ∧ l.length ≤ 4096 ∧ ∀ x ∈ l, x < 4294967296 := ⟨hlast, by omega, hll, hlx⟩
          obtain ⟨q, hq⟩ : ∃ q, q = headN l last := ⟨_, rfl⟩
          rw [← hq] at p1 p2
          have P1 := Lib.hid p1
          clear p1
          have P2 := Lib.hid p2
          clear p2
          have Hb9 := Lib.hid hb9
          clear hb9
          have H9 := Lib.hid h9
          clear h9
          have Hq := Lib.hid hq
          clear hq
          clear hd5 hr6 hx1 hx2 hx3 hlx h3 hB hmr hmb
          go_wp2_with fail
          (with_reducible refine (P1.out).mono ?_)
          rintro e w' ⟨rfl, rfl⟩
          go_wp2_with fail
          (with_reducible refine (P2.out).mono ?_)
          rintro e w' ⟨rfl, rfl⟩
          have hb9 := Hb9.out
          have h9 := H9.out
          clear Hb9 H9 Hq P1 P2 e0 e1 hlast
          generalize l = l9 at *
          generalize last = last9 at *
          generalize used = used9 at *
          generalize wr = W9 at *
          obtain ⟨⟨A3, c3, hd3⟩, ⟨A4, c4, hr4⟩, hx1, hx2, hx3⟩ := hb9
          have hrel9 : ∀ W, BothS w b1 b2 A3 A4 c3 c4 l9 last9 used9 W → Rel w b1 b2 (k + 1) W := fun W h => ⟨l9, last9, used9, ⟨⟨A3, c3, h.1⟩, ⟨A4, c4, h.2.1⟩, hx1, hx2, h.2.2⟩, h9.1, h9.2.1, h9.2.2.1, h9.2.2.2⟩
          have hS0 : BothS w b1 b2 A3 A4 c3 c4 l9 last9 used9 W9 := ⟨hd3, hr4, hx3⟩
          have ne : Nonempty (Cls (BothS w b1 b2 A3 A4 c3 c4 l9 last9 used9)) := ⟨⟨W9, hS0⟩⟩
          have k2 : ∀ y : Cls (BothS w b1 b2 A3 A4 c3 c4 l9 last9 used9), y.w.cell? ⟨b2, 2, none⟩ = some (.int .u64 (used9 : Int)) := fun y => y.h.2.1.c2
          have m1 := fun (y : Cls (BothS w b1 b2 A3 A4 c3 c4 l9 last9 used9)) => used_at y.w b1 A3 c3 l9 last9 used9 y.h.1
          have m2 := fun (y : Cls (BothS w b1 b2 A3 A4 c3 c4 l9 last9 used9)) => peek_at y.w b1 A3 c3 l9 last9 used9 y.h.1 h9.1
          have m3 := fun (y : Cls (BothS w b1 b2 A3 A4 c3 c4 l9 last9 used9)) => ref_peek y.w b2 A4 c4 l9 last9 used9 y.h.2.1 h9.1
          have cf1 : ∀ (vals : Array Value) (w : World), (callFunc 22 vals).run Try.prog w = .ok (.enter 22 vals) w := fun _ _ => by kernel_rfl
          have cf2 : ∀ (vals : Array Value) (w : World), (callFunc 16 vals).run Try.prog w = .ok (.enter 16 vals) w := fun _ _ => by kernel_rfl
          have cf3 : ∀ (vals : Array Value) (w : World), (callFunc 17 vals).run Try.prog w = .ok (.enter 17 vals) w := fun _ _ => by kernel_rfl
          generalize headN l9 last9 = q9 at *
          have M1 := Lib.hid m1
          clear m1
          have M2 := Lib.hid m2
          clear m2
          have M3 := Lib.hid m3
          clear m3
          have Cf1 := Lib.hid cf1
          clear cf1
          have Cf2 := Lib.hid cf2
          clear cf2
          have Cf3 := Lib.hid cf3
          clear cf3
          have Hrel9 := Lib.hid hrel9
          clear hrel9
          clear hd3 hr4 hx1 hx2 hx3 h9
          go_upto_region 15 with fail
          refine wp_region_flat (BothS w b1 b2 A3 A4 c3 c4 l9 last9 used9) (fun w w' => Below w.heap.size w w') (by kernel_rfl) (by kernel_rfl) (fun w => Below.refl _ _) (BothS.below _ _ hS0 (Below.drew (Below.refl _ _))) ?_
          repeat (first
            | (refine nilCheck_quiet ⟨b2, 0, none⟩ rfl (fun w => Below.refl _ _) rfl rfl rfl W9 ?_; intro K hK; go_big_quiet_op; go_big_quiet_on)
            | (refine flat_quiet (fun w => Below.refl _ _) rfl rfl rfl rfl ?_; intro K hK; go_big_quiet_op; go_big_quiet_on)
            | (refine flat_call Cf1.out _ ?_ rfl rfl rfl _ (fun y => (M1.out y).mono fun e w' ⟨a, b⟩ => ⟨a, b ▸ y.h, b ▸ Below.refl _ _⟩) W9 ?_; (focus (simp only [List.map_toArray, List.map_cons, List.map_nil]; rfl)); intro K hK; go_big_quiet_op; go_big_quiet_on)
            | (refine flat_call Cf2.out _ ?_ rfl rfl rfl _ (fun y => (M2.out y).mono fun e w' ⟨a, b⟩ => ⟨a, b ▸ y.h, b ▸ Below.refl _ _⟩) W9 ?_; (focus (simp only [List.map_toArray, List.map_cons, List.map_nil]; rfl)); intro K hK; go_big_quiet_op; go_big_quiet_on)
            | (refine flat_call Cf3.out _ ?_ rfl rfl rfl _ (fun y => (M3.out y).mono fun e w' ⟨a, b⟩ => ⟨a, b ▸ y.h, b ▸ Below.refl _ _⟩) W9 ?_; (focus (simp only [List.map_toArray, List.map_cons, List.map_nil]; rfl)); intro K hK; go_big_quiet_op; go_big_quiet_on))
          refine flat_nil ?_
          intro W8 hW8
          simp only [endF]
          have hr8 := Hrel9.out W8 hW8
          have Hr8 := Lib.hid hr8
          clear hr8
          clear hW8 ne hS0 k2
          go_wp2
          go_roundw
          case rel => exact ⟨k + 1, by go_num, by omega, Hr8.out⟩
          case measure => simp [intOf]; omega
        · have t3 : (d % 5 == 3) = false := by rw [beq_eq_false_iff_ne]; exact h3
          by_cases h4 : d % 5 = 4
          · have t4 : (d % 5 == 4) = true := by rw [beq_iff_eq]; exact h4
            obtain ⟨⟨A5, c5, hd5⟩, ⟨A6, c6, hr6⟩, hx1, hx2, hx3⟩ := hb
            by_cases hf : 4096 < l.length + more.length
            · have hb9 : Both w b1 b2 l last used wr := ⟨⟨A5, c5, hd5⟩, ⟨A6, c6, hr6⟩, hx1, hx2, hx3⟩
              have h9 : last < 4294967296 ∧ used ≤ k + 1 ∧ l.length ≤ 4096 ∧ ∀ x ∈ l, x < 4294967296 := ⟨hlast, by omega, hll, hlx⟩
              have hS0 : BothS w b1 b2 A5 A6 c5 c6 l last used wr := ⟨hd5, hr6, hx3⟩
              have ne : Nonempty (Cls (BothS w b1 b2 A5 A6 c5 c6 l last used)) := ⟨⟨wr, hS0⟩⟩
              have q1 := fun (y : Cls (BothS w b1 b2 A5 A6 c5 c6 l last used)) => add_full y.w b1 A5 c5 l last used y.h.1 A2 more.length c2 hf hll (by omega)
              have q2 := fun (y : Cls (BothS w b1 b2 A5 A6 c5 c6 l last used)) => ref_add_full y.w b2 A6 c6 l last used y.h.2.1 A2 more.length c2 hf hll (by omega)
              have e5 : ∀ y : Cls (BothS w b1 b2 A5 A6 c5 c6 l last used), y.w.cell? ⟨bs, off + k * 2 + 1, none⟩ = some (.slice A2 more.length c2) := fun y => (y.h.2.2.cell (p := ⟨bs, off + k * 2 + 1, none⟩) hlt).trans ((hx3.cell (p := ⟨bs, off + k * 2 + 1, none⟩) hlt).symm.trans e1)
              obtain ⟨n2, hn2e⟩ : ∃ n, n = more.length := ⟨_, rfl⟩
              rw [← hn2e] at q1 q2 e5 e1
              have cg1 : ∀ (vals : Array Value) (w : World), (callFunc 18 vals).run Try.prog w = .ok (.enter 18 vals) w := fun _ _ => by kernel_rfl
              have cg2 : ∀ (vals : Array Value) (w : World), (callFunc 19 vals).run Try.prog w = .ok (.enter 19 vals) w := fun _ _ => by kernel_rfl
              have j2 : (0 : Int) ≤ (k : Int) := by omega
              have Q1 := Lib.hid q1
              clear q1
              have Q2 := Lib.hid q2
              clear q2
              have Hb9 := Lib.hid hb9
              clear hb9
              have H9 := Lib.hid h9
              clear h9
              have Hn2e := Lib.hid hn2e
              clear hn2e
              have Cg1 := Lib.hid cg1
              clear cg1
              have Cg2 := Lib.hid cg2
              clear cg2
              clear hd5 hr6 hx1 hx2 hx3 hlx h3 h4 hB hmr hmb hf hm1 hm2 hm3 hn2 hll hlast
              go_upto_region 14 with fail
              clear e0 e1
              refine wp_region_flat (BothS w b1 b2 A5 A6 c5 c6 l last used) (fun w w' => Below w.heap.size w w') (by kernel_rfl) (by kernel_rfl) (fun w => Below.refl _ _) (BothS.below _ _ hS0 (Below.drew (Below.refl _ _))) ?_
              repeat (first
                | (refine flat_quiet (fun w => Below.refl _ _) rfl rfl rfl rfl ?_; intro K hK; go_big_quiet_op; go_big_quiet_on)
                | (refine flat_call Cg1.out _ ?_ rfl rfl rfl _ (fun y => (Q1.out y).mono fun e w' ⟨a, b⟩ => ⟨a, b ▸ y.h, b ▸ Below.refl _ _⟩) wr ?_; (focus (simp only [List.map_toArray, List.map_cons, List.map_nil]; rfl)); intro K hK; go_big_quiet_op; go_big_quiet_on)
                | (refine flat_call Cg2.out _ ?_ rfl rfl rfl _ (fun y => (Q2.out y).mono fun e w' ⟨a, b⟩ => ⟨a, b ▸ y.h, b ▸ Below.refl _ _⟩) wr ?_; (focus (simp only [List.map_toArray, List.map_cons, List.map_nil]; rfl)); intro K hK; go_big_quiet_op; go_big_quiet_on))
              refine flat_nil ?_
              intro W9 hW9
              simp only [endF]
              have hb9 : Both w b1 b2 l last used W9 := ⟨⟨A5, c5, hW9.1⟩, ⟨A6, c6, hW9.2.1⟩, Hb9.out.2.2.1, Hb9.out.2.2.2.1, hW9.2.2⟩
              have h9 := H9.out
              clear hW9 ne hS0 e5 Q1 Q2 Cg1 Cg2 Hb9 H9
              generalize l = l9 at *
              generalize last = last9 at *
              generalize used = used9 at *
              obtain ⟨⟨A3, c3, hd3⟩, ⟨A4, c4, hr4⟩, hx1, hx2, hx3⟩ := hb9
              have hrel9 : ∀ W, BothS w b1 b2 A3 A4 c3 c4 l9 last9 used9 W → Rel w b1 b2 (k + 1) W := fun W h => ⟨l9, last9, used9, ⟨⟨A3, c3, h.1⟩, ⟨A4, c4, h.2.1⟩, hx1, hx2, h.2.2⟩, h9.1, h9.2.1, h9.2.2.1, h9.2.2.2⟩
              have hS0 : BothS w b1 b2 A3 A4 c3 c4 l9 last9 used9 W9 := ⟨hd3, hr4, hx3⟩
              have ne : Nonempty (Cls (BothS w b1 b2 A3 A4 c3 c4 l9 last9 used9)) := ⟨⟨W9, hS0⟩⟩
              have k2 : ∀ y : Cls (BothS w b1 b2 A3 A4 c3 c4 l9 last9 used9), y.w.cell? ⟨b2, 2, none⟩ = some (.int .u64 (used9 : Int)) := fun y => y.h.2.1.c2
              have m1 := fun (y : Cls (BothS w b1 b2 A3 A4 c3 c4 l9 last9 used9)) => used_at y.w b1 A3 c3 l9 last9 used9 y.h.1
              have m2 := fun (y : Cls (BothS w b1 b2 A3 A4 c3 c4 l9 last9 used9)) => peek_at y.w b1 A3 c3 l9 last9 used9 y.h.1 h9.1
              have m3 := fun (y : Cls (BothS w b1 b2 A3 A4 c3 c4 l9 last9 used9)) => ref_peek y.w b2 A4 c4 l9 last9 used9 y.h.2.1 h9.1
              have cf1 : ∀ (vals : Array Value) (w : World), (callFunc 22 vals).run Try.prog w = .ok (.enter 22 vals) w := fun _ _ => by kernel_rfl
              have cf2 : ∀ (vals : Array Value) (w : World), (callFunc 16 vals).run Try.prog w = .ok (.enter 16 vals) w := fun _ _ => by kernel_rfl
              have cf3 : ∀ (vals : Array Value) (w : World), (callFunc 17 vals).run Try.prog w = .ok (.enter 17 vals) w := fun _ _ => by kernel_rfl
              generalize headN l9 last9 = q9 at *
              have M1 := Lib.hid m1
              clear m1
              have M2 := Lib.hid m2
              clear m2
              have M3 := Lib.hid m3
              clear m3
              have Cf1 := Lib.hid cf1
              clear cf1
              have Cf2 := Lib.hid cf2
              clear cf2
              have Cf3 := Lib.hid cf3
              clear cf3
              have Hrel9 := Lib.hid hrel9
              clear hrel9
              clear hd3 hr4 hx1 hx2 hx3 h9
              go_upto_region 15 with fail
              refine wp_region_flat (BothS w b1 b2 A3 A4 c3 c4 l9 last9 used9) (fun w w' => Below w.heap.size w w') (by kernel_rfl) (by kernel_rfl) (fun w => Below.refl _ _) (BothS.below _ _ hS0 (Below.drew (Below.refl _ _))) ?_
              repeat (first
                | (refine nilCheck_quiet ⟨b2, 0, none⟩ rfl (fun w => Below.refl _ _) rfl rfl rfl W9 ?_; intro K hK; go_big_quiet_op; go_big_quiet_on)
                | (refine flat_quiet (fun w => Below.refl _ _) rfl rfl rfl rfl ?_; intro K hK; go_big_quiet_op; go_big_quiet_on)
                | (refine flat_call Cf1.out _ ?_ rfl rfl rfl _ (fun y => (M1.out y).mono fun e w' ⟨a, b⟩ => ⟨a, b ▸ y.h, b ▸ Below.refl _ _⟩) W9 ?_; (focus (simp only [List.map_toArray, List.map_cons, List.map_nil]; rfl)); intro K hK; go_big_quiet_op; go_big_quiet_on)
                | (refine flat_call Cf2.out _ ?_ rfl rfl rfl _ (fun y => (M2.out y).mono fun e w' ⟨a, b⟩ => ⟨a, b ▸ y.h, b ▸ Below.refl _ _⟩) W9 ?_; (focus (simp only [List.map_toArray, List.map_cons, List.map_nil]; rfl)); intro K hK; go_big_quiet_op; go_big_quiet_on)
                | (refine flat_call Cf3.out _ ?_ rfl rfl rfl _ (fun y => (M3.out y).mono fun e w' ⟨a, b⟩ => ⟨a, b ▸ y.h, b ▸ Below.refl _ _⟩) W9 ?_; (focus (simp only [List.map_toArray, List.map_cons, List.map_nil]; rfl)); intro K hK; go_big_quiet_op; go_big_quiet_on))
              refine flat_nil ?_
              intro W8 hW8
              simp only [endF]
              have hr8 := Hrel9.out W8 hW8
              have Hr8 := Lib.hid hr8
              clear hr8
              clear hW8 ne hS0 k2
              go_wp2
              go_roundw
              case rel => exact ⟨k + 1, by go_num, by omega, Hr8.out⟩
              case measure => simp [intOf]; omega
            · have hlb3 : ∀ x ∈ l ++ more, x < 4294967296 := fun x hx => by
                rcases List.mem_append.1 hx with h | h
                · exact hlx x h
                · exact hmb x h
              have h9 : last < 4294967296 ∧ used ≤ k + 1 ∧ (l ++ more).length ≤ 4096 ∧ ∀ x ∈ l ++ more, x < 4294967296 := ⟨hlast, by omega, by rw [List.length_append]; omega, hlb3⟩
              have hb5 : Both w b1 b2 l last used wr := ⟨⟨A5, c5, hd5⟩, ⟨A6, c6, hr6⟩, hx1, hx2, hx3⟩
              have q1 := fun (W : World) (hd : DrAt W b1 A5 c5 l last used) (hB : Below w.heap.size w W) => add_ok W b1 A5 c5 l last used hd A2 c2 more ((hmr.below hB).more hB.size) (by omega)
              have q2 := fun (W : World) A c (hd : RfAt W b2 A c l last used) (hB : Below w.heap.size w W) => ref_add_ok W b2 A c l last used hd A2 c2 more ((hmr.below hB).more hB.size) (by omega)
              obtain ⟨n2, hn2e⟩ : ∃ n, n = more.length := ⟨_, rfl⟩
              rw [← hn2e] at q1 q2 e1
              have hkeep : ∀ (W' : World), Half w b1 b2 (l ++ more) last used l last used W' → W'.cell? ⟨bs, off + k * 2 + 1, none⟩ = some (.slice A2 n2 c2) := fun W' hh => (hh.2.2.2.2.cell (p := ⟨bs, off + k * 2 + 1, none⟩) hlt).trans ((hx3.cell (p := ⟨bs, off + k * 2 + 1, none⟩) hlt).symm.trans e1)
              have hkeep9 : ∀ (W' : World), Both w b1 b2 (l ++ more) last used W' → W'.cell? ⟨bs, off + k * 2 + 1, none⟩ = some (.slice A2 n2 c2) := fun W' hh => (hh.2.2.2.2.cell (p := ⟨bs, off + k * 2 + 1, none⟩) hlt).trans ((hx3.cell (p := ⟨bs, off + k * 2 + 1, none⟩) hlt).symm.trans e1)
              have q1d := q1 wr.drew hd5 (Below.drew hx3)
              have j2 : (0 : Int) ≤ (k : Int) := by omega
              have Q1d := Lib.hid q1d
              clear q1d
              have Q2 := Lib.hid q2
              clear q2
              have Hb5 := Lib.hid hb5
              clear hb5
              have H9 := Lib.hid h9
              clear h9
              have Hn2e := Lib.hid hn2e
              clear hn2e
              have Hkeep := Lib.hid hkeep
              clear hkeep
              have Hkeep9 := Lib.hid hkeep9
              clear hkeep9
              clear q1 hd5 hx3
              clear hr6 hx1 hx2 hlx h3 h4 hB hmr hmb hf hm1 hm2 hm3 hn2 hll hlast hlb3
              go_upto_region 14 with fail
              clear e0
              go_region_held3 (fun w' => w'.cell? ⟨bs, off + k * 2 + 1, none⟩ = some (.slice A2 n2 c2)) (first | assumption | go_keep) (first
                | (go_at_call 18; refine Q1d.out.mono ?_; rintro e w6 ⟨rfl, hp6⟩; have hh6 := half_of (W := wr.drew) (both_drew Hb5.out) hp6; have k6 := Hkeep.out w6 hh6; obtain ⟨A8, c8, hr8⟩ := hh6.2.1; have q7 := Q2.out w6 A8 c8 hr8 hh6.2.2.2.2; have Q7 := Lib.hid q7; have Hh6 := Lib.hid hh6; clear hp6 hh6 q7 hr8)
                | (go_at_call 19; refine Q7.out.mono ?_; rintro e W9 ⟨rfl, hp7⟩; have hb8 := both_of Hh6.out hp7; have k9 := Hkeep9.out W9 hb8; have Hb8 := Lib.hid hb8; clear hp7 hb8))
              have hb9 := Hb8.out
              have h9 := H9.out
              clear Hb8 H9 Hh6 Q7 Q2 Q1d Hkeep Hkeep9 k6 k9 e1
              generalize l ++ more = l9 at *
              generalize last = last9 at *
              generalize used = used9 at *
              obtain ⟨⟨A3, c3, hd3⟩, ⟨A4, c4, hr4⟩, hx1, hx2, hx3⟩ := hb9
              have hrel9 : ∀ W, BothS w b1 b2 A3 A4 c3 c4 l9 last9 used9 W → Rel w b1 b2 (k + 1) W := fun W h => ⟨l9, last9, used9, ⟨⟨A3, c3, h.1⟩, ⟨A4, c4, h.2.1⟩, hx1, hx2, h.2.2⟩, h9.1, h9.2.1, h9.2.2.1, h9.2.2.2⟩
              have hS0 : BothS w b1 b2 A3 A4 c3 c4 l9 last9 used9 W9 := ⟨hd3, hr4, hx3⟩
              have ne : Nonempty (Cls (BothS w b1 b2 A3 A4 c3 c4 l9 last9 used9)) := ⟨⟨W9, hS0⟩⟩
              have k2 : ∀ y : Cls (BothS w b1 b2 A3 A4 c3 c4 l9 last9 used9), y.w.cell? ⟨b2, 2, none⟩ = some (.int .u64 (used9 : Int)) := fun y => y.h.2.1.c2
              have m1 := fun (y : Cls (BothS w b1 b2 A3 A4 c3 c4 l9 last9 used9)) => used_at y.w b1 A3 c3 l9 last9 used9 y.h.1
              have m2 := fun (y : Cls (BothS w b1 b2 A3 A4 c3 c4 l9 last9 used9)) => peek_at y.w b1 A3 c3 l9 last9 used9 y.h.1 h9.1
              have m3 := fun (y : Cls (BothS w b1 b2 A3 A4 c3 c4 l9 last9 used9)) => ref_peek y.w b2 A4 c4 l9 last9 used9 y.h.2.1 h9.1
              have cf1 : ∀ (vals : Array Value) (w : World), (callFunc 22 vals).run Try.prog w = .ok (.enter 22 vals) w := fun _ _ => by kernel_rfl
              have cf2 : ∀ (vals : Array Value) (w : World), (callFunc 16 vals).run Try.prog w = .ok (.enter 16 vals) w := fun _ _ => by kernel_rfl
              have cf3 : ∀ (vals : Array Value) (w : World), (callFunc 17 vals).run Try.prog w = .ok (.enter 17 vals) w := fun _ _ => by kernel_rfl
              generalize headN l9 last9 = q9 at *
              have M1 := Lib.hid m1
              clear m1
              have M2 := Lib.hid m2
              clear m2
              have M3 := Lib.hid m3
              clear m3
              have Cf1 := Lib.hid cf1
              clear cf1
              have Cf2 := Lib.hid cf2
              clear cf2
              have Cf3 := Lib.hid cf3
              clear cf3
              have Hrel9 := Lib.hid hrel9
              clear hrel9
              clear hd3 hr4 hx1 hx2 hx3 h9
              go_upto_region 15 with fail
              refine wp_region_flat (BothS w b1 b2 A3 A4 c3 c4 l9 last9 used9) (fun w w' => Below w.heap.size w w') (by kernel_rfl) (by kernel_rfl) (fun w => Below.refl _ _) (BothS.below _ _ hS0 (Below.drew (Below.refl _ _))) ?_
              repeat (first
                | (refine nilCheck_quiet ⟨b2, 0, none⟩ rfl (fun w => Below.refl _ _) rfl rfl rfl W9 ?_; intro K hK; go_big_quiet_op; go_big_quiet_on)
                | (refine flat_quiet (fun w => Below.refl _ _) rfl rfl rfl rfl ?_; intro K hK; go_big_quiet_op; go_big_quiet_on)
                | (refine flat_call Cf1.out _ ?_ rfl rfl rfl _ (fun y => (M1.out y).mono fun e w' ⟨a, b⟩ => ⟨a, b ▸ y.h, b ▸ Below.refl _ _⟩) W9 ?_; (focus (simp only [List.map_toArray, List.map_cons, List.map_nil]; rfl)); intro K hK; go_big_quiet_op; go_big_quiet_on)
                | (refine flat_call Cf2.out _ ?_ rfl rfl rfl _ (fun y => (M2.out y).mono fun e w' ⟨a, b⟩ => ⟨a, b ▸ y.h, b ▸ Below.refl _ _⟩) W9 ?_; (focus (simp only [List.map_toArray, List.map_cons, List.map_nil]; rfl)); intro K hK; go_big_quiet_op; go_big_quiet_on)
                | (refine flat_call Cf3.out _ ?_ rfl rfl rfl _ (fun y => (M3.out y).mono fun e w' ⟨a, b⟩ => ⟨a, b ▸ y.h, b ▸ Below.refl _ _⟩) W9 ?_; (focus (simp only [List.map_toArray, List.map_cons, List.map_nil]; rfl)); intro K hK; go_big_quiet_op; go_big_quiet_on))
              refine flat_nil ?_
              intro W8 hW8
              simp only [endF]
              have hr8 := Hrel9.out W8 hW8
              have Hr8 := Lib.hid hr8
              clear hr8
              clear hW8 ne hS0 k2
              go_wp2
              go_roundw
              case rel => exact ⟨k + 1, by go_num, by omega, Hr8.out⟩
              case measure => simp [intOf]; omega
          · have t4 : (d % 5 == 4) = false := by rw [beq_eq_false_iff_ne]; exact h4
            have hql : headN l last < 4294967296 := head_lt hlx
            have hn1 := fun (A : Option Addr) (c : Nat) (hd : DrAt wr b1 A c l last used) => next_at wr b1 A c l last used hd hlast (by omega)
            have hn2' := fun (W : World) (A : Option Addr) (c : Nat) (hd : RfAt W b2 A c l last used) => ref_next W b2 A c l last used hd hlast (by omega)
            obtain ⟨q, hq⟩ : ∃ q, q = headN l last := ⟨_, rfl⟩
            rw [← hq] at hn1 hn2' hql
            have h9 : q < 4294967296 ∧ used + 1 ≤ k + 1 ∧ l.tail.length ≤ 4096 ∧ ∀ x ∈ l.tail, x < 4294967296 := ⟨hql, by omega, by rw [List.length_tail]; omega, fun x hx => hlx x (List.mem_of_mem_tail hx)⟩
            have hd5 := hb.1
            obtain ⟨A5, c5, hd5⟩ := hd5
            have hn3 := hn1 A5 c5 hd5
            have Hn3 := Lib.hid hn3
            clear hn3
            have Hn2' := Lib.hid hn2'
            clear hn2'
            have Hb := Lib.hid hb
            clear hb
            have H9 := Lib.hid h9
            clear h9
            have Hq := Lib.hid hq
            clear hq
            clear h3 h4 hlx hB hmr hmb hn1 hd5 hql hlast
            go_wp2_with fail
            with_reducible refine Hn3.out.mono ?_
            rintro e w6 ⟨rfl, hp6⟩
            have hh6 := half_of Hb.out hp6
            obtain ⟨A6, c6, hr6⟩ := hh6.2.1
            have hn4 := Hn2'.out w6 A6 c6 hr6
            have Hn4 := Lib.hid hn4
            clear hn4
            have Hh6 := Lib.hid hh6
            clear hh6
            clear hp6 hr6 Hn2' Hn3 Hb e0 e1
            go_wp2_with fail
            with_reducible refine Hn4.out.mono ?_
            rintro e W9 ⟨rfl, hp7⟩
            have hb9 := both_of Hh6.out hp7
            have h9 := H9.out
            clear hp7 Hn4 Hh6 H9 Hq
            generalize l.tail = l9 at *
            generalize q = last9 at *
            obtain ⟨used9, hu9⟩ : ∃ u, u = used + 1 := ⟨_, rfl⟩
            rw [← hu9] at hb9 h9
            clear hu9
            obtain ⟨⟨A3, c3, hd3⟩, ⟨A4, c4, hr4⟩, hx1, hx2, hx3⟩ := hb9
            have hrel9 : ∀ W, BothS w b1 b2 A3 A4 c3 c4 l9 last9 used9 W → Rel w b1 b2 (k + 1) W := fun W h => ⟨l9, last9, used9, ⟨⟨A3, c3, h.1⟩, ⟨A4, c4, h.2.1⟩, hx1, hx2, h.2.2⟩, h9.1, h9.2.1, h9.2.2.1, h9.2.2.2⟩
            have hS0 : BothS w b1 b2 A3 A4 c3 c4 l9 last9 used9 W9 := ⟨hd3, hr4, hx3⟩
            have ne : Nonempty (Cls (BothS w b1 b2 A3 A4 c3 c4 l9 last9 used9)) := ⟨⟨W9, hS0⟩⟩
            have k2 : ∀ y : Cls (BothS w b1 b2 A3 A4 c3 c4 l9 last9 used9), y.w.cell? ⟨b2, 2, none⟩ = some (.int .u64 (used9 : Int)) := fun y => y.h.2.1.c2
            have m1 := fun (y : Cls (BothS w b1 b2 A3 A4 c3 c4 l9 last9 used9)) => used_at y.w b1 A3 c3 l9 last9 used9 y.h.1
            have m2 := fun (y : Cls (BothS w b1 b2 A3 A4 c3 c4 l9 last9 used9)) => peek_at y.w b1 A3 c3 l9 last9 used9 y.h.1 h9.1
            have m3 := fun (y : Cls (BothS w b1 b2 A3 A4 c3 c4 l9 last9 used9)) => ref_peek y.w b2 A4 c4 l9 last9 used9 y.h.2.1 h9.1
            have cf1 : ∀ (vals : Array Value) (w : World), (callFunc 22 vals).run Try.prog w = .ok (.enter 22 vals) w := fun _ _ => by kernel_rfl
            have cf2 : ∀ (vals : Array Value) (w : World), (callFunc 16 vals).run Try.prog w = .ok (.enter 16 vals) w := fun _ _ => by kernel_rfl
            have cf3 : ∀ (vals : Array Value) (w : World), (callFunc 17 vals).run Try.prog w = .ok (.enter 17 vals) w := fun _ _ => by kernel_rfl
            generalize headN l9 last9 = q9 at *
            have M1 := Lib.hid m1
            clear m1
            have M2 := Lib.hid m2
            clear m2
            have M3 := Lib.hid m3
            clear m3
            have Cf1 := Lib.hid cf1
            clear cf1
            have Cf2 := Lib.hid cf2
            clear cf2
            have Cf3 := Lib.hid cf3
            clear cf3
            have Hrel9 := Lib.hid hrel9
            clear hrel9
            clear hd3 hr4 hx1 hx2 hx3 h9
            go_upto_region 15 with fail
            refine wp_region_flat (BothS w b1 b2 A3 A4 c3 c4 l9 last9 used9) (fun w w' => Below w.heap.size w w') (by kernel_rfl) (by kernel_rfl) (fun w => Below.refl _ _) (BothS.below _ _ hS0 (Below.drew (Below.refl _ _))) ?_
            repeat (first
              | (refine nilCheck_quiet ⟨b2, 0, none⟩ rfl (fun w => Below.refl _ _) rfl rfl rfl W9 ?_; intro K hK; go_big_quiet_op; go_big_quiet_on)
              | (refine flat_quiet (fun w => Below.refl _ _) rfl rfl rfl rfl ?_; intro K hK; go_big_quiet_op; go_big_quiet_on)
              | (refine flat_call Cf1.out _ ?_ rfl rfl rfl _ (fun y => (M1.out y).mono fun e w' ⟨a, b⟩ => ⟨a, b ▸ y.h, b ▸ Below.refl _ _⟩) W9 ?_; (focus (simp only [List.map_toArray, List.map_cons, List.map_nil]; rfl)); intro K hK; go_big_quiet_op; go_big_quiet_on)
              | (refine flat_call Cf2.out _ ?_ rfl rfl rfl _ (fun y => (M2.out y).mono fun e w' ⟨a, b⟩ => ⟨a, b ▸ y.h, b ▸ Below.refl _ _⟩) W9 ?_; (focus (simp only [List.map_toArray, List.map_cons, List.map_nil]; rfl)); intro K hK; go_big_quiet_op; go_big_quiet_on)
              | (refine flat_call Cf3.out _ ?_ rfl rfl rfl _ (fun y => (M3.out y).mono fun e w' ⟨a, b⟩ => ⟨a, b ▸ y.h, b ▸ Below.refl _ _⟩) W9 ?_; (focus (simp only [List.map_toArray, List.map_cons, List.map_nil]; rfl)); intro K hK; go_big_quiet_op; go_big_quiet_on))
            refine flat_nil ?_
            intro W8 hW8
            simp only [endF]
            have hr8 := Hrel9.out W8 hW8
            have Hr8 := Lib.hid hr8
            clear hr8
            clear hW8 ne hS0 k2
            go_wp2
            go_roundw
            case rel => exact ⟨k + 1, by go_num, by omega, Hr8.out⟩
            case measure => simp [intOf]; omega
      · have hke : k = len1 := by omega
        have j1 : (len1 : Int) ≤ (k : Int) := by omega
        have hB := hb.2.2.2.2
        have HB := Lib.hid hB
        clear hB
        clear hb hlx hk
        go_wp2_with fail
        (with_reducible refine (alive_dr _).mono ?_)
        rintro e w6 ⟨rfl, hb6⟩
        go_wp2
        go_ret
        exact ⟨rfl, HB.out.trans (hb6.mono HB.out.size)⟩
theorem own : ownKnob Try.prog.godebug = none := by kernel_rfl
theorem laidOut : laidOutB Try.prog = true := by kernel_rfl
set_option maxRecDepth 100000 in
theorem lifted (os : Os) (started : os.Started) (H : Type) (enc : TypeId × Value → H) :
    ReturnsInHanded {} Try.checked os 3 .any (Rows.drawsPlaysSpec.pre6 enc Try.prog Try.f3 Rows.drawsPlaysRow.domain false) (Rows.drawsPlaysSpec.post enc Try.prog Try.f3 false true false false) := by
  refine returnsInHanded_of_change_sized (C := Try.checked) own started (by kernel_rfl) Try.func3
    (ChangeSpec.witness6 (enc := enc) (C := Try.checked) false ⟨#[], #[.slice none 0 0, .slice none 0 0], []⟩ 8 (by kernel_rfl) (by kernel_rfl) (by kernel_rfl) (by kernel_rfl)) ?_
  intro W base args ds gs before hval0 hW hcnd hsz0 _
  have hsz : (DataW.weightsEach Try.prog (Try.f3.params.toList ++ Rows.drawsPlaysSpec.plain.varTypes Try.prog) (ds ++ gs)).all (· ≤ reachBytes) = true := hsz0
  have hval : ∀ (j : Nat) t v, Try.f3.params[j]? = some t → args[j]? = some v → Value.okWide Try.prog W .any base t v := hval0
  have hW' := hW
  obtain ⟨p, q, hA0, hV, rfl, hfz, hnd⟩ := hW
  have hA : DataW.TrodAll enc Try.prog W 0 (fun _ => true) true Try.f3.params.toList args.toList ds p := hA0
  rw [Try.params3] at hA hval
  obtain ⟨v0, vs0, d0, ds0, p0, q0, hargs, rfl, rfl, h0, r0⟩ := trodAll_cons hA
  obtain ⟨v1, vs1, d1, ds1, p1, q1, rfl, rfl, rfl, h1, r1⟩ := trodAll_cons r0
  obtain ⟨rfl, rfl, rfl⟩ := trodAll_nil r1
  obtain rfl : args = #[v0, v1] := by cases args; simp_all
  obtain ⟨rfl, rfl⟩ := trodVars_none hV
  obtain ⟨a0, len0, cap0, rfl⟩ := okWide_slice Try.underlying22 (hval 0 22 v0 rfl rfl)
  have k0 := h0
  have lt0 : ∀ x ∈ p0, x.block < W.heap.size := by obtain ⟨m, hm⟩ := k0; exact DataW.trod_lt m _ _ _ hm
  obtain ⟨z0, w0⟩ : ∃ zs, IsRow .u32 W a0 len0 cap0 zs := by
    obtain ⟨fuel, hf⟩ := h0
    rcases open_ints Try.underlying22 Try.underlying32 (by kernel_rfl) hf with ⟨hcs, _⟩ | ⟨x, l, c, zs, hcs, _, hl, hm, hz, _, hcell, hwz⟩
    · simp [Value.cells] at hcs
      obtain ⟨rfl, rfl, rfl⟩ := hcs
      exact ⟨[], .inl ⟨rfl, rfl, rfl, rfl⟩⟩
    · simp [Value.cells] at hcs
      obtain ⟨rfl, rfl, rfl⟩ := hcs
      exact ⟨zs, .inr ⟨_, rfl, hl, hm, by simpa using hz, hcell, hwz⟩⟩
  obtain ⟨a1, len1, cap1, rfl⟩ := okWide_slice Try.underlying23 (hval 1 23 v1 rfl rfl)
  have k1 := h1
  have lt1 : ∀ x ∈ p1, x.block < W.heap.size := by obtain ⟨m, hm⟩ := k1; exact DataW.trod_lt m _ _ _ hm
  have w1 : StrRows2 W [(.inl (.inl .u8)), (.inr .u32)] a1 len1 := str_rows2 Try.underlying23 Try.underlying31 (by kernel_rfl) (by kernel_rfl) (by kernel_rfl) (by decide) h1 (reach_of hsz 1 rfl rfl)
  clear hA0 hval0
  refine (walk a0 len0 cap0 z0 a1 len1 cap1 W w0 w1).mono fun e W' ⟨he, bel⟩ => ?_
  subst he
  exact ⟨_, rfl, _, _, _, [], _, [], hW', trodAll_mk1 (shut_bool Try.underlying4 _), (trodAll_cons_mk (Below.trod laidOut (by kernel_rfl) (of_decide_eq_true (by kernel_rfl)) k0 bel lt0) (trodAll_cons_mk (Below.trod laidOut (by kernel_rfl) (of_decide_eq_true (by kernel_rfl)) k1 bel lt1) trodAll_mk0)), rfl, bel.frame _, fun h => by cases h⟩

theorem over : Rows.drawsPlaysRow.holds Try.pinned (OpenSpec.ofChange Rows.drawsPlaysSpec) :=
  OpenClaim.holds_of_wide 3 Try.f3 rfl rfl rfl rfl rfl rfl rfl ⟨rfl, rfl, rfl, rfl, rfl⟩ rfl rfl rfl rfl rfl (by kernel_rfl) Try.func3 (by kernel_rfl)
    (of_decide_eq_true (by kernel_rfl)) (by unfold Func.isWrapper; first | (rw [if_pos (by decide +kernel)]; kernel_rfl) | (rw [if_neg (by decide +kernel)]; exact ⟨rfl, rfl⟩))
    (fun os started H enc _ => lifted os started H enc)

/-- THE STATEMENT -/
theorem proved : Rows.DrawsPlaysSaid := over
#print axioms proved
end Go.Proofs.Ythoodcpigmmehaa.drawsPlays
