/- The statement ReasmTwice: what comes again adds nothing, and changes nothing, whatever it says. -/
import Derived.Test.YtbiaphichaomaaaReasmB
import Derived.Deep.RegionHeld3
set_option linter.unusedVariables false
set_option linter.unusedSimpArgs false
namespace Go.Proofs.Ytbiaphichaomaaa.reasmTwice
open Go.ChangeShapes Go.WideShapes Go.ChangeAt Go.RowKit Go.BigFrame Go.Maps
open Go.ChangeMaps (open_string shut_string)

theorem zeros_size (n : Nat) : (⟨(List.replicate n (0 : UInt8)).toArray⟩ : ByteArray).size = n := by
  show (List.replicate n (0 : UInt8)).toArray.size = n
  rw [List.size_toArray, List.length_replicate]
def Rel (w : World) (b1 bm1 b2 bm2 k : Nat) (wr : World) : Prop := ∃ s, Pair2 w b1 bm1 b2 bm2 s s wr ∧ RsOk s ∧ s.got ≤ 65536 * k
set_option maxRecDepth 100000 in
set_option maxHeartbeats 8000000 in
theorem walk (a0 a1 : Int) (A : Option Addr) (len cap : Nat) (w : World) (w0 : (Lit.int .u32 a0).wf = true) (w1 : (Lit.int .u16 a1).wf = true) (w2 : StrRows2 w [(.inl (.inl .i64)), (.inl (.inl .u64)), (.inl (.inr false)), (.inl (.inl .i64))] A len) (wc : len ≤ cap ∧ cap ≤ 9223372036854775807 ∧ (A = none → len = 0 ∧ cap = 0)) :
    Calls Try.prog 4 #[.int .u32 a0, .int .u16 a1, .slice A len cap] w fun e w' => e = .returned (.bool true) ∧ Below w.heap.size w w' := by
  obtain ⟨l, hrow, hsz⟩ := rows_steps w2
  have hheavy := heavy_at w A len cap l hrow (fun k hk => (hsz k hk).1) (by omega)
  obtain ⟨u1, u2⟩ := bounds_u32 w0
  obtain ⟨v1, v2⟩ := bounds_u16 w1
  obtain ⟨nx, hnx⟩ : ∃ n : Nat, a0 = (n : Int) := ⟨a0.toNat, by omega⟩
  subst hnx
  obtain ⟨M, hM⟩ : ∃ m : Nat, a1 % 3000 + 1 = (m : Int) := ⟨(a1 % 3000 + 1).toNat, by omega⟩
  have hMb : 1 ≤ M ∧ M ≤ 3000 := by omega
  have hnew := fun w => new_z nx M (nx : Int) (M : Int) rfl rfl w (by omega) (by omega) (by omega)
  clear w0 w1 w2
  have Hheavy := Lib.hid hheavy
  clear hheavy
  have HM := Lib.hid hM
  clear hM
  have Hnew := Lib.hid hnew
  clear hnew
  have Hrow := Lib.hid hrow
  clear hrow
  have Hsz := Lib.hid hsz
  clear hsz
  have hM := HM.out
  go_enter Try.func4, Try.ntmps4
  go_wp2_with fail
  (with_reducible refine (Hheavy.out).mono ?_)
  rintro e w' ⟨r, rfl, rfl, hh⟩
  cases r with
  | true =>
    go_wp2_with fail
    (with_reducible refine (works16 _).mono ?_)
    rintro e w' ⟨rfl, hb⟩
    go_wp2
    go_ret
    exact ⟨rfl, hb⟩
  | false =>
    obtain ⟨hl200, hs16⟩ := hh rfl
    clear hh
    have Hs16 := Lib.hid hs16
    clear hs16
    go_upto_region 3 with fail
    go_wp2_with fail
    (with_reducible refine (Hnew.out _).mono ?_)
    rintro e w1 ⟨b1, bm1, rv1, pv1, rfl, h1, hb1, hn1⟩
    have H1 := Lib.hid h1
    clear h1
    have Hb1 := Lib.hid hb1
    clear hb1
    have Hn1 := Lib.hid hn1
    clear hn1
    go_wp2_with fail
    (with_reducible refine (Hnew.out _).mono ?_)
    rintro e w2 ⟨b2, bm2, rv2, pv2, rfl, h2, hb2, hn2⟩
    have hst : Rel w b1 bm1 b2 bm2 0 w2 := ⟨newR nx M, pair_new H1.out Hb1.out Hn1.out h2 hb2 hn2, newR_ok (by omega) (by omega), Nat.le_refl _⟩
    clear h2 hb2 hn2 H1 Hb1 Hn1 Hnew
    have Hst := Lib.hid hst
    clear hst
    go_wp2_with fail
    have k1 : (0 : Int) ≤ (len : Int) := by omega
    have k2 : (len : Int) ≤ 200 := by omega
    go_loopw [11] (fun i wr => ∃ k : Nat, i = .int .i64 (k : Int) ∧ k ≤ len ∧ Rel w b1 bm1 b2 bm2 k wr) (fun i _ => len - (intOf i).toNat)
    case atStart => exact ⟨0, rfl, Nat.zero_le _, Hst.out⟩
    case round =>
      clear Hst
      obtain ⟨k, rfl, hkl, s, hP, hok, hgot⟩ := hrel
      by_cases hk : k < len
      · have j1 : (k : Int) < (len : Int) := by omega
        obtain ⟨r, off, hA, hrl, q0, q1, q2, q3⟩ := (Hrow.out.below hP.out).2 k hk
        have hs6 := Hs16.out k
        generalize l.getD k sNil = x at *
        obtain ⟨d, at_, sx, nn⟩ := x
        simp only at q0 q1 q2 q3 hs6
        subst hA
        have hsxl : sx.data.toList.length = sx.size := by simp
        have hb1 := Blk.new wr 41 #[.int .i64 d, .int .u64 (at_ : Int), .string sx, .int .i64 nn]
        have hP1 := hP.below ((Below.refl _ _).alloc (Nat.le_refl _) (.cells #[.int .i64 d, .int .u64 (at_ : Int), .string sx, .int .i64 nn] 41))
        clear hP
        have Hb1 := Lib.hid hb1
        clear hb1
        have HP1 := Lib.hid hP1
        clear hP1
        have Hok := Lib.hid hok
        clear hok
        have Hgot := Lib.hid hgot
        clear hgot
        have Hsxl := Lib.hid hsxl
        clear hsxl
        go_upto_region 11 with fail
        have hb1 := Hb1.out
        have hP1 := HP1.out
        clear Hb1 HP1
        obtain ⟨gs, hgs⟩ : ∃ g, g = wr.heap.size := ⟨_, rfl⟩
        rw [← hgs] at hb1 ⊢
        clear hgs q0 q1 q2 q3 hrl
        generalize wr.alloc _ = W1 at *
        have c0 := hb1.cell 0
        have c1 := hb1.cell 1
        have c2 := hb1.cell 2
        have c3 := hb1.cell 3
        have hgl := hb1.lt
        simp at c0 c1 c2 c3
        by_cases hd : d = 1
        · subst hd
          obtain ⟨z, hz⟩ : ∃ z : ByteArray, z = ⟨(takeR s nn).2.toArray⟩ := ⟨_, rfl⟩
          have t1 := (hP1.below (Below.drew (Below.refl _ _))).take1 Hok.out nn
          rw [← hz] at t1
          have hkc : ∀ W, Keeps W1.drew W → W.cell? ⟨gs, 3, none⟩ = some (.int .i64 nn) := fun W hW => (hW gs _ _ (by decide) (by decide) hb1.drew).cell 3
          have hcells : ∀ W W', (∀ W2, Keeps W W2 → W2.cell? ⟨gs, 3, none⟩ = some (.int .i64 nn)) → Keeps W W' → ∀ W2, Keeps W' W2 → W2.cell? ⟨gs, 3, none⟩ = some (.int .i64 nn) := fun W W' h1 h2 W2 h3 => h1 W2 (fun g t cs e1 e2 hg => h3 g t cs e1 e2 (h2 g t cs e1 e2 hg))
          clear hP1 hb1
          have T1 := Lib.hid t1
          clear t1
          have Hkc := Lib.hid hkc
          clear hkc
          have Hz := Lib.hid hz
          clear hz
          have Hcells := Lib.hid hcells
          clear hcells
          go_upto_region 12 with fail
          go_region_held3 (fun W => W.cell? ⟨gs, 3, none⟩ = some (.int .i64 nn)) (first | assumption | go_keep) (first
            | (go_at_call 8; (with_reducible refine (T1.out).mono ?_); rintro e w6 ⟨rfl, hp6, hk6⟩; have k6 := Hkc.out w6 hk6; have t2 := hp6.symm.take1 Hok.out nn; rw [← Hz.out] at t2; have hk7 := Hcells.out _ _ Hkc.out hk6; have T2 := Lib.hid t2; have Hk7 := Lib.hid hk7; clear t2 hp6 hk6 hk7)
            | (go_at_call 8; (with_reducible refine (T2.out).mono ?_); rintro e w7 ⟨rfl, hp7, hk7⟩; have k7 := Hk7.out w7 hk7; have Hp7 := Lib.hid hp7; clear hp7 hk7))
          have hrel : Rel w b1 bm1 b2 bm2 (k + 1) w7 := ⟨_, Hp7.out.symm, takeR_ok Hok.out nn, by rw [takeR_got]; have := Hgot.out; omega⟩
          clear Hp7 T1 T2 Hkc Hk7 k6 k7 Hcells c0 c1 c2 c3 Hz
          have Hrel := Lib.hid hrel
          clear hrel
          go_wp2_with fail
          go_roundw
          case rel => exact ⟨k + 1, by go_num, by omega, Hrel.out⟩
          case measure => simp [intOf]; omega
        · have hd1 : (d == 1) = false := by rw [beq_eq_false_iff_ne]; exact hd
          clear hd
          have hsb : sx.size ≤ 16384 := hs6
          have hagain := fun (u : List UInt8) (hu : u.length = sx.data.toList.length) (hc : ¬ ((putR s at_ sx.data.toList).2.1 < sx.data.toList.length ∧ (putR s at_ sx.data.toList).2.2 = 0)) => putR_again Hok.out hu hc
          have t1 := hP1.put1 Hok.out (by have := Hgot.out; omega) at_ sx (by unfold maxLen; omega)
          obtain ⟨S1, hS1⟩ : ∃ S1, S1 = (putR s at_ sx.data.toList).1 := ⟨_, rfl⟩
          obtain ⟨N0, hN0⟩ : ∃ N0, N0 = (putR s at_ sx.data.toList).2.1 := ⟨_, rfl⟩
          obtain ⟨E0, hE0⟩ : ∃ E0, E0 = (putR s at_ sx.data.toList).2.2 := ⟨_, rfl⟩
          have t2 := fun W (h : Pair2 w b2 bm2 b1 bm1 s S1 W) => h.put1 Hok.out (by have := Hgot.out; omega) at_ sx (by unfold maxLen; omega)
          have hok1 : RsOk S1 := by rw [hS1]; exact putR_ok Hok.out _ _
          have hgot1 : S1.got ≤ 65536 * (k + 1) := by rw [hS1]; have := putR_got s at_ sx.data.toList; have := Hgot.out; omega
          rw [← hS1, ← hN0, ← hE0] at t1
          rw [← hS1, ← hN0, ← hE0] at hagain
          rw [← hS1, ← hN0, ← hE0] at t2
          rw [Hsxl.out] at hagain
          have b0 : N0 ≤ 65536 ∧ E0 ≤ 2 := by
            rw [hN0, hE0]
            unfold putR
            split
            · simp
            · split
              · simp
              · split
                · simp
                · simp only
                  have := newN_le s.far (fromR s at_) (toR s at_ sx.data.toList.length - fromR s at_)
                  unfold fromR toR at *
                  omega
          clear hS1 hN0 hE0 hP1
          have T1 := Lib.hid t1
          clear t1
          have T2 := Lib.hid t2
          clear t2
          have Hok1 := Lib.hid hok1
          clear hok1
          have Hgot1 := Lib.hid hgot1
          clear hgot1
          have Hagain := Lib.hid hagain
          clear hagain
          have Hb1 := Lib.hid hb1
          clear hb1
          go_wp2_with fail
          (with_reducible refine (T1.out).mono ?_)
          rintro e w2 ⟨rfl, hp2, hk2⟩
          have hb2 := hk2 gs _ _ (by decide) (by decide) Hb1.out
          have t3 := T2.out w2 hp2.symm
          clear hp2 hk2 T1 T2 Hb1 c0 c1 c2 c3
          have c1 := hb2.cell 1
          have c2 := hb2.cell 2
          have hgl2 := hb2.lt
          simp at c1 c2
          have T3 := Lib.hid t3
          clear t3
          have Hb2 := Lib.hid hb2
          clear hb2
          go_wp2_with fail
          (with_reducible refine (T3.out).mono ?_)
          rintro e w3 ⟨rfl, hp3, hk3⟩
          have hb3 := hk3 gs _ _ (by decide) (by decide) Hb2.out
          clear hk3 T3 Hb2 c1 c2
          have c1 := hb3.cell 1
          have c2 := hb3.cell 2
          have hgl3 := hb3.lt
          simp at c1 c2
          have j5 : (N0 : Int) ≤ 65536 := by omega
          have Hp3 := Lib.hid hp3
          clear hp3
          have Hb3 := Lib.hid hb3
          clear hb3
          by_cases hc : N0 < sx.size ∧ E0 = 0
          · obtain ⟨hc1, hc2⟩ := hc
            subst hc2
            have j6 : (N0 : Int) < (sx.size : Int) := by omega
            have hrel : Rel w b1 bm1 b2 bm2 (k + 1) w3 := ⟨_, Hp3.out.symm, Hok1.out, Hgot1.out⟩
            clear Hp3 Hb3 Hok Hok1 Hgot Hgot1 Hagain
            have Hrel := Lib.hid hrel
            clear hrel
            go_wp2_with fail
            go_roundw
            case rel => exact ⟨k + 1, by go_num, by omega, Hrel.out⟩
            case measure => simp [intOf]; omega
          · have hag := Hagain.out (List.replicate sx.size 0) (by rw [List.length_replicate]) hc
            have j7 : ((E0 : Int) == 0) = decide (E0 = 0) := by
              by_cases e : E0 = 0
              · subst e; simp
              · rw [decide_eq_false e, beq_eq_false_iff_ne]; omega
            have hcond : (decide ((N0 : Int) < (sx.size : Int)) && ((E0 : Int) == 0)) = false := by
              rw [j7]
              by_cases e1 : N0 < sx.size <;> by_cases e2 : E0 = 0
              · exact absurd ⟨e1, e2⟩ hc
              · simp [e2]
              · simp; omega
              · simp [e2]
            have hzl : (⟨(List.replicate sx.size (0 : UInt8)).toArray⟩ : ByteArray).data.toList = List.replicate sx.size 0 := List.toList_toArray
            obtain ⟨B, hB⟩ : ∃ B, B = w3.heap.size := ⟨_, rfl⟩
            have t4 := fun W (h : PairB B w b2 bm2 b1 bm1 S1 S1 W) => h.put1 Hok1.out (by have := Hgot1.out; omega) at_ ⟨(List.replicate sx.size (0 : UInt8)).toArray⟩ (by
              rw [zeros_size]; unfold maxLen; omega)
            rw [hzl, hag] at t4
            have hpb : PairB B w b2 bm2 b1 bm1 S1 S1 w3 := by rw [hB]; exact Hp3.out.bound
            have hcv : ∀ u W, rowAt B 5 ((List.replicate sx.size (0 : UInt8)).map byteV).toArray sx.size [u] W → (convert 42 9 u).run Try.prog W = .ok (.string ⟨(List.replicate sx.size (0 : UInt8)).toArray⟩) W := by
              rintro u W ⟨g, hu, _, hg⟩
              injection hu with hu
              rw [hu]
              exact run_zeros_at hg
            have hmk := fun W => run_make_bytes W sx.size (by omega)
            obtain ⟨zz, hzz⟩ : ∃ zz : ByteArray, zz = ⟨(List.replicate sx.size (0 : UInt8)).toArray⟩ := ⟨_, rfl⟩
            rw [← hzz] at t4
            simp only [← hzz] at hcv
            obtain ⟨Z, hZ⟩ : ∃ Z, Z = ((List.replicate sx.size (0 : UInt8)).map byteV).toArray := ⟨_, rfl⟩
            simp only [← hZ] at hmk hcv
            have hsz3 : B ≤ w3.heap.size := by omega
            clear hzz hZ hzl hag hc hB
            have T4 := Lib.hid t4
            clear t4
            have Hpb := Lib.hid hpb
            clear hpb
            have Hmk := Lib.hid hmk
            clear hmk
            have Hcv := Lib.hid hcv
            clear hcv
            have Hcond := Lib.hid hcond
            clear hcond
            have Hsz3 := Lib.hid hsz3
            clear hsz3
            go_upto_region 18 with fail
            go_cut [112] from 104 to 112 (fun v wx => v = .bool false ∧ w3 = wx)
            case first =>
              have hcond := Hcond.out
              by_cases e1 : (N0 : Int) < (sx.size : Int)
              · have e2 : ((E0 : Int) == 0) = false := by simpa [e1] using hcond
                have e3 : ¬ E0 = 0 := by rintro rfl; simp at e2
                clear hcond
                go_wp2_with fail
                go_meet
                case rel => exact ⟨rfl, rfl⟩
              · clear hcond
                go_wp2_with fail
                go_meet
                case rel => exact ⟨rfl, rfl⟩
            case rest =>
              obtain ⟨rfl, rfl⟩ := hcut
              clear Hcond Hagain c1 c2
              go_upto_region 19 with fail
              have hS0 : (fun W => Pair2 w b2 bm2 b1 bm1 S1 S1 W ∧ Blk W gs 41 #[.int .i64 d, .int .u64 (at_ : Int), .string sx, .int .i64 nn] ∧ B ≤ W.heap.size) w3.drew := ⟨Hp3.out.below (Below.drew (Below.refl _ _)), Hb3.out.drew, Hsz3.out⟩
              have hU0 : ∀ q ∈ ([(8, PairB B w b2 bm2 b1 bm1 S1 S1)] : List (Nat × (World → Prop))), q.2 w3.drew := by
                intro q hq
                obtain rfl := List.mem_singleton.1 hq
                exact Hpb.out.below (Below.drew (Below.refl _ _))
              have hUs : ∀ q ∈ ([(8, PairB B w b2 bm2 b1 bm1 S1 S1)] : List (Nat × (World → Prop))), ∀ i w w', i ≠ q.1 → RLow 8 B i w w' → q.2 w → q.2 w' := by
                intro q hq i w w' hi hr hw
                obtain rfl := List.mem_singleton.1 hq
                rcases hr with hr | ⟨hr, _⟩
                · exact hw.below hr
                · exact absurd hr hi
              have ne : Nonempty (Cls (fun W => Pair2 w b2 bm2 b1 bm1 S1 S1 W ∧ Blk W gs 41 #[.int .i64 d, .int .u64 (at_ : Int), .string sx, .int .i64 nn] ∧ B ≤ W.heap.size)) := ⟨⟨_, hS0⟩⟩
              have d1 : ∀ y : Cls (fun W => Pair2 w b2 bm2 b1 bm1 S1 S1 W ∧ Blk W gs 41 #[.int .i64 d, .int .u64 (at_ : Int), .string sx, .int .i64 nn] ∧ B ≤ W.heap.size), y.w.cell? ⟨gs, 1, none⟩ = some (.int .u64 (at_ : Int)) := fun y => y.h.2.1.cell 1
              have d2 : ∀ y : Cls (fun W => Pair2 w b2 bm2 b1 bm1 S1 S1 W ∧ Blk W gs 41 #[.int .i64 d, .int .u64 (at_ : Int), .string sx, .int .i64 nn] ∧ B ≤ W.heap.size), y.w.cell? ⟨gs, 2, none⟩ = some (.string sx) := fun y => y.h.2.1.cell 2
              have cf : ∀ (vals : Array Value) (w : World), (callFunc 7 vals).run Try.prog w = .ok (.enter 7 vals) w := fun _ _ => by kernel_rfl
              have hcall : ∀ W, (Pair2 w b2 bm2 b1 bm1 S1 S1 W ∧ Blk W gs 41 #[.int .i64 d, .int .u64 (at_ : Int), .string sx, .int .i64 nn] ∧ B ≤ W.heap.size) → untilU [(8, PairB B w b2 bm2 b1 bm1 S1 S1)] 8 W → Calls Try.prog 7 #[.pointer (some ⟨b2, 0, none⟩), .int .u64 (at_ : Int), .string zz] W fun e w'' => e = .returned (.tuple #[.int .i64 0, .int .i64 (E0 : Int)]) ∧ (Pair2 w b2 bm2 b1 bm1 S1 S1 w'' ∧ Blk w'' gs 41 #[.int .i64 d, .int .u64 (at_ : Int), .string sx, .int .i64 nn] ∧ B ≤ w''.heap.size) ∧ RLow 8 B 8 W w'' := by
                intro W hW hu
                refine (T4.out W (hu _ List.mem_cons_self rfl)).mono ?_
                rintro e w'' ⟨rfl, r1, r2, r3, r4⟩
                exact ⟨rfl, ⟨r1, r2 gs _ _ (by decide) (by decide) hW.2.1, Nat.le_trans hW.2.2 r3⟩, .inr ⟨rfl, r3, r4⟩⟩
              have hSb : ∀ w1' w2', (Pair2 w b2 bm2 b1 bm1 S1 S1 w1' ∧ Blk w1' gs 41 #[.int .i64 d, .int .u64 (at_ : Int), .string sx, .int .i64 nn] ∧ B ≤ w1'.heap.size) → Below w1'.heap.size w1' w2' → (Pair2 w b2 bm2 b1 bm1 S1 S1 w2' ∧ Blk w2' gs 41 #[.int .i64 d, .int .u64 (at_ : Int), .string sx, .int .i64 nn] ∧ B ≤ w2'.heap.size) := fun w1' w2' h hb => ⟨h.1.below hb, h.2.1.below hb h.2.1.lt, Nat.le_trans h.2.2 hb.size⟩
              clear Hp3 Hb3 Hpb T4
              have HS0 := Lib.hid hS0
              clear hS0
              have HU0 := Lib.hid hU0
              clear hU0
              have HUs := Lib.hid hUs
              clear hUs
              have Cf := Lib.hid cf
              clear cf
              have Hcall := Lib.hid hcall
              clear hcall
              have HSb := Lib.hid hSb
              clear hSb
              refine wp_region_flowu 14 (fun W => Pair2 w b2 bm2 b1 bm1 S1 S1 W ∧ Blk W gs 41 #[.int .i64 d, .int .u64 (at_ : Int), .string sx, .int .i64 nn] ∧ B ≤ W.heap.size) (RLow 8 B) [(8, PairB B w b2 bm2 b1 bm1 S1 S1)] (by kernel_rfl) (by kernel_rfl) (by kernel_rfl) RLow.refl HUs.out HU0.out HS0.out ?_
              simp only [List.take_succ_cons, List.take_zero, List.drop_succ_cons, List.drop_zero]
              repeat (refine flowu_quiet RLow.refl rfl rfl rfl rfl ?_; intro K hK; go_big_quiet_op; go_big_quiet_on)
              refine flowx_make B (E := 5) (n := sx.size) _ _ rfl rfl Z rowAt.low Hmk.out HSb.out (fun _ _ _ => RLow.of_below) (fun _ h => h.2.2) rfl rfl rfl w ?_
              intro K hK; go_big_quiet_op; go_big_quiet_on
              refine flowx_conv (.string zz) 0 rfl rfl rfl (of_decide_eq_true rfl) RLow.refl Hcv.out rfl rfl w ?_
              intro K hK; go_big_quiet_op; go_big_quiet_on
              refine flowx_call Cf.out #[.pointer (some ⟨b2, 0, none⟩), .int .u64 (at_ : Int), .string zz] ?_ rfl _ Hcall.out rfl rfl w ?_
              focus (simp only [List.map_toArray, List.map_cons, List.map_nil]; rfl)
              intro K hK; go_big_quiet_op; go_big_quiet_on
              repeat (refine flowu_quiet RLow.refl rfl rfl rfl rfl ?_; intro K hK; go_big_quiet_op; go_big_quiet_on)
              refine flowu_nil ?_
              intro W6 f hW hF
              simp only [fillW, Act.put, List.setIfInBounds_toArray, List.set_cons_succ, List.set_cons_zero]
              have hp6 := hW.1
              generalize f 120 = v120
              clear hF f hW ne d1 d2
              have n1 := hp6.symm.next1
              have n2 := hp6.next1
              have n3 := hp6.symm.ready1
              have n4 := hp6.ready1
              have n5 := hp6.symm.parts1 Hok1.out
              have Hp6 := Lib.hid hp6
              clear hp6
              have N1 := Lib.hid n1
              clear n1
              have N2 := Lib.hid n2
              clear n2
              have N3 := Lib.hid n3
              clear n3
              have N4 := Lib.hid n4
              clear n4
              have N5 := Lib.hid n5
              clear n5
              go_wp2_with fail
              (with_reducible refine (N1.out).mono ?_)
              rintro e w' ⟨rfl, rfl⟩
              go_wp2_with fail
              (with_reducible refine (N2.out).mono ?_)
              rintro e w' ⟨rfl, rfl⟩
              go_wp2_with fail
              (with_reducible refine (N3.out).mono ?_)
              rintro e w' ⟨rfl, rfl⟩
              go_wp2_with fail
              (with_reducible refine (N4.out).mono ?_)
              rintro e w' ⟨rfl, rfl⟩
              go_wp2_with fail
              (with_reducible refine (N5.out).mono ?_)
              rintro e w7 ⟨A7, c7, rfl, hb7⟩
              have hp7 := Hp6.out.below hb7
              have n6 := hp7.parts1 Hok1.out
              clear hb7 N1 N2 N3 N4 N5 Hp6
              have Hp7 := Lib.hid hp7
              clear hp7
              have N6 := Lib.hid n6
              clear n6
              go_wp2_with fail
              (with_reducible refine (N6.out).mono ?_)
              rintro e w8 ⟨A8, c8, rfl, hb8⟩
              have hrel : Rel w b1 bm1 b2 bm2 (k + 1) w8 := ⟨_, (Hp7.out.below hb8).symm, Hok1.out, Hgot1.out⟩
              clear hb8 N6 Hp7
              have Hrel := Lib.hid hrel
              clear hrel
              go_wp2_with fail
              go_roundw
              case rel => exact ⟨k + 1, by go_num, by omega, Hrel.out⟩
              case measure => simp [intOf]; omega
      · obtain rfl : k = len := by omega
        have j1 : ¬ (k : Int) < (k : Int) := by omega
        obtain ⟨z, hz⟩ : ∃ z : ByteArray, z = ⟨(takeR s 1048576).2.toArray⟩ := ⟨_, rfl⟩
        have t1 := hP.take1 hok 1048576
        rw [← hz] at t1
        clear hP hgot
        have T1 := Lib.hid t1
        clear t1
        have Hz := Lib.hid hz
        clear hz
        have Hok := Lib.hid hok
        clear hok
        go_wp2_with fail
        (with_reducible refine (T1.out).mono ?_)
        rintro e w6 ⟨rfl, hp6, hk6⟩
        have t2 := hp6.symm.take1 Hok.out 1048576
        rw [← Hz.out] at t2
        clear hp6 hk6 T1
        have T2 := Lib.hid t2
        clear t2
        go_wp2_with fail
        (with_reducible refine (T2.out).mono ?_)
        rintro e w7 ⟨rfl, hp7, hk7⟩
        have hb7 := hp7.out
        clear hp7 hk7 T2
        have Hb7 := Lib.hid hb7
        clear hb7
        go_wp2_with fail
        (with_reducible refine (works16 _).mono ?_)
        rintro e w9 ⟨rfl, hb9⟩
        have hb10 := Hb7.out.trans (hb9.mono Hb7.out.size)
        clear hb9
        have Hb10 := Lib.hid hb10
        clear hb10
        go_wp2
        go_ret
        exact ⟨rfl, Hb10.out⟩
theorem own : ownKnob Try.prog.godebug = none := by kernel_rfl
theorem laidOut : laidOutB Try.prog = true := by kernel_rfl
set_option maxRecDepth 100000 in
theorem lifted (os : Os) (started : os.Started) (H : Type) (enc : TypeId × Value → H) :
    ReturnsInHanded {} Try.checked os 4 .any (Rows.reasmTwiceSpec.pre6 enc Try.prog Try.f4 Rows.reasmTwiceRow.domain false) (Rows.reasmTwiceSpec.post enc Try.prog Try.f4 false true false false) := by
  refine returnsInHanded_of_change_sized (C := Try.checked) own started (by kernel_rfl) Try.func4
    (ChangeSpec.witness6 (enc := enc) (C := Try.checked) false ⟨#[], #[.int .u32 0, .int .u16 0, .slice none 0 0], []⟩ 8 (by kernel_rfl) (by kernel_rfl) (by kernel_rfl) (by kernel_rfl)) ?_
  intro W base args ds gs before hval0 hW hcnd hsz0 _
  have hsz : (DataW.weightsEach Try.prog (Try.f4.params.toList ++ Rows.reasmTwiceSpec.plain.varTypes Try.prog) (ds ++ gs)).all (· ≤ reachBytes) = true := hsz0
  have hval : ∀ (j : Nat) t v, Try.f4.params[j]? = some t → args[j]? = some v → Value.okWide Try.prog W .any base t v := hval0
  have hW' := hW
  obtain ⟨p, q, hA0, hV, rfl, hfz, hnd⟩ := hW
  have hA : DataW.TrodAll enc Try.prog W 0 (fun _ => true) true Try.f4.params.toList args.toList ds p := hA0
  rw [Try.params4] at hA hval
  obtain ⟨v0, vs0, d0, ds0, p0, q0, hargs, rfl, rfl, h0, r0⟩ := trodAll_cons hA
  obtain ⟨v1, vs1, d1, ds1, p1, q1, rfl, rfl, rfl, h1, r1⟩ := trodAll_cons r0
  obtain ⟨v2, vs2, d2, ds2, p2, q2, rfl, rfl, rfl, h2, r2⟩ := trodAll_cons r1
  obtain ⟨rfl, rfl, rfl⟩ := trodAll_nil r2
  obtain rfl : args = #[v0, v1, v2] := by cases args; simp_all
  obtain ⟨rfl, rfl⟩ := trodVars_none hV
  obtain ⟨a0, rfl, rfl, rfl, w0⟩ := open_int Try.underlying37 (hval 0 37 v0 rfl rfl) h0
  obtain ⟨a1, rfl, rfl, rfl, w1⟩ := open_int Try.underlying22 (hval 1 22 v1 rfl rfl) h1
  obtain ⟨a2, len2, cap2, rfl⟩ := okWide_slice Try.underlying38 (hval 2 38 v2 rfl rfl)
  have k2 := h2
  have lt2 : ∀ x ∈ p2, x.block < W.heap.size := by obtain ⟨m, hm⟩ := k2; exact DataW.trod_lt m _ _ _ hm
  have w2 : StrRows2 W [(.inl (.inl .i64)), (.inl (.inl .u64)), (.inl (.inr false)), (.inl (.inl .i64))] a2 len2 := str_rows2 Try.underlying38 Try.underlying41 (by kernel_rfl) (by kernel_rfl) (by kernel_rfl) (by decide) h2 (reach_of hsz 2 rfl rfl)
  have wc2 := str_caps Try.underlying38 Try.underlying41 (by kernel_rfl) (by kernel_rfl) h2
  clear hA0 hval0
  refine (walk a0 a1 a2 len2 cap2 W w0 w1 w2 wc2).mono fun e W' ⟨he, bel⟩ => ?_
  subst he
  exact ⟨_, rfl, _, _, _, [], _, [], hW', trodAll_mk1 (shut_bool Try.underlying4 _), (trodAll_cons_mk (shut_int Try.underlying37 w0) (trodAll_cons_mk (shut_int Try.underlying22 w1) (trodAll_cons_mk (Below.trod laidOut (by kernel_rfl) (of_decide_eq_true (by kernel_rfl)) k2 bel lt2) trodAll_mk0))), rfl, bel.frame _, fun h => by cases h⟩

theorem over : Rows.reasmTwiceRow.holds Try.pinned (OpenSpec.ofChange Rows.reasmTwiceSpec) :=
  OpenClaim.holds_of_wide 4 Try.f4 rfl rfl rfl rfl rfl rfl rfl ⟨rfl, rfl, rfl, rfl, rfl⟩ rfl rfl rfl rfl rfl (by kernel_rfl) Try.func4 (by kernel_rfl)
    (of_decide_eq_true (by kernel_rfl)) (by unfold Func.isWrapper; first | (rw [if_pos (by decide +kernel)]; kernel_rfl) | (rw [if_neg (by decide +kernel)]; exact ⟨rfl, rfl⟩))
    (fun os started H enc _ => lifted os started H enc)

/-- THE STATEMENT -/
theorem proved : Rows.ReasmTwiceSaid := over
#print axioms proved
end Go.Proofs.Ytbiaphichaomaaa.reasmTwice
