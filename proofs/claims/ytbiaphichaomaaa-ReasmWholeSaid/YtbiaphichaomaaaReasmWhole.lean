/- The statement ReasmWhole: a stream that comes in pieces, in whatever order, each of them again and again, is there as a whole. -/
import Derived.Test.YtbiaphichaomaaaReasmN
set_option linter.unusedVariables false
set_option linter.unusedSimpArgs false
namespace Go.Proofs.Ytbiaphichaomaaa.reasmWhole
open Go.ChangeShapes Go.WideShapes Go.ChangeAt Go.RowKit Go.BigFrame
open Go.ChangeMaps (open_string shut_string)

theorem putR_most (s : Rs) (at_ : Nat) (t : List UInt8) : (putR s at_ t).1.most = s.most := by
  unfold putR
  split
  · rfl
  · split
    · rfl
    · split
      · rfl
      · unfold movesR
        split
        · rfl
        · split <;> rfl
theorem putR_next_le {s : Rs} (hs : RsOk s) (at_ : Nat) (t : List UInt8) : s.next ≤ (putR s at_ t).1.next := by
  by_cases h : 4611686018427387904 < at_ ∨ 65536 < t.length
  · rw [putR_bad h]; exact Nat.le_refl _
  · by_cases h1 : toR s at_ t.length ≤ fromR s at_
    · rw [putR_none h h1]; exact Nat.le_refl _
    · cases h2 : manyR s (joinS s.parts (fromR s at_, toR s at_ t.length)) with
      | true => rw [putR_many h h2]; exact Nat.le_refl _
      | false =>
        rw [putR_lays h h1 h2]
        have hL := laid_ok hs h h1 h2
        have hx : (laidR s at_ t).next = s.next := rfl
        simp only
        unfold movesR
        cases hp : (laidR s at_ t).parts with
        | nil => exact Nat.le_refl _
        | cons p l =>
          simp only
          split
          · rename_i he
            have := hL.norm.lt p (by rw [hp]; exact List.mem_cons_self)
            simp only
            omega
          · exact Nat.le_refl _
theorem putR_e {s : Rs} {at_ : Nat} {t : List UInt8} (h : ¬ (4611686018427387904 < at_ ∨ 65536 < t.length)) : (putR s at_ t).2.2 = 0 := by
  by_cases h1 : toR s at_ t.length ≤ fromR s at_
  · rw [putR_none h h1]
  · cases h2 : manyR s (joinS s.parts (fromR s at_, toR s at_ t.length)) with
    | true => rw [putR_many h h2]
    | false => rw [putR_lays h h1 h2]
/-- what holds behind c calls of Put, lo bytes of the stream being ready -/
def WSt (w : World) (t : List UInt8) (b bm c lo : Nat) (wr : World) : Prop :=
  ∃ rv pv s, RsAt wr b bm rv pv s ∧ RsOk s ∧ OfStream t s ∧ s.most = 65536 ∧ s.got ≤ 65536 * c ∧ 7 + lo ≤ s.next ∧ Below w.heap.size w wr ∧ ∀ i, OwnR b bm rv i → w.heap.size ≤ i
theorem WSt.less {w wr : World} {t : List UInt8} {b bm c c' lo lo' : Nat} (h : WSt w t b bm c lo wr) (hc : c ≤ c') (hl : lo' ≤ lo) : WSt w t b bm c' lo' wr := by
  obtain ⟨rv, pv, s, h1, h2, h3, h4, h5, h6, h7⟩ := h
  exact ⟨rv, pv, s, h1, h2, h3, h4, Nat.le_trans h5 (Nat.mul_le_mul_left _ hc), by omega, h7⟩
/-- a piece that is put -/
theorem WSt.put {w wr : World} {x : ByteArray} {b bm c lo k hi : Nat} (h : WSt w x.data.toList b bm c lo wr) (hx : x.size ≤ 2048) (hk : k ≤ hi) (hh : hi ≤ x.size) (hc : c ≤ 1000000) (a : Int) (ha : ((7 + k : Nat) : Int) = a) (y : ByteArray) (hy : y.data.toList = (x.data.toList.drop k).take (hi - k)) :
    Calls Try.prog 7 #[.pointer (some ⟨b, 0, none⟩), .int .u64 a, .string y] wr fun e w' => ∃ n : Int, e = .returned (.tuple #[.int .i64 n, .int .i64 0]) ∧ WSt w x.data.toList b bm (c + 1) lo w' ∧ (k ≤ lo → WSt w x.data.toList b bm (c + 1) (max lo hi) w') := by
  obtain ⟨rv, pv, s, h1, h2, h3, h4, h5, h6, h7, h8⟩ := h
  have hxl : x.data.toList.length = x.size := by simp
  have hyl : y.data.toList.length = hi - k := by rw [hy, List.length_take, List.length_drop, hxl]; omega
  have hys : y.size = hi - k := by rw [← hyl]; simp
  have hok : ¬ (4611686018427387904 < 7 + k ∨ 65536 < y.data.toList.length) := by rw [hyl]; omega
  have he := putR_e (s := s) hok
  have hu : ∀ i, i < y.data.toList.length → x.data.toList[k + i]? = y.data.toList[i]? := by
    intro i hi2
    rw [hyl] at hi2
    rw [hy, List.getElem?_take_of_lt hi2, List.getElem?_drop]
  refine (put_r b bm rv pv s wr (7 + k) a ha y _ 0 rfl (by rw [he]; rfl) h1 h2 (by omega) (by rw [hys]; unfold maxLen; omega)).mono ?_
  rintro e w' ⟨rv', pv', rfl, r1, r2, r3⟩
  obtain ⟨q1, q2⟩ := own_trans h7 h8 r2 r3
  have hg := putR_got s (7 + k) y.data.toList
  have hnl := putR_next_le h2 (7 + k) y.data.toList
  refine ⟨_, rfl, ⟨rv', pv', _, r1, putR_ok h2 _ _, putR_of h2 h3 hu, by rw [putR_most]; exact h4, by omega, by omega, q1, q2⟩, fun hkl => ⟨rv', pv', _, r1, putR_ok h2 _ _, putR_of h2 h3 hu, by rw [putR_most]; exact h4, by omega, ?_, q1, q2⟩⟩
  have := (putR_next h2 h4 (by rw [hxl]; exact hx) h3 (k := k) (u := y.data.toList) (by rw [hxl]; omega) (by rw [hxl, hyl]; omega) (by omega)).2
  omega
def pr (len sz r i : Nat) : Nat := if 61 < r then len else if 60 < r then min (i * sz) len else 0
theorem pr_le (len sz r i : Nat) : pr len sz r i ≤ len := by unfold pr; split <;> (try split) <;> omega
theorem pr_end {len sz r n : Nat} (h : len ≤ n * sz) : pr len sz (r + 1) 0 ≤ pr len sz r n := by
  unfold pr
  by_cases h1 : 61 < r
  · rw [if_pos h1]; split <;> (try split) <;> omega
  · rw [if_neg h1]
    by_cases h2 : 60 < r
    · rw [if_pos h2]; have : r = 61 := by omega
      subst this
      simp
      omega
    · rw [if_neg h2]
      have : ¬ 61 < r + 1 := by omega
      rw [if_neg this]
      split <;> simp
theorem pr_step {len sz r i : Nat} (hr : 60 < r) (hi : i * sz ≤ len) : pr len sz r (i + 1) ≤ max (pr len sz r i) (min ((i + 1) * sz) len) := by
  unfold pr
  by_cases h1 : 61 < r
  · rw [if_pos h1, if_pos h1]; omega
  · rw [if_neg h1, if_neg h1, if_pos hr, if_pos hr]; omega
theorem pr_low {len sz r i : Nat} (hr : 60 < r) (hi : i * sz ≤ len) : i * sz ≤ pr len sz r i := by
  unfold pr
  by_cases h1 : 61 < r
  · rw [if_pos h1]; exact hi
  · rw [if_neg h1, if_pos hr]; omega
theorem pr_free {len sz r i j : Nat} (hr : ¬ 60 < r) : pr len sz r i = pr len sz r j := by
  unfold pr
  rw [if_neg (by omega), if_neg hr, if_neg (by omega), if_neg hr]
theorem piece_of {len sz n k : Nat} (hn : n * sz ≤ len + sz - 1) (hsz : 1 ≤ sz) (hk : k < n) : k * sz ≤ min ((k + 1) * sz) len ∧ k * sz ≤ len := by
  have h1 : (k + 1) * sz ≤ n * sz := Nat.mul_le_mul_right _ hk
  have h2 : (k + 1) * sz = k * sz + sz := by rw [Nat.add_mul, Nat.one_mul]
  omega
set_option maxRecDepth 100000 in
set_option maxHeartbeats 4000000 in
theorem walk (x : ByteArray) (a1 a2 : Int) (w : World) (w0 : x.size ≤ maxLen) (w1 : (Lit.int .u8 a1).wf = true) (w2 : (Lit.int .u16 a2).wf = true) :
    Calls Try.prog 3 #[.string x, .int .u8 a1, .int .u16 a2] w fun e w' => e = .returned (.bool true) ∧ Below w.heap.size w w' := by
  by_cases hx : 2048 < x.size
  · have j1 : (2048 : Int) < (x.size : Int) := by omega
    clear w1 w2
    go_enter Try.func3, Try.ntmps3
    go_wp2_with fail
    (with_reducible refine (works16 _).mono ?_)
    rintro e w' ⟨rfl, hb⟩
    go_wp2
    go_ret
    exact ⟨rfl, hb⟩
  · have j1 : ¬ (2048 : Int) < (x.size : Int) := by omega
    have hx2 : x.size ≤ 2048 := by omega
    obtain ⟨u1, u2⟩ := bounds_u8 w1
    obtain ⟨v1, v2⟩ := bounds_u16 w2
    obtain ⟨sz, hsz⟩ : ∃ sz : Nat, a1 % 40 + 8 = (sz : Int) := ⟨(a1 % 40 + 8).toNat, by omega⟩
    have s1 : 8 ≤ sz ∧ sz ≤ 47 := by omega
    obtain ⟨n, hn⟩ : ∃ n : Nat, n = (x.size + sz - 1) / sz := ⟨_, rfl⟩
    have hnI : ((x.size : Int) + (sz : Int) - 1) / (sz : Int) = (n : Int) := by
      rw [hn, show (x.size : Int) + (sz : Int) - 1 = ((x.size + sz - 1 : Nat) : Int) by omega]
      exact (Int.natCast_ediv _ _).symm
    have n1 : n * sz ≤ x.size + sz - 1 := by rw [hn]; exact Nat.div_mul_le_self _ _
    have n2 : x.size ≤ n * sz := by
      have h1 := Nat.div_add_mod (x.size + sz - 1) sz
      have h2 := Nat.mod_lt (x.size + sz - 1) (show 0 < sz by omega)
      rw [← hn, Nat.mul_comm] at h1
      omega
    have n3 : n ≤ 2100 := by
      have : n * 8 ≤ n * sz := Nat.mul_le_mul_left _ s1.1
      omega
    obtain ⟨q, hq⟩ : ∃ q : Nat, 2 * a2 % 97 + 1 = (q : Int) := ⟨(2 * a2 % 97 + 1).toNat, by omega⟩
    have q1 : q ≤ 97 := by omega
    obtain ⟨tn, htn⟩ : ∃ t : Nat, a2 = (t : Int) := ⟨a2.toNat, by omega⟩
    subst htn
    have hnew := fun w => new_z 7 65536 7 65536 rfl rfl w (by decide) (by decide) (by decide)
    clear w0 w1 w2 hx hn
    have Hnew := Lib.hid hnew
    clear hnew
    have Hsz := Lib.hid hsz
    clear hsz
    have N1 := Lib.hid n1
    clear n1
    have N2 := Lib.hid n2
    clear n2
    have HnI := Lib.hid hnI
    clear hnI
    have Hq := Lib.hid hq
    clear hq
    have hszI := Hsz.out
    go_enter Try.func3, Try.ntmps3
    go_upto_region 3 with fail
    go_wp2_with fail
    (with_reducible refine (Hnew.out _).mono ?_)
    rintro e w1 ⟨b, bm, rv, pv, rfl, h1, hb1, hn1⟩
    have hst : WSt w x.data.toList b bm 0 0 w1 := ⟨rv, pv, newR 7 65536, h1, newR_ok (by decide) (by decide), newR_of _ _, rfl, Nat.zero_le _, Nat.le_refl _, hb1, fun i h => (hn1 i h).1⟩
    clear h1 hb1 hn1 Hnew
    have Hst := Lib.hid hst
    clear hst
    go_wp2_with fail
    have k1 : (0 : Int) ≤ (n : Int) := by omega
    have k2 : (n : Int) ≤ 2100 := by omega
    rw [HnI.out]
    go_loopw [11, 12, 13, 14, 15] (fun r i k a e wr => ∃ rr : Nat, r = .int .i64 (rr : Int) ∧ rr ≤ 70 ∧ WSt w x.data.toList b bm (rr * n) (pr x.size sz rr 0) wr) (fun r _ _ _ _ _ => 70 - (intOf r).toNat)
    case atStart => exact ⟨0, rfl, by omega, Hst.out.less (by omega) (by unfold pr; simp)⟩
    case round =>
      clear Hst
      obtain ⟨rr, rfl, hrr, hW⟩ := hrel
      obtain ⟨wo, rfl⟩ : ∃ wo : World, wo = wr := ⟨_, rfl⟩
      by_cases hr : rr < 70
      · have r1 : (rr : Int) < 70 := by omega
        have HW := Lib.hid hW
        clear hW
        go_wp2_with fail
        go_loopw [12, 13, 14, 15] (fun i k a e wr => ∃ ii : Nat, i = .int .i64 (ii : Int) ∧ ii ≤ n ∧ WSt w x.data.toList b bm (rr * n + ii) (pr x.size sz rr ii) wr) (fun i _ _ _ _ => n - (intOf i).toNat)
        case atStart => exact ⟨0, rfl, by omega, HW.out⟩
        case round =>
          clear HW
          obtain ⟨ii, rfl, hii, hV⟩ := hrel
          by_cases hi : ii < n
          · have i1 : (ii : Int) < (n : Int) := by omega
            have i2 : ¬ (n : Int) = 0 := by omega
            obtain ⟨m, hm⟩ : ∃ m : Nat, (ii : Int) * (q : Int) = (m : Int) := ⟨ii * q, by simp⟩
            have hm2 : m ≤ 203700 := by
              have : ii * q ≤ 2100 * 97 := Nat.mul_le_mul (by omega) q1
              have e : ((ii * q : Nat) : Int) = (m : Int) := by rw [← hm]; simp
              omega
            obtain ⟨k0, hk0⟩ : ∃ k : Nat, ((m : Int) + (tn : Int)) % (n : Int) = (k : Int) := ⟨(m + tn) % n, by simp⟩
            have hk0n : k0 < n := by
              have := Int.emod_lt_of_pos ((m : Int) + (tn : Int)) (show (0 : Int) < (n : Int) by omega)
              omega
            obtain ⟨k, hk, hkn⟩ : ∃ k : Nat, k = (if 60 < rr then ii else k0) ∧ k < n := ⟨_, rfl, by split <;> omega⟩
            obtain ⟨p1, p2⟩ := piece_of (len := x.size) N1.out (by omega) hkn
            obtain ⟨lo, hlo⟩ : ∃ lo, lo = k * sz := ⟨_, rfl⟩
            obtain ⟨h1, hh1⟩ : ∃ h, h = (k + 1) * sz := ⟨_, rfl⟩
            obtain ⟨hi', hhi⟩ : ∃ h, h = min h1 x.size := ⟨_, rfl⟩
            have hlo2 : lo ≤ hi' ∧ hi' ≤ x.size := by rw [hlo, hhi, hh1]; omega
            have e1 : (k : Int) * (sz : Int) = (lo : Int) := by rw [hlo]; simp
            have e2 : ((k : Int) + 1) * (sz : Int) = (h1 : Int) := by rw [hh1]; simp
            have e3 : min (h1 : Int) (x.size : Int) = (hi' : Int) := by omega
            have hh1b : h1 ≤ 200000 := by rw [hh1]; have : (k + 1) * sz ≤ 2100 * 47 := Nat.mul_le_mul (by omega) s1.2; omega
            have hput := hV.put (k := lo) (hi := hi') hx2 hlo2.1 hlo2.2 (by have : rr * n ≤ 70 * 2100 := Nat.mul_le_mul (by omega) n3; omega) (7 + (lo : Int)) (by omega) (x.extract lo hi') (Lib.extract_data x lo hi')
            have hlo3 : lo ≤ x.size := by omega
            clear hV
            have Hput := Lib.hid hput
            clear hput
            have Hk := Lib.hid hk
            clear hk
            have Hm := Lib.hid hm
            clear hm
            have Hk0 := Lib.hid hk0
            clear hk0
            have E1 := Lib.hid e1
            clear e1
            have E2 := Lib.hid e2
            clear e2
            have E3 := Lib.hid e3
            clear e3
            have Hlo := Lib.hid hlo
            clear hlo
            have Hhi := Lib.hid hhi
            clear hhi
            have Hh1 := Lib.hid hh1
            clear hh1
            by_cases h6 : 60 < rr
            · obtain rfl : k = ii := by rw [Hk.out, if_pos h6]
              have j6 : (60 : Int) < (rr : Int) := by omega
              have hnext : ∀ W, (lo ≤ pr x.size sz rr k → WSt w x.data.toList b bm (rr * n + k + 1) (max (pr x.size sz rr k) hi') W) → WSt w x.data.toList b bm (rr * n + (k + 1)) (pr x.size sz rr (k + 1)) W := by
                intro W hq2
                have hl := pr_low (len := x.size) (sz := sz) (i := k) h6 (by rw [← Hlo.out]; exact hlo3)
                have hs := pr_step (len := x.size) (sz := sz) (i := k) h6 (by rw [← Hlo.out]; exact hlo3)
                rw [← Hh1.out, ← Hhi.out] at hs
                exact (hq2 (by rw [Hlo.out]; exact hl)).less (by omega) hs
              have Hnext := Lib.hid hnext
              clear hnext
              have hm := Hm.out
              have hk0 := Hk0.out
              have e1 := E1.out
              have e2 := E2.out
              have e3 := E3.out
              have hq := Hq.out
              go_upto_region 15 with fail
              try rw [Hk0.out]
              go_upto_region 17 with fail
              go_wp2_with fail
              (with_reducible refine (Hput.out).mono ?_)
              rintro e W5 ⟨nn, rfl, q1, q2⟩
              have hnx := Hnext.out W5 q2
              clear q1 q2
              have Hnx := Lib.hid hnx
              clear hnx
              go_wp2_with fail
              go_roundw
              case rel => exact ⟨k + 1, by go_num, by omega, Hnx.out⟩
              case measure => simp [intOf]; omega
            · obtain rfl : k = k0 := by rw [Hk.out, if_neg h6]
              have j6 : ¬ (60 : Int) < (rr : Int) := by omega
              have hnext : ∀ W, WSt w x.data.toList b bm (rr * n + ii + 1) (pr x.size sz rr ii) W → WSt w x.data.toList b bm (rr * n + (ii + 1)) (pr x.size sz rr (ii + 1)) W := by
                intro W hq1
                exact hq1.less (by omega) (by rw [pr_free h6 (i := ii + 1) (j := ii)]; exact Nat.le_refl _)
              have Hnext := Lib.hid hnext
              clear hnext
              have hm := Hm.out
              have hk0 := Hk0.out
              have e1 := E1.out
              have e2 := E2.out
              have e3 := E3.out
              have hq := Hq.out
              go_upto_region 15 with fail
              try rw [Hk0.out]
              go_upto_region 17 with fail
              go_wp2_with fail
              (with_reducible refine (Hput.out).mono ?_)
              rintro e W5 ⟨nn, rfl, q1, q2⟩
              have hnx := Hnext.out W5 q1
              clear q1 q2
              have Hnx := Lib.hid hnx
              clear hnx
              go_wp2_with fail
              go_roundw
              case rel => exact ⟨ii + 1, by go_num, by omega, Hnx.out⟩
              case measure => simp [intOf]; omega
          · obtain rfl : n = ii := by omega
            have i1 : ¬ (n : Int) < (n : Int) := by omega
            have hend : WSt w x.data.toList b bm ((rr + 1) * n) (pr x.size sz (rr + 1) 0) wr := hV.less (by rw [Nat.add_mul]; omega) (pr_end N2.out)
            clear hV
            have Hend := Lib.hid hend
            clear hend
            go_wp2_with fail
            go_roundw
            case rel => exact ⟨rr + 1, by go_num, by omega, Hend.out⟩
            case measure => simp [intOf]; omega
      · obtain rfl : rr = 70 := by omega
        have r1 : ¬ ((70 : Nat) : Int) < 70 := by omega
        obtain ⟨rv, pv, s, h1, h2, h3, h4, h5, h6, h7, h8⟩ := hW
        have hall := all_there h2 h3 (by rw [show x.data.toList.length = x.size by simp]; have : pr x.size sz 70 0 = x.size := rfl; omega)
        have hrl : s.ready.length = x.size := by rw [hall.1]; simp
        have htk : (⟨(takeR s (x.size : Int)).2.toArray⟩ : ByteArray) = x := by
          unfold takeR
          split
          · have : x.size = 0 := by omega
            apply ByteArray.ext
            simp only
            exact (Array.eq_empty_of_size_eq_zero this).symm
          · simp only
            rw [hall.1, List.take_of_length_le (by simp)]
        have htake := take_r b bm rv pv s wo (x.size : Int) h1 (by omega)
        rw [htk] at htake
        have hpa : (takeR s (x.size : Int)).1.parts = [] := by rw [takeR_parts]; exact hall.2
        have hrd := ready_r b bm rv pv s wo h1
        rw [hrl] at hrd
        clear h1 hall htk
        have Htake := Lib.hid htake
        clear htake
        have Hrd := Lib.hid hrd
        clear hrd
        have Hpa := Lib.hid hpa
        clear hpa
        have H7 := Lib.hid h7
        clear h7
        have H8 := Lib.hid h8
        clear h8
        go_upto_region 20 with fail
        go_wp2_with fail
        (with_reducible refine (none_put _ _ _).mono ?_)
        rintro e w' ⟨rfl, rfl⟩
        go_wp2_with fail
        (with_reducible refine (none_take _ _).mono ?_)
        rintro e w' ⟨rfl, rfl⟩
        go_wp2_with fail
        (with_reducible refine (none_next _).mono ?_)
        rintro e w' ⟨rfl, rfl⟩
        go_wp2_with fail
        (with_reducible refine (none_ready _).mono ?_)
        rintro e w' ⟨rfl, rfl⟩
        go_wp2_with fail
        (with_reducible refine (none_window _).mono ?_)
        rintro e w' ⟨rfl, rfl⟩
        go_wp2_with fail
        (with_reducible refine (none_parts _).mono ?_)
        rintro e w' ⟨rfl, rfl⟩
        go_wp2_with fail
        (with_reducible refine (Hrd.out).mono ?_)
        rintro e w' ⟨rfl, rfl⟩
        go_wp2_with fail
        (with_reducible refine (Htake.out).mono ?_)
        rintro e w6 ⟨rv6, pv6, rfl, r1', r2, r3⟩
        obtain ⟨q1, q2⟩ := own_trans H7.out H8.out r2 r3
        have hpp := parts_r b bm rv6 pv6 _ w6 r1' (by rw [Hpa.out]; decide)
        rw [Hpa.out] at hpp
        clear r1' r2 r3 q2
        have Hpp := Lib.hid hpp
        clear hpp
        have Q1 := Lib.hid q1
        clear q1
        go_wp2_with fail
        (with_reducible refine (Hpp.out).mono ?_)
        rintro e w7 ⟨v7, rfl, ho7, hb7⟩
        obtain ⟨A7, c7, hv7, _, _⟩ := own_slice0 ho7
        subst hv7
        have hb8 := Q1.out.trans (hb7.mono Q1.out.size)
        clear ho7 hb7
        have Hb8 := Lib.hid hb8
        clear hb8
        go_wp2_with fail
        (with_reducible refine (works16 _).mono ?_)
        rintro e w9 ⟨rfl, hb9⟩
        have hb10 := Hb8.out.trans (hb9.mono Hb8.out.size)
        clear hb9
        have Hb10 := Lib.hid hb10
        clear hb10
        go_wp2
        go_ret
        exact ⟨rfl, Hb10.out⟩
theorem own : ownKnob Try.prog.godebug = none := by kernel_rfl
theorem laidOut : laidOutB Try.prog = true := by kernel_rfl
set_option maxRecDepth 100000 in
theorem lifted (os : Os) (started : os.Started) (H : Type) (enc : TypeId × Value → H) :
    ReturnsInHanded {} Try.checked os 3 .any (Rows.reasmWholeSpec.pre6 enc Try.prog Try.f3 Rows.reasmWholeRow.domain false) (Rows.reasmWholeSpec.post enc Try.prog Try.f3 false true false false) := by
  refine returnsInHanded_of_change_sized (C := Try.checked) own started (by kernel_rfl) Try.func3
    (ChangeSpec.witness6 (enc := enc) (C := Try.checked) false ⟨#[], #[.string ByteArray.empty, .int .u8 0, .int .u16 0], []⟩ 8 (by kernel_rfl) (by kernel_rfl) (by kernel_rfl) (by kernel_rfl)) ?_
  intro W base args ds gs before hval0 hW hcnd hsz0 _
  have hsz : (DataW.weightsEach Try.prog (Try.f3.params.toList ++ Rows.reasmWholeSpec.plain.varTypes Try.prog) (ds ++ gs)).all (· ≤ reachBytes) = true := hsz0
  have hval : ∀ (j : Nat) t v, Try.f3.params[j]? = some t → args[j]? = some v → Value.okWide Try.prog W .any base t v := hval0
  have hW' := hW
  obtain ⟨p, q, hA0, hV, rfl, hfz, hnd⟩ := hW
  have hA : DataW.TrodAll enc Try.prog W 0 (fun _ => true) true Try.f3.params.toList args.toList ds p := hA0
  rw [Try.params3] at hA hval
  obtain ⟨v0, vs0, d0, ds0, p0, q0, hargs, rfl, rfl, h0, r0⟩ := trodAll_cons hA
  obtain ⟨v1, vs1, d1, ds1, p1, q1, rfl, rfl, rfl, h1, r1⟩ := trodAll_cons r0
  obtain ⟨v2, vs2, d2, ds2, p2, q2, rfl, rfl, rfl, h2, r2⟩ := trodAll_cons r1
  obtain ⟨rfl, rfl, rfl⟩ := trodAll_nil r2
  obtain rfl : args = #[v0, v1, v2] := by cases args; simp_all
  obtain ⟨rfl, rfl⟩ := trodVars_none hV
  obtain ⟨a0, rfl, rfl, rfl, w0⟩ := open_string Try.underlying9 (hval 0 9 v0 rfl rfl) h0
  obtain ⟨a1, rfl, rfl, rfl, w1⟩ := open_int Try.underlying5 (hval 1 5 v1 rfl rfl) h1
  obtain ⟨a2, rfl, rfl, rfl, w2⟩ := open_int Try.underlying22 (hval 2 22 v2 rfl rfl) h2
  clear hA0 hval0
  refine (walk a0 a1 a2 W w0 w1 w2).mono fun e W' ⟨he, bel⟩ => ?_
  subst he
  exact ⟨_, rfl, _, _, _, [], _, [], hW', trodAll_mk1 (shut_bool Try.underlying4 _), (trodAll_cons_mk (shut_string Try.underlying9 w0) (trodAll_cons_mk (shut_int Try.underlying5 w1) (trodAll_cons_mk (shut_int Try.underlying22 w2) trodAll_mk0))), rfl, bel.frame _, fun h => by cases h⟩

theorem over : Rows.reasmWholeRow.holds Try.pinned (OpenSpec.ofChange Rows.reasmWholeSpec) :=
  OpenClaim.holds_of_wide 3 Try.f3 rfl rfl rfl rfl rfl rfl rfl ⟨rfl, rfl, rfl, rfl, rfl⟩ rfl rfl rfl rfl rfl (by kernel_rfl) Try.func3 (by kernel_rfl)
    (of_decide_eq_true (by kernel_rfl)) (by unfold Func.isWrapper; first | (rw [if_pos (by decide +kernel)]; kernel_rfl) | (rw [if_neg (by decide +kernel)]; exact ⟨rfl, rfl⟩))
    (fun os started H enc _ => lifted os started H enc)

/-- THE STATEMENT -/
theorem proved : Rows.ReasmWholeSaid := over
#print axioms proved
end Go.Proofs.Ytbiaphichaomaaa.reasmWhole
