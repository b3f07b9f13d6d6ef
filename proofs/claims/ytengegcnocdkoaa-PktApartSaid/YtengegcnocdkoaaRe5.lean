/- Contracts and plain lemmas: PktTurnedA. -/
import Derived.Test.YtengegcnocdkoaaRe4
set_option linter.unusedVariables false
set_option linter.unusedSimpArgs false
set_option linter.unusedSectionVars false
section
namespace Go.Proofs.Ytengegcnocdkoaa
open Go.RowKit Go.BigFrame
set_option maxRecDepth 100000 in
set_option maxHeartbeats 4000000 in
theorem turned_any (s0 s1 s2 s3 s4 s5 s6 s7 s8 s9 : Int) (s10 s12 : Bool) (A : Option Addr) (n c : Nat) (s13 s14 : Int) (s15 : ByteArray) (x0 x1 x2 x3 x4 x5 x6 x7 x8 x9 : Int) (l : List (Int × Int)) (w : World) (hl : n = l.length) (hrow : BRow w A l) (hn : n ≤ 1099511627776)
    (hw0 : 0 ≤ s7) (hw1 : s7 < 65536) :
    Calls Try.prog 23 #[.agg #[.int .u32 s0, .int .u16 s1, .int .u32 s2, .int .u16 s3, .int .u32 s4, .int .u32 s5, .int .u8 s6, .int .u16 s7, .int .u16 s8, .int .i64 s9, .bool s10, .slice A n c, .bool s12, .int .u32 s13, .int .u32 s14, .string s15], .agg #[.int .u32 x0, .int .u16 x1, .int .u32 x2, .int .u16 x3, .int .u32 x4, .int .u32 x5, .int .u32 x6, .int .u32 x7, .int .i64 x8, .int .i64 x9]] w (TurnedPost w (turnedC s4 s5 s6 s7 s8 s9 s10 s12 s13 s14 s15 x0 x1 x2 x3 x4 x5 x6 x7 x8 x9) (l.map (turnB x5))) := by
  have hb0 : Below w.heap.size w w := Below.refl _ _
  have HB := Lib.hid hb0
  have i1 : (n : Int) ≤ 1099511627776 := by omega
  have Hl := Lib.hid hl
  clear hl
  have Hrow := Lib.hid hrow
  clear hrow
  clear hb0
  go_enter Try.func23, Try.ntmps23
  go_upto_region 1 with fail
  have hs := Blk.alloc (Blk.alloc (Blk.new w 30 #[.int .u32 s0, .int .u16 s1, .int .u32 s2, .int .u16 s3, .int .u32 s4, .int .u32 s5, .int .u8 s6, .int .u16 s7, .int .u16 s8, .int .i64 s9, .bool s10, .slice A n c, .bool s12, .int .u32 s13, .int .u32 s14, .string s15]) (.cells #[.int .u32 x0, .int .u16 x1, .int .u32 x2, .int .u16 x3, .int .u32 x4, .int .u32 x5, .int .u32 x6, .int .u32 x7, .int .i64 x8, .int .i64 x9] 46)) (.cells #[.int .u32 0, .int .u16 0, .int .u32 0, .int .u16 0, .int .u32 0, .int .u32 0, .int .u8 0, .int .u16 0, .int .u16 0, .int .i64 0, .bool false, .slice none 0 0, .bool false, .int .u32 0, .int .u32 0, .string ⟨#[]⟩] 30)
  have hx := Blk.alloc (Blk.new (w.alloc (.cells #[.int .u32 s0, .int .u16 s1, .int .u32 s2, .int .u16 s3, .int .u32 s4, .int .u32 s5, .int .u8 s6, .int .u16 s7, .int .u16 s8, .int .i64 s9, .bool s10, .slice A n c, .bool s12, .int .u32 s13, .int .u32 s14, .string s15] 30)) 46 #[.int .u32 x0, .int .u16 x1, .int .u32 x2, .int .u16 x3, .int .u32 x4, .int .u32 x5, .int .u32 x6, .int .u32 x7, .int .i64 x8, .int .i64 x9]) (.cells #[.int .u32 0, .int .u16 0, .int .u32 0, .int .u16 0, .int .u32 0, .int .u32 0, .int .u8 0, .int .u16 0, .int .u16 0, .int .i64 0, .bool false, .slice none 0 0, .bool false, .int .u32 0, .int .u32 0, .string ⟨#[]⟩] 30)
  rw [show (w.alloc (.cells #[.int .u32 s0, .int .u16 s1, .int .u32 s2, .int .u16 s3, .int .u32 s4, .int .u32 s5, .int .u8 s6, .int .u16 s7, .int .u16 s8, .int .i64 s9, .bool s10, .slice A n c, .bool s12, .int .u32 s13, .int .u32 s14, .string s15] 30)).heap.size = w.heap.size + 1 by simp] at hx
  have hr := Blk.new ((w.alloc (.cells #[.int .u32 s0, .int .u16 s1, .int .u32 s2, .int .u16 s3, .int .u32 s4, .int .u32 s5, .int .u8 s6, .int .u16 s7, .int .u16 s8, .int .i64 s9, .bool s10, .slice A n c, .bool s12, .int .u32 s13, .int .u32 s14, .string s15] 30)).alloc (.cells #[.int .u32 x0, .int .u16 x1, .int .u32 x2, .int .u16 x3, .int .u32 x4, .int .u32 x5, .int .u32 x6, .int .u32 x7, .int .i64 x8, .int .i64 x9] 46)) 30 #[.int .u32 0, .int .u16 0, .int .u32 0, .int .u16 0, .int .u32 0, .int .u32 0, .int .u8 0, .int .u16 0, .int .u16 0, .int .i64 0, .bool false, .slice none 0 0, .bool false, .int .u32 0, .int .u32 0, .string ⟨#[]⟩]
  rw [show ((w.alloc (.cells #[.int .u32 s0, .int .u16 s1, .int .u32 s2, .int .u16 s3, .int .u32 s4, .int .u32 s5, .int .u8 s6, .int .u16 s7, .int .u16 s8, .int .i64 s9, .bool s10, .slice A n c, .bool s12, .int .u32 s13, .int .u32 s14, .string s15] 30)).alloc (.cells #[.int .u32 x0, .int .u16 x1, .int .u32 x2, .int .u16 x3, .int .u32 x4, .int .u32 x5, .int .u32 x6, .int .u32 x7, .int .i64 x8, .int .i64 x9] 46)).heap.size = w.heap.size + 2 by simp] at hr
  have hB := Below.alloc (Below.alloc (Below.alloc (HB.out) (Nat.le_trans HB.out.size (by simp <;> omega)) (.cells #[.int .u32 s0, .int .u16 s1, .int .u32 s2, .int .u16 s3, .int .u32 s4, .int .u32 s5, .int .u8 s6, .int .u16 s7, .int .u16 s8, .int .i64 s9, .bool s10, .slice A n c, .bool s12, .int .u32 s13, .int .u32 s14, .string s15] 30)) (Nat.le_trans HB.out.size (by simp <;> omega)) (.cells #[.int .u32 x0, .int .u16 x1, .int .u32 x2, .int .u16 x3, .int .u32 x4, .int .u32 x5, .int .u32 x6, .int .u32 x7, .int .i64 x8, .int .i64 x9] 46)) (Nat.le_trans HB.out.size (by simp <;> omega)) (.cells #[.int .u32 0, .int .u16 0, .int .u32 0, .int .u16 0, .int .u32 0, .int .u32 0, .int .u8 0, .int .u16 0, .int .u16 0, .int .i64 0, .bool false, .slice none 0 0, .bool false, .int .u32 0, .int .u32 0, .string ⟨#[]⟩] 30)
  clear HB
  obtain ⟨gr, hger⟩ : ∃ g, g = w.heap.size + 2 := ⟨_, rfl⟩
  rw [← hger] at hr ⊢
  obtain ⟨gx, hgex⟩ : ∃ g, g = w.heap.size + 1 := ⟨_, rfl⟩
  rw [← hgex] at hx ⊢
  obtain ⟨gs, hges⟩ : ∃ g, g = w.heap.size := ⟨_, rfl⟩
  rw [← hges] at hs ⊢
  have hne_s_x : gs ≠ gx := by omega
  have hne_s_r : gs ≠ gr := by omega
  have hne_x_r : gx ≠ gr := by omega
  have hle_s : w.heap.size ≤ gs := by omega
  have hle_x : w.heap.size ≤ gx := by omega
  have hle_r : w.heap.size ≤ gr := by omega
  clear hges hgex hger
  generalize ((w.alloc _).alloc _).alloc _ = wn1 at *
  have Hs := Lib.hid hs
  clear hs
  have Hx := Lib.hid hx
  clear hx
  have Hr := Lib.hid hr
  clear hr
  have HB := Lib.hid hB
  clear hB
  have c0 := Hs.out.cell 0
  have c1 := Hs.out.cell 1
  have c2 := Hs.out.cell 2
  have c3 := Hs.out.cell 3
  have c4 := Hs.out.cell 4
  have c5 := Hs.out.cell 5
  have c6 := Hs.out.cell 6
  have c7 := Hs.out.cell 7
  have c8 := Hs.out.cell 8
  have c9 := Hs.out.cell 9
  have c10 := Hs.out.cell 10
  have c11 := Hs.out.cell 11
  have c12 := Hs.out.cell 12
  have c13 := Hs.out.cell 13
  have c14 := Hs.out.cell 14
  have c15 := Hs.out.cell 15
  simp at c0 c1 c2 c3 c4 c5 c6 c7 c8 c9 c10 c11 c12 c13 c14 c15
  have d0 := Hx.out.cell 0
  have d1 := Hx.out.cell 1
  have d2 := Hx.out.cell 2
  have d3 := Hx.out.cell 3
  have d4 := Hx.out.cell 4
  have d5 := Hx.out.cell 5
  have d6 := Hx.out.cell 6
  have d7 := Hx.out.cell 7
  have d8 := Hx.out.cell 8
  have d9 := Hx.out.cell 9
  simp at d0 d1 d2 d3 d4 d5 d6 d7 d8 d9
  have fs := Hs.out.frozen
  go_region
  generalize hW1 : World.drew _ = W1
  have hs1 : Blk W1 gs 30 #[.int .u32 x0, .int .u16 x1, .int .u32 x2, .int .u16 x3, .int .u32 ((s4 + x4) % 4294967296), .int .u32 s5, .int .u8 s6, .int .u16 s7, .int .u16 s8, .int .i64 s9, .bool s10, .slice A n c, .bool s12, .int .u32 s13, .int .u32 s14, .string s15] := by
    rw [← hW1]
    have := Blk.drew (((((Hs.out.set_ 0 (.int .u32 x0)).set_ 1 (.int .u16 x1)).set_ 2 (.int .u32 x2)).set_ 3 (.int .u16 x3)).set_ 4 (.int .u32 ((s4 + x4) % 4294967296)))
    simpa using this
  have hx1 : Blk W1 gx 46 #[.int .u32 x0, .int .u16 x1, .int .u32 x2, .int .u16 x3, .int .u32 x4, .int .u32 x5, .int .u32 x6, .int .u32 x7, .int .i64 x8, .int .i64 x9] := by
    rw [← hW1]
    exact Blk.drew (Blk.far (Blk.far (Blk.far (Blk.far (Blk.far Hx.out (p := ⟨gs, 0, none⟩) (Ne.symm hne_s_x) _) (p := ⟨gs, 1, none⟩) (Ne.symm hne_s_x) _) (p := ⟨gs, 2, none⟩) (Ne.symm hne_s_x) _) (p := ⟨gs, 3, none⟩) (Ne.symm hne_s_x) _) (p := ⟨gs, 4, none⟩) (Ne.symm hne_s_x) _)
  have hr1 : Blk W1 gr 30 #[.int .u32 0, .int .u16 0, .int .u32 0, .int .u16 0, .int .u32 0, .int .u32 0, .int .u8 0, .int .u16 0, .int .u16 0, .int .i64 0, .bool false, .slice none 0 0, .bool false, .int .u32 0, .int .u32 0, .string ⟨#[]⟩] := by
    rw [← hW1]
    exact Blk.drew (Blk.far (Blk.far (Blk.far (Blk.far (Blk.far Hr.out (p := ⟨gs, 0, none⟩) (Ne.symm hne_s_r) _) (p := ⟨gs, 1, none⟩) (Ne.symm hne_s_r) _) (p := ⟨gs, 2, none⟩) (Ne.symm hne_s_r) _) (p := ⟨gs, 3, none⟩) (Ne.symm hne_s_r) _) (p := ⟨gs, 4, none⟩) (Ne.symm hne_s_r) _)
  have hB1 : Below w.heap.size w W1 := by
    rw [← hW1]
    exact Below.drew (((((HB.out.setCell (p := ⟨gs, 0, none⟩) hle_s _).setCell (p := ⟨gs, 1, none⟩) hle_s _).setCell (p := ⟨gs, 2, none⟩) hle_s _).setCell (p := ⟨gs, 3, none⟩) hle_s _).setCell (p := ⟨gs, 4, none⟩) hle_s _)
  clear c0 c1 c2 c3 c4 c5 c6 c7 c8 c9 c10 c11 c12 c13 c14 c15
  clear d0 d1 d2 d3 d4 d5 d6 d7 d8 d9
  clear fs hW1 HB
  have c6 := hs1.cell 6
  simp at c6
  obtain ⟨a5, ha5⟩ : ∃ a, a = (if (bits .and .u8 s6 16 != 0) = true then (s5 + x5) % 4294967296 else s5) := ⟨_, rfl⟩
  have c5 := hs1.cell 5
  have d5 := hx1.cell 5
  simp at c5 d5
  have f5 := hs1.frozen 5
  have Ha5 := Lib.hid ha5
  clear ha5
  have Hs1 := Lib.hid hs1
  clear hs1
  have Hx1 := Lib.hid hx1
  clear hx1
  have Hr1 := Lib.hid hr1
  clear hr1
  have HB1 := Lib.hid hB1
  clear hB1
  go_upto_if 23 with fail
  generalize hak : (bits .and .u8 s6 16 != 0) = ak
  have Hak := Lib.hid hak
  clear hak c6
  go_cut [24] from 24 to 29 (fun d wx => Blk wx gs 30 #[.int .u32 x0, .int .u16 x1, .int .u32 x2, .int .u16 x3, .int .u32 ((s4 + x4) % 4294967296), .int .u32 a5, .int .u8 s6, .int .u16 s7, .int .u16 s8, .int .i64 s9, .bool s10, .slice A n c, .bool s12, .int .u32 s13, .int .u32 s14, .string s15] ∧ Blk wx gx 46 #[.int .u32 x0, .int .u16 x1, .int .u32 x2, .int .u16 x3, .int .u32 x4, .int .u32 x5, .int .u32 x6, .int .u32 x7, .int .i64 x8, .int .i64 x9] ∧ Blk wx gr 30 #[.int .u32 0, .int .u16 0, .int .u32 0, .int .u16 0, .int .u32 0, .int .u32 0, .int .u8 0, .int .u16 0, .int .u16 0, .int .i64 0, .bool false, .slice none 0 0, .bool false, .int .u32 0, .int .u32 0, .string ⟨#[]⟩] ∧ Below w.heap.size w wx)
  case first =>
    cases ak with
    | false =>
      have e5 : a5 = s5 := by rw [Ha5.out, Hak.out]; rfl
      have hs2 := Hs1.out
      rw [← e5] at hs2
      have Hs2 := Lib.hid hs2
      clear hs2
      clear e5
      go_wp2_with fail
      go_meet
      case rel => exact ⟨Hs2.out, Hx1.out, Hr1.out, HB1.out⟩
    | true =>
      have e5 : a5 = (s5 + x5) % 4294967296 := by rw [Ha5.out, Hak.out]; rfl
      have hs2 : Blk (W1.setCell ⟨gs, 5, none⟩ (.int .u32 ((s5 + x5) % 4294967296))) gs 30 #[.int .u32 x0, .int .u16 x1, .int .u32 x2, .int .u16 x3, .int .u32 ((s4 + x4) % 4294967296), .int .u32 a5, .int .u8 s6, .int .u16 s7, .int .u16 s8, .int .i64 s9, .bool s10, .slice A n c, .bool s12, .int .u32 s13, .int .u32 s14, .string s15] := by
        have := Hs1.out.set_ 5 (.int .u32 ((s5 + x5) % 4294967296))
        rw [e5]
        simpa using this
      have hx2 := Hx1.out.far (p := ⟨gs, 5, none⟩) (Ne.symm hne_s_x) (.int .u32 ((s5 + x5) % 4294967296))
      have hr2 := Hr1.out.far (p := ⟨gs, 5, none⟩) (Ne.symm hne_s_r) (.int .u32 ((s5 + x5) % 4294967296))
      have hB2 := HB1.out.setCell (p := ⟨gs, 5, none⟩) hle_s (.int .u32 ((s5 + x5) % 4294967296))
      have Hs2 := Lib.hid hs2
      clear hs2
      have Hx2 := Lib.hid hx2
      clear hx2
      have Hr2 := Lib.hid hr2
      clear hr2
      have HB2 := Lib.hid hB2
      clear hB2
      clear e5
      go_wp2_with fail
      go_meet
      case rel => exact ⟨Hs2.out, Hx2.out, Hr2.out, HB2.out⟩
  case rest =>
    obtain ⟨hs2, hx2, hr2, hB2⟩ := hcut
    clear c5 d5 f5 Hs1 Hx1 Hr1 HB1
    generalize hWc : wc = W2 at *
    clear hWc
    -- the blocks
    have hlt0 := Hr.out.lt
    have c11 := hs2.cell 11
    simp at c11
    have hrow0 : W2.ownsRow w.heap.size 92 2 (.slice none 0 0) 0 [] := World.ownsRow_nil _ _ _ _
    have Hs2 := Lib.hid hs2
    clear hs2
    have Hx2 := Lib.hid hx2
    clear hx2
    have Hr2 := Lib.hid hr2
    clear hr2
    have HB2 := Lib.hid hB2
    clear hB2
    have Hrow0 := Lib.hid hrow0
    clear hrow0
    clear Hr
    go_wp2_with fail
    go_loopw [5, 34] (fun v i wr => ∃ k : Nat, i = .int .i64 (k : Int) ∧ k ≤ n ∧ (k = 0 → v = .slice none 0 0) ∧ OwnB w v ((l.take k).map (turnB x5)) wr ∧ Blk wr gs 30 #[.int .u32 x0, .int .u16 x1, .int .u32 x2, .int .u16 x3, .int .u32 ((s4 + x4) % 4294967296), .int .u32 a5, .int .u8 s6, .int .u16 s7, .int .u16 s8, .int .i64 s9, .bool s10, .slice A n c, .bool s12, .int .u32 s13, .int .u32 s14, .string s15] ∧ Blk wr gx 46 #[.int .u32 x0, .int .u16 x1, .int .u32 x2, .int .u16 x3, .int .u32 x4, .int .u32 x5, .int .u32 x6, .int .u32 x7, .int .i64 x8, .int .i64 x9] ∧ Blk wr gr 30 #[.int .u32 0, .int .u16 0, .int .u32 0, .int .u16 0, .int .u32 0, .int .u32 0, .int .u8 0, .int .u16 0, .int .u16 0, .int .i64 0, .bool false, .slice none 0 0, .bool false, .int .u32 0, .int .u32 0, .string ⟨#[]⟩] ∧ Below w.heap.size w wr) (fun _ i _ => n - (intOf i).toNat)
    case atStart => exact ⟨0, rfl, Nat.zero_le _, fun _ => rfl, by rw [List.take_zero]; exact Hrow0.out, Hs2.out, Hx2.out, Hr2.out, HB2.out⟩
    case round =>
      clear Hrow0 Hs2 Hx2 Hr2 HB2
      obtain ⟨k, rfl, hkn, hz, hown, hs3, hx3, hr3, hB3⟩ := hrel
      have hml : ((l.take k).map (turnB x5)).length = k := by rw [List.length_map, List.length_take, ← Hl.out]; omega
      unfold OwnB at hown
      rw [hml] at hown
      obtain ⟨A0, c0, hv, _⟩ := own_slice hown
      subst hv
      have hz2 : k = 0 → A0 = none ∧ c0 = 0 := fun h => by have := hz h; injection this with h1 h2 h3; exact ⟨h1, h3⟩
      clear hz
      have Hz2 := Lib.hid hz2
      clear hz2
      by_cases hk : k < n
      · obtain ⟨i0, hi, h0, h1, h2⟩ := info_parts infoB
        have j1 : (k : Int) < (n : Int) := by omega
        have hkl : k < l.length := by rw [← Hl.out]; exact hk
        obtain ⟨p1, p2, hp⟩ : ∃ p1 p2, l[k]? = some (p1, p2) := ⟨l[k].1, l[k].2, by rw [List.getElem?_eq_getElem hkl]⟩
        rcases Hrow.out.below hB3 with h | ⟨rb, off, hA, hrb, hcc⟩
        · rw [h] at hkl; simp at hkl
        subst hA
        obtain ⟨e0, e1⟩ := hcc k (p1, p2) hp
        simp only at e0 e1
        have hgx := hx3.lt
        have d5 := hx3.cell 5
        simp at d5
        have hnew : (l.take (k + 1)).map (turnB x5) = (l.take k).map (turnB x5) ++ [turnB x5 (p1, p2)] := by
          rw [List.take_add_one, hp, List.map_append]
          rfl
        have hown2 := (hown.alloc (.cells #[.int .u32 p1, .int .u32 p2] 92)).alloc (.cells #[.int .u32 ((p1 + x5) % 4294967296), .int .u32 ((p2 + x5) % 4294967296)] 92)
        have hrd : Reads ((wr.alloc (.cells #[.int .u32 p1, .int .u32 p2] 92)).alloc (.cells #[.int .u32 ((p1 + x5) % 4294967296), .int .u32 ((p2 + x5) % 4294967296)] 92)) (wr.heap.size + 2) 2 (some ⟨wr.heap.size + 1, 0, none⟩) 1 [.int .u32 ((p1 + x5) % 4294967296), .int .u32 ((p2 + x5) % 4294967296)] := reads_two (blk_newB _ _ _ _) (by omega)
        have hpost : ∀ v' w', w'.ownsRow w.heap.size 92 2 v' (k + 1) (((l.take k).map (turnB x5)).flatMap blkCells ++ [.int .u32 ((p1 + x5) % 4294967296), .int .u32 ((p2 + x5) % 4294967296)]) → ((wr.alloc (.cells #[.int .u32 p1, .int .u32 p2] 92)).alloc (.cells #[.int .u32 ((p1 + x5) % 4294967296), .int .u32 ((p2 + x5) % 4294967296)] 92)).grownBy w' (Value.slice A0 k c0).ownBlock →
            OwnB w v' ((l.take (k + 1)).map (turnB x5)) w' ∧ Blk w' gs 30 #[.int .u32 x0, .int .u16 x1, .int .u32 x2, .int .u16 x3, .int .u32 ((s4 + x4) % 4294967296), .int .u32 a5, .int .u8 s6, .int .u16 s7, .int .u16 s8, .int .i64 s9, .bool s10, .slice (some ⟨rb, off, none⟩) n c, .bool s12, .int .u32 s13, .int .u32 s14, .string s15] ∧ Blk w' gx 46 #[.int .u32 x0, .int .u16 x1, .int .u32 x2, .int .u16 x3, .int .u32 x4, .int .u32 x5, .int .u32 x6, .int .u32 x7, .int .i64 x8, .int .i64 x9] ∧ Blk w' gr 30 #[.int .u32 0, .int .u16 0, .int .u32 0, .int .u16 0, .int .u32 0, .int .u32 0, .int .u8 0, .int .u16 0, .int .u16 0, .int .i64 0, .bool false, .slice none 0 0, .bool false, .int .u32 0, .int .u32 0, .string ⟨#[]⟩] ∧ Below w.heap.size w w' := by
          intro v' w' ho hg
          have t1 := own_blk_ne hown hs3 (by decide)
          have t2 := own_blk_ne hown hx3 (by decide)
          have t3 := own_blk_ne hown hr3 (by decide)
          refine ⟨?_, ((hs3.alloc _).alloc _).grown hg (fun e => t1 e.symm), ((hx3.alloc _).alloc _).grown hg (fun e => t2 e.symm), ((hr3.alloc _).alloc _).grown hg (fun e => t3 e.symm), ((hB3.alloc hB3.size _).alloc (Nat.le_trans hB3.size (by simp)) _).grown hg (Nat.le_trans hB3.size (by simp <;> omega)) (fun q hq => (hown.lt q hq).1)⟩
          unfold OwnB
          rw [hnew, List.flatMap_append, List.length_append, hml]
          exact ho
        have hsz : w.heap.size ≤ wr.heap.size + 2 := Nat.le_trans hB3.size (by omega)
        have Hi := Lib.hid hi
        clear hi
        have H0 := Lib.hid h0
        clear h0
        have H1 := Lib.hid h1
        clear h1
        have H2 := Lib.hid h2
        clear h2
        have Hown2 := Lib.hid hown2
        clear hown2
        have Hrd := Lib.hid hrd
        clear hrd
        have Hpost := Lib.hid hpost
        clear hpost
        have Hsz := Lib.hid hsz
        clear hsz
        clear hown hs3 hx3 hr3 hB3 hnew hml hkl hp hcc
        go_wp2_with (at_builtin; refine wpList_append_any _ rfl _ _ _ rfl w.heap.size 92 i0 _ 2 8 Try.underlying26 Hi.out H0.out H1.out H2.out rfl (by decide) _ k _ rfl Hown2.out _ _ 1 1 _ rfl Hrd.out (by intro u hu; simp at hu; rcases hu with rfl | rfl <;> rfl) (by simp only [maxLen]; omega) (by omega) (by simp; exact Hsz.out) ?_; intro v1 w1 hown1 hg1 hat1; have hp1 := Hpost.out v1 w1 hown1 hg1; have Hp1 := Lib.hid hp1; clear hown1 hg1 hat1 hp1)
        go_roundw
        case rel => exact ⟨k + 1, by go_num, by omega, fun h => absurd h (Nat.succ_ne_zero k), Hp1.out⟩
        case measure => simp [intOf]; omega
      · have hke : k = n := by omega
        have hlk : l.take k = l := List.take_of_length_le (by rw [← Hl.out]; omega)
        rw [hlk] at hown
        have j1 : (n : Int) ≤ (k : Int) := by omega
        have f11 := hs3.frozen 11
        have c11 := hs3.cell 11
        have c12 := hs3.cell 12
        simp at c11 c12
        have t1 := own_blk_ne hown hs3 (by decide)
        have Hke := Lib.hid hke
        clear hke
        go_upto_if 58 with fail
        have hs4 : Blk (wr.setCell ⟨gs, 11, none⟩ (.slice A0 k c0)) gs 30 #[.int .u32 x0, .int .u16 x1, .int .u32 x2, .int .u16 x3, .int .u32 ((s4 + x4) % 4294967296), .int .u32 a5, .int .u8 s6, .int .u16 s7, .int .u16 s8, .int .i64 s9, .bool s10, .slice A0 k c0, .bool s12, .int .u32 s13, .int .u32 s14, .string s15] := by
          have := hs3.set_ 11 (.slice A0 k c0)
          simpa using this
        have hx4 := hx3.far (p := ⟨gs, 11, none⟩) (Ne.symm hne_s_x) (.slice A0 k c0)
        have hr4 := hr3.far (p := ⟨gs, 11, none⟩) (Ne.symm hne_s_r) (.slice A0 k c0)
        have hB4 := hB3.setCell (p := ⟨gs, 11, none⟩) hle_s (.slice A0 k c0)
        have ho4 := hown.kept (only_set (World.grownBy.refl wr (some gs)) 11 (.slice A0 k c0)) (.inr t1)
        clear hs3 hx3 hr3 hB3 hown c11 c12 f11 hml hlk hk t1
        generalize wr.setCell _ _ = W4 at *
        obtain ⟨v13, e13⟩ : ∃ v, v = (if s12 = true then (s13 + x6) % 4294967296 else s13) := ⟨_, rfl⟩
        obtain ⟨v14, e14⟩ : ∃ v, v = (if s12 = true then (s14 + x7) % 4294967296 else s14) := ⟨_, rfl⟩
        have E13 := Lib.hid e13
        clear e13
        have E14 := Lib.hid e14
        clear e14
        have Hs4 := Lib.hid hs4
        clear hs4
        have Hx4 := Lib.hid hx4
        clear hx4
        have Hr4 := Lib.hid hr4
        clear hr4
        have HB4 := Lib.hid hB4
        clear hB4
        have Ho4 := Lib.hid ho4
        clear ho4
        go_cut [59] from 59 to 74 (fun d wx => Blk wx gs 30 #[.int .u32 x0, .int .u16 x1, .int .u32 x2, .int .u16 x3, .int .u32 ((s4 + x4) % 4294967296), .int .u32 a5, .int .u8 s6, .int .u16 s7, .int .u16 s8, .int .i64 s9, .bool s10, .slice A0 k c0, .bool s12, .int .u32 v13, .int .u32 v14, .string s15] ∧ Blk wx gx 46 #[.int .u32 x0, .int .u16 x1, .int .u32 x2, .int .u16 x3, .int .u32 x4, .int .u32 x5, .int .u32 x6, .int .u32 x7, .int .i64 x8, .int .i64 x9] ∧ Blk wx gr 30 #[.int .u32 0, .int .u16 0, .int .u32 0, .int .u16 0, .int .u32 0, .int .u32 0, .int .u8 0, .int .u16 0, .int .u16 0, .int .i64 0, .bool false, .slice none 0 0, .bool false, .int .u32 0, .int .u32 0, .string ⟨#[]⟩] ∧ wx.ownsRow w.heap.size 92 2 (.slice A0 k c0) k ((l.map (turnB x5)).flatMap blkCells) ∧ Below w.heap.size w wx)
        case first =>
          cases s12 with
          | false =>
            have e1 : v13 = s13 := E13.out
            have e2 : v14 = s14 := E14.out
            have hs5 := Hs4.out
            rw [← e1, ← e2] at hs5
            have Hs5 := Lib.hid hs5
            clear hs5
            clear e1 e2
            go_wp2_with fail
            go_meet
            case rel => exact ⟨Hs5.out, Hx4.out, Hr4.out, Ho4.out, HB4.out⟩
          | true =>
            have e1 : v13 = (s13 + x6) % 4294967296 := E13.out
            have e2 : v14 = (s14 + x7) % 4294967296 := E14.out
            have hs4 := Hs4.out
            have hx4 := Hx4.out
            have hr4 := Hr4.out
            have hB4 := HB4.out
            have ho4 := Ho4.out
            have c13 := hs4.cell 13
            have c14 := hs4.cell 14
            have d6 := hx4.cell 6
            have d7 := hx4.cell 7
            simp at c13 c14 d6 d7
            have fs := hs4.frozen
            have E1 := Lib.hid e1
            have E2 := Lib.hid e2
            clear e1 e2
            go_upto_region 12 with fail
            go_region
            generalize hW5 : World.drew _ = W5
            have hs5 : Blk W5 gs 30 #[.int .u32 x0, .int .u16 x1, .int .u32 x2, .int .u16 x3, .int .u32 ((s4 + x4) % 4294967296), .int .u32 a5, .int .u8 s6, .int .u16 s7, .int .u16 s8, .int .i64 s9, .bool s10, .slice A0 k c0, .bool true, .int .u32 ((s13 + x6) % 4294967296), .int .u32 ((s14 + x7) % 4294967296), .string s15] := by
              rw [← hW5]
              have := Blk.drew ((hs4.set_ 13 (.int .u32 ((s13 + x6) % 4294967296))).set_ 14 (.int .u32 ((s14 + x7) % 4294967296)))
              simpa using this
            have hx5 : Blk W5 gx 46 #[.int .u32 x0, .int .u16 x1, .int .u32 x2, .int .u16 x3, .int .u32 x4, .int .u32 x5, .int .u32 x6, .int .u32 x7, .int .i64 x8, .int .i64 x9] := by
              rw [← hW5]
              exact Blk.drew (Blk.far (Blk.far hx4 (p := ⟨gs, 13, none⟩) (Ne.symm hne_s_x) _) (p := ⟨gs, 14, none⟩) (Ne.symm hne_s_x) _)
            have hr5 : Blk W5 gr 30 #[.int .u32 0, .int .u16 0, .int .u32 0, .int .u16 0, .int .u32 0, .int .u32 0, .int .u8 0, .int .u16 0, .int .u16 0, .int .i64 0, .bool false, .slice none 0 0, .bool false, .int .u32 0, .int .u32 0, .string ⟨#[]⟩] := by
              rw [← hW5]
              exact Blk.drew (Blk.far (Blk.far hr4 (p := ⟨gs, 13, none⟩) (Ne.symm hne_s_r) _) (p := ⟨gs, 14, none⟩) (Ne.symm hne_s_r) _)
            have hg5 : W4.grownBy W5 (some gs) := by
              rw [← hW5]
              exact only_drew (only_set (only_set (World.grownBy.refl W4 _) 13 _) 14 _)
            have ho5 := ho4.kept hg5 (.inr (own_blk_ne ho4 hs4 (by decide)))
            have hB5 := below_only hB4 hg5 hle_s hB4.size
            rw [← E1.out, ← E2.out] at hs5
            have Hs5 := Lib.hid hs5
            clear hs5
            have Hx5 := Lib.hid hx5
            clear hx5
            have Hr5 := Lib.hid hr5
            clear hr5
            have Ho5 := Lib.hid ho5
            clear ho5
            have HB5 := Lib.hid hB5
            clear hB5
            clear hW5 hs4 hx4 hr4 hB4 ho4 hg5 c13 c14 d6 d7 fs
            go_wp2_with fail
            go_meet
            case rel => exact ⟨Hs5.out, Hx5.out, Hr5.out, Ho5.out, HB5.out⟩
        case rest =>
          obtain ⟨hs5, hx5, hr5, ho5, hB5⟩ := hcut
          generalize hWc : wc = W5 at *
          clear hWc Hs4 Hx4 Hr4 HB4 Ho4
          go_upto_region 13 with fail
          have hTri : TriS w gs gx gr #[.int .u32 x0, .int .u16 x1, .int .u32 x2, .int .u16 x3, .int .u32 ((s4 + x4) % 4294967296), .int .u32 a5, .int .u8 s6, .int .u16 s7, .int .u16 s8, .int .i64 s9, .bool s10, .slice A0 k c0, .bool s12, .int .u32 v13, .int .u32 v14, .string s15] #[.int .u32 x0, .int .u16 x1, .int .u32 x2, .int .u16 x3, .int .u32 x4, .int .u32 x5, .int .u32 x6, .int .u32 x7, .int .i64 x8, .int .i64 x9] #[.int .u32 0, .int .u16 0, .int .u32 0, .int .u16 0, .int .u32 0, .int .u32 0, .int .u8 0, .int .u16 0, .int .u16 0, .int .i64 0, .bool false, .slice none 0 0, .bool false, .int .u32 0, .int .u32 0, .string ⟨#[]⟩] (.slice A0 k c0) k ((l.map (turnB x5)).flatMap blkCells) W5 := ⟨hs5, hx5, hr5, ho5, hB5⟩
          have ne : Nonempty (Cls (TriS w gs gx gr #[.int .u32 x0, .int .u16 x1, .int .u32 x2, .int .u16 x3, .int .u32 ((s4 + x4) % 4294967296), .int .u32 a5, .int .u8 s6, .int .u16 s7, .int .u16 s8, .int .i64 s9, .bool s10, .slice A0 k c0, .bool s12, .int .u32 v13, .int .u32 v14, .string s15] #[.int .u32 x0, .int .u16 x1, .int .u32 x2, .int .u16 x3, .int .u32 x4, .int .u32 x5, .int .u32 x6, .int .u32 x7, .int .i64 x8, .int .i64 x9] #[.int .u32 0, .int .u16 0, .int .u32 0, .int .u16 0, .int .u32 0, .int .u32 0, .int .u8 0, .int .u16 0, .int .u16 0, .int .i64 0, .bool false, .slice none 0 0, .bool false, .int .u32 0, .int .u32 0, .string ⟨#[]⟩] (.slice A0 k c0) k ((l.map (turnB x5)).flatMap blkCells))) := ⟨⟨W5, hTri⟩⟩
          have q7 : ∀ y : Cls (TriS w gs gx gr #[.int .u32 x0, .int .u16 x1, .int .u32 x2, .int .u16 x3, .int .u32 ((s4 + x4) % 4294967296), .int .u32 a5, .int .u8 s6, .int .u16 s7, .int .u16 s8, .int .i64 s9, .bool s10, .slice A0 k c0, .bool s12, .int .u32 v13, .int .u32 v14, .string s15] #[.int .u32 x0, .int .u16 x1, .int .u32 x2, .int .u16 x3, .int .u32 x4, .int .u32 x5, .int .u32 x6, .int .u32 x7, .int .i64 x8, .int .i64 x9] #[.int .u32 0, .int .u16 0, .int .u32 0, .int .u16 0, .int .u32 0, .int .u32 0, .int .u8 0, .int .u16 0, .int .u16 0, .int .i64 0, .bool false, .slice none 0 0, .bool false, .int .u32 0, .int .u32 0, .string ⟨#[]⟩] (.slice A0 k c0) k ((l.map (turnB x5)).flatMap blkCells)), y.w.cell? ⟨gs, 7, none⟩ = some (.int .u16 s7) := fun y => y.h.1.cell 7
          have q8 : ∀ y : Cls (TriS w gs gx gr #[.int .u32 x0, .int .u16 x1, .int .u32 x2, .int .u16 x3, .int .u32 ((s4 + x4) % 4294967296), .int .u32 a5, .int .u8 s6, .int .u16 s7, .int .u16 s8, .int .i64 s9, .bool s10, .slice A0 k c0, .bool s12, .int .u32 v13, .int .u32 v14, .string s15] #[.int .u32 x0, .int .u16 x1, .int .u32 x2, .int .u16 x3, .int .u32 x4, .int .u32 x5, .int .u32 x6, .int .u32 x7, .int .i64 x8, .int .i64 x9] #[.int .u32 0, .int .u16 0, .int .u32 0, .int .u16 0, .int .u32 0, .int .u32 0, .int .u8 0, .int .u16 0, .int .u16 0, .int .i64 0, .bool false, .slice none 0 0, .bool false, .int .u32 0, .int .u32 0, .string ⟨#[]⟩] (.slice A0 k c0) k ((l.map (turnB x5)).flatMap blkCells)), y.w.cell? ⟨gx, 8, none⟩ = some (.int .i64 x8) := fun y => y.h.2.1.cell 8
          have q9 : ∀ y : Cls (TriS w gs gx gr #[.int .u32 x0, .int .u16 x1, .int .u32 x2, .int .u16 x3, .int .u32 ((s4 + x4) % 4294967296), .int .u32 a5, .int .u8 s6, .int .u16 s7, .int .u16 s8, .int .i64 s9, .bool s10, .slice A0 k c0, .bool s12, .int .u32 v13, .int .u32 v14, .string s15] #[.int .u32 x0, .int .u16 x1, .int .u32 x2, .int .u16 x3, .int .u32 x4, .int .u32 x5, .int .u32 x6, .int .u32 x7, .int .i64 x8, .int .i64 x9] #[.int .u32 0, .int .u16 0, .int .u32 0, .int .u16 0, .int .u32 0, .int .u32 0, .int .u8 0, .int .u16 0, .int .u16 0, .int .i64 0, .bool false, .slice none 0 0, .bool false, .int .u32 0, .int .u32 0, .string ⟨#[]⟩] (.slice A0 k c0) k ((l.map (turnB x5)).flatMap blkCells)), y.w.cell? ⟨gx, 9, none⟩ = some (.int .i64 x9) := fun y => y.h.2.1.cell 9
          have m1 := fun (y : Cls (TriS w gs gx gr #[.int .u32 x0, .int .u16 x1, .int .u32 x2, .int .u16 x3, .int .u32 ((s4 + x4) % 4294967296), .int .u32 a5, .int .u8 s6, .int .u16 s7, .int .u16 s8, .int .i64 s9, .bool s10, .slice A0 k c0, .bool s12, .int .u32 v13, .int .u32 v14, .string s15] #[.int .u32 x0, .int .u16 x1, .int .u32 x2, .int .u16 x3, .int .u32 x4, .int .u32 x5, .int .u32 x6, .int .u32 x7, .int .i64 x8, .int .i64 x9] #[.int .u32 0, .int .u16 0, .int .u32 0, .int .u16 0, .int .u32 0, .int .u32 0, .int .u8 0, .int .u16 0, .int .u16 0, .int .i64 0, .bool false, .slice none 0 0, .bool false, .int .u32 0, .int .u32 0, .string ⟨#[]⟩] (.slice A0 k c0) k ((l.map (turnB x5)).flatMap blkCells))) => scale_any x8 y.w
          have m2 := fun (y : Cls (TriS w gs gx gr #[.int .u32 x0, .int .u16 x1, .int .u32 x2, .int .u16 x3, .int .u32 ((s4 + x4) % 4294967296), .int .u32 a5, .int .u8 s6, .int .u16 s7, .int .u16 s8, .int .i64 s9, .bool s10, .slice A0 k c0, .bool s12, .int .u32 v13, .int .u32 v14, .string s15] #[.int .u32 x0, .int .u16 x1, .int .u32 x2, .int .u16 x3, .int .u32 x4, .int .u32 x5, .int .u32 x6, .int .u32 x7, .int .i64 x8, .int .i64 x9] #[.int .u32 0, .int .u16 0, .int .u32 0, .int .u16 0, .int .u32 0, .int .u32 0, .int .u8 0, .int .u16 0, .int .u16 0, .int .i64 0, .bool false, .slice none 0 0, .bool false, .int .u32 0, .int .u32 0, .string ⟨#[]⟩] (.slice A0 k c0) k ((l.map (turnB x5)).flatMap blkCells))) => scale_any x9 y.w
          have u14 := scN_le x8
          have v14' := scN_le x9
          obtain ⟨u, hu⟩ : ∃ u, u = scN x8 := ⟨_, rfl⟩
          obtain ⟨v, hv⟩ : ∃ u, u = scN x9 := ⟨_, rfl⟩
          rw [← hu] at m1 u14
          rw [← hv] at m2 v14'
          have cf : ∀ (vals : Array Value) (w : World), (callFunc 56 vals).run Try.prog w = .ok (.enter 56 vals) w := fun _ _ => by kernel_rfl
          have b1 : (u : Int) ≤ 14 := by omega
          have b2 : (v : Int) ≤ 14 := by omega
          have b3 : (0 : Int) ≤ (u : Int) := by omega
          have b4 : (0 : Int) ≤ (v : Int) := by omega
          have M1 := Lib.hid m1
          clear m1
          have M2 := Lib.hid m2
          clear m2
          have Cf := Lib.hid cf
          clear cf
          have Hu := Lib.hid hu
          clear hu
          have Hv := Lib.hid hv
          clear hv
          clear hs5 hx5 hr5 ho5 hB5
          refine wp_region_flat1 14 (TriS w gs gx gr #[.int .u32 x0, .int .u16 x1, .int .u32 x2, .int .u16 x3, .int .u32 ((s4 + x4) % 4294967296), .int .u32 a5, .int .u8 s6, .int .u16 s7, .int .u16 s8, .int .i64 s9, .bool s10, .slice A0 k c0, .bool s12, .int .u32 v13, .int .u32 v14, .string s15] #[.int .u32 x0, .int .u16 x1, .int .u32 x2, .int .u16 x3, .int .u32 x4, .int .u32 x5, .int .u32 x6, .int .u32 x7, .int .i64 x8, .int .i64 x9] #[.int .u32 0, .int .u16 0, .int .u32 0, .int .u16 0, .int .u32 0, .int .u32 0, .int .u8 0, .int .u16 0, .int .u16 0, .int .i64 0, .bool false, .slice none 0 0, .bool false, .int .u32 0, .int .u32 0, .string ⟨#[]⟩] (.slice A0 k c0) k ((l.map (turnB x5)).flatMap blkCells)) (fun w w' => Below w.heap.size w w') (by kernel_rfl) (by kernel_rfl) (by kernel_rfl) (fun w => Below.refl _ _) (TriS.below _ _ hTri (Below.drew (Below.refl _ _))) ?_
          simp only [List.take_succ_cons, List.take_zero, List.drop_succ_cons, List.drop_zero]
          refine flat_quiet (fun w => Below.refl _ _) rfl rfl rfl rfl ?_
          intro K hK
          go_big_quiet_op
          go_big_quiet_on
          repeat (first
            | (refine flat_quiet (fun w => Below.refl _ _) rfl rfl rfl rfl ?_; intro K hK; go_big_quiet_op; go_big_quiet_on)
            | (refine flat_call Cf.out _ ?_ rfl rfl rfl _ (fun y => (M1.out y).mono fun e w' ⟨a, b⟩ => ⟨a, b ▸ y.h, b ▸ Below.refl _ _⟩) W5 ?_; (focus (simp only [List.map_toArray, List.map_cons, List.map_nil]; rfl)); intro K hK; go_big_quiet_op; go_big_quiet_on)
            | (refine flat_call Cf.out _ ?_ rfl rfl rfl _ (fun y => (M2.out y).mono fun e w' ⟨a, b⟩ => ⟨a, b ▸ y.h, b ▸ Below.refl _ _⟩) W5 ?_; (focus (simp only [List.map_toArray, List.map_cons, List.map_nil]; rfl)); intro K hK; go_big_quiet_op; go_big_quiet_on))
          refine flat_nil ?_
          intro W9 hW9
          simp only [endF]
          have c7 := hW9.1.cell 7
          simp at c7
          have f7 := hW9.1.frozen 7
          go_upto_region 14 with fail
          rw [win_eq s7 x8 x9 u v Hu.out Hv.out hw0 hw1]
          have hs6 : Blk (W9.setCell ⟨gs, 7, none⟩ (.int .u16 (winT s7 x8 x9))) gs 30 #[.int .u32 x0, .int .u16 x1, .int .u32 x2, .int .u16 x3, .int .u32 ((s4 + x4) % 4294967296), .int .u32 a5, .int .u8 s6, .int .u16 (winT s7 x8 x9), .int .u16 s8, .int .i64 s9, .bool s10, .slice A0 k c0, .bool s12, .int .u32 v13, .int .u32 v14, .string s15] := by
            have := hW9.1.set_ 7 (.int .u16 (winT s7 x8 x9))
            simpa using this
          have hr6 := hW9.2.2.1.far (p := ⟨gs, 7, none⟩) (Ne.symm hne_s_r) (.int .u16 (winT s7 x8 x9))
          have ho6 := hW9.2.2.2.1.kept (only_set (World.grownBy.refl W9 (some gs)) 7 (.int .u16 (winT s7 x8 x9))) (.inr (own_blk_ne hW9.2.2.2.1 hW9.1 (by decide)))
          have hB6 := hW9.2.2.2.2.setCell (p := ⟨gs, 7, none⟩) hle_s (.int .u16 (winT s7 x8 x9))
          clear hW9 ne hTri q7 q8 q9 c7 f7
          obtain ⟨wn, hwn⟩ : ∃ z, z = winT s7 x8 x9 := ⟨_, rfl⟩
          rw [← hwn] at hs6 hr6 ho6 hB6 ⊢
          have Hwn := Lib.hid hwn
          clear hwn
          generalize W9.setCell _ _ = W6 at *
          have cc0 := hs6.cell 0
          have cc1 := hs6.cell 1
          have cc2 := hs6.cell 2
          have cc3 := hs6.cell 3
          have cc4 := hs6.cell 4
          have cc5 := hs6.cell 5
          have cc6 := hs6.cell 6
          have cc7 := hs6.cell 7
          have cc8 := hs6.cell 8
          have cc9 := hs6.cell 9
          have cc10 := hs6.cell 10
          have cc11 := hs6.cell 11
          have cc12 := hs6.cell 12
          have cc13 := hs6.cell 13
          have cc14 := hs6.cell 14
          have cc15 := hs6.cell 15
          have dd0 := hr6.cell 0
          have dd1 := hr6.cell 1
          have dd2 := hr6.cell 2
          have dd3 := hr6.cell 3
          have dd4 := hr6.cell 4
          have dd5 := hr6.cell 5
          have dd6 := hr6.cell 6
          have dd7 := hr6.cell 7
          have dd8 := hr6.cell 8
          have dd9 := hr6.cell 9
          have dd10 := hr6.cell 10
          have dd11 := hr6.cell 11
          have dd12 := hr6.cell 12
          have dd13 := hr6.cell 13
          have dd14 := hr6.cell 14
          have dd15 := hr6.cell 15
          simp at cc0 cc1 cc2 cc3 cc4 cc5 cc6 cc7 cc8 cc9 cc10 cc11 cc12 cc13 cc14 cc15 dd0 dd1 dd2 dd3 dd4 dd5 dd6 dd7 dd8 dd9 dd10 dd11 dd12 dd13 dd14 dd15
          have fr := hr6.frozen
          have hlen : (l.map (turnB x5)).length = k := by rw [List.length_map, ← Hl.out]; exact Hke.out.symm
          have Hs6 := Lib.hid hs6
          clear hs6
          have Hr6 := Lib.hid hr6
          clear hr6
          have Ho6 := Lib.hid ho6
          clear ho6
          have HB6 := Lib.hid hB6
          clear hB6
          have Hlen := Lib.hid hlen
          clear hlen
          go_wp2
          generalize hWf : World.setCell _ _ _ = Wf
          have hf : Blk Wf gr 30 #[.int .u32 x0, .int .u16 x1, .int .u32 x2, .int .u16 x3, .int .u32 ((s4 + x4) % 4294967296), .int .u32 a5, .int .u8 s6, .int .u16 wn, .int .u16 s8, .int .i64 s9, .bool s10, .slice A0 k c0, .bool s12, .int .u32 v13, .int .u32 v14, .string s15] := by
            rw [← hWf]
            have := ((((((((((((((((Hr6.out.set_ 0 (.int .u32 x0)).set_ 1 (.int .u16 x1)).set_ 2 (.int .u32 x2)).set_ 3 (.int .u16 x3)).set_ 4 (.int .u32 ((s4 + x4) % 4294967296))).set_ 5 (.int .u32 a5)).set_ 6 (.int .u8 s6)).set_ 7 (.int .u16 wn)).set_ 8 (.int .u16 s8)).set_ 9 (.int .i64 s9)).set_ 10 (.bool s10)).set_ 11 (.slice A0 k c0)).set_ 12 (.bool s12)).set_ 13 (.int .u32 v13)).set_ 14 (.int .u32 v14)).set_ 15 (.string s15))
            simpa using this
          have hBf : Below w.heap.size w Wf := by
            rw [← hWf]
            repeat (refine Below.setCell ?_ hle_r _)
            exact HB6.out
          have hgf : W6.grownBy Wf (some gr) := by
            rw [← hWf]
            repeat (refine only_set ?_ _ _)
            exact World.grownBy.refl _ _
          have hof := Ho6.out.kept hgf (.inr (own_blk_ne Ho6.out Hr6.out (by decide)))
          clear hWf hgf
          have cf0 := hf.cell 0
          have cf1 := hf.cell 1
          have cf2 := hf.cell 2
          have cf3 := hf.cell 3
          have cf4 := hf.cell 4
          have cf5 := hf.cell 5
          have cf6 := hf.cell 6
          have cf7 := hf.cell 7
          have cf8 := hf.cell 8
          have cf9 := hf.cell 9
          have cf10 := hf.cell 10
          have cf11 := hf.cell 11
          have cf12 := hf.cell 12
          have cf13 := hf.cell 13
          have cf14 := hf.cell 14
          have cf15 := hf.cell 15
          simp at cf0 cf1 cf2 cf3 cf4 cf5 cf6 cf7 cf8 cf9 cf10 cf11 cf12 cf13 cf14 cf15
          have hC : turnedC s4 s5 s6 s7 s8 s9 s10 s12 s13 s14 s15 x0 x1 x2 x3 x4 x5 x6 x7 x8 x9 (.slice A0 k c0) = #[.int .u32 x0, .int .u16 x1, .int .u32 x2, .int .u16 x3, .int .u32 ((s4 + x4) % 4294967296), .int .u32 a5, .int .u8 s6, .int .u16 wn, .int .u16 s8, .int .i64 s9, .bool s10, .slice A0 k c0, .bool s12, .int .u32 v13, .int .u32 v14, .string s15] := by
            simp [turnedC, Hwn.out, Ha5.out, E13.out, E14.out]
          refine bodyPost_ret (v := .agg #[.int .u32 x0, .int .u16 x1, .int .u32 x2, .int .u16 x3, .int .u32 ((s4 + x4) % 4294967296), .int .u32 a5, .int .u8 s6, .int .u16 wn, .int .u16 s8, .int .i64 s9, .bool s10, .slice A0 k c0, .bool s12, .int .u32 v13, .int .u32 v14, .string s15]) (by simp [results, Try.results23, go_sem, cf0, cf1, cf2, cf3, cf4, cf5, cf6, cf7, cf8, cf9, cf10, cf11, cf12, cf13, cf14, cf15]) rfl ⟨A0, c0, fun h => Hz2.out (by rw [← Hlen.out, h]; rfl), ?_, ?_, hBf⟩
          · rw [Hlen.out, hC]
          · unfold OwnB
            rw [Hlen.out]
            exact hof
end Go.Proofs.Ytengegcnocdkoaa
end
