/- Layer 7 (opt): Encode, of any options (its own, the reference's); the reference's right, known, None. -/
import Derived.Test.YtimepplfaaddeaaOptDec
import Derived.Test.YtimepplfaaddeaaOptRefRaw
set_option linter.unusedVariables false
set_option linter.unusedSimpArgs false
namespace Go.Proofs.Ytimepplfaaddeaa
open Go.RowKit Go.BigFrame

def encR (o : Op) : ByteArray × Int := if mayB o = true then (⟨(rawL o).toArray⟩, 0) else (⟨#[]⟩, 2)
theorem mayB_parts {o : Op} (h : mayB o = true) : -1 ≤ o.scale ∧ o.scale ≤ 14 ∧ o.bl.length ≤ 4 ∧ (rawL o).length ≤ 40 := by
  unfold mayB at h
  simp only [Bool.and_eq_true, decide_eq_true_eq] at h
  exact ⟨h.1, h.2.1, h.2.2.1, h.2.2.2.2⟩
set_option maxHeartbeats 2000000 in
theorem enc_any (w : World) (o : Op) (A : Option Addr) (c : Nat) (ho : o.wf) (hr : BlR w A o.bl) (hn : o.bl.length ≤ 1000) :
    Calls Try.prog 9 #[.agg (optC o A c)] w fun e w' => e = .returned (.tuple #[.string (encR o).1, .int .i64 (encR o).2]) ∧ Below w.heap.size w w' := by
  have hmy := fun W (h : BlR W A o.bl) => may_any W o A c ho h hn
  have hrw := fun (h : mayB o = true) W (h2 : BlR W A o.bl) => raw_any W o A c (ho.ok (mayB_parts h).1 (mayB_parts h).2.1) h2 (mayB_parts h).2.2.1
  have hE : encR o = if mayB o = true then (⟨(rawL o).toArray⟩, 0) else (⟨#[]⟩, 2) := rfl
  generalize encR o = E at *
  obtain ⟨R, hR⟩ : ∃ R, R = (⟨(rawL o).toArray⟩ : ByteArray) := ⟨_, rfl⟩
  rw [← hR] at hE
  simp only [← hR] at hrw
  generalize mayB o = mb at *
  have hb0 : Below w.heap.size w w := Below.refl _ _
  have HB := Lib.hid hb0
  clear hb0 hn ho
  unfold optC at *
  generalize (o.mss : Int) = m at *
  generalize (o.val : Int) = vl at *
  generalize (o.echo : Int) = ec at *
  generalize o.scale = sc at *
  generalize o.sack = sk at *
  generalize o.time = tm at *
  generalize hl : o.bl = l at *
  generalize l.length = n at *
  clear hl
  have Hmy := Lib.hid hmy
  clear hmy
  have Hrw := Lib.hid hrw
  clear hrw
  have HE := Lib.hid hE
  clear hE
  have HR := Lib.hid hR
  clear hR
  have Hr := Lib.hid hr
  clear hr
  go_enter Try.func9, Try.ntmps9
  go_upto_region 1 with fail
  have hq := Blk.new w 26 #[.int .u16 m, .int .i64 sc, .bool sk, .slice A n c, .bool tm, .int .u32 vl, .int .u32 ec]
  have hB := HB.out.alloc HB.out.size (.cells #[.int .u16 m, .int .i64 sc, .bool sk, .slice A n c, .bool tm, .int .u32 vl, .int .u32 ec] 26)
  clear HB
  obtain ⟨gq, hge⟩ : ∃ g, g = w.heap.size := ⟨_, rfl⟩
  rw [← hge] at hq ⊢
  clear hge
  generalize w.alloc _ = w1 at *
  have Hq := Lib.hid hq
  clear hq
  have HB := Lib.hid hB
  clear hB
  have c0 := Hq.out.cell 0
  have c1 := Hq.out.cell 1
  have c2 := Hq.out.cell 2
  have c3 := Hq.out.cell 3
  have c4 := Hq.out.cell 4
  have c5 := Hq.out.cell 5
  have c6 := Hq.out.cell 6
  simp at c0 c1 c2 c3 c4 c5 c6
  go_wp2_with fail
  (with_reducible refine (Hmy.out _ (Hr.out.below HB.out)).mono ?_)
  rintro e w2 ⟨rfl, hbq⟩
  have hq := Hq.out.below hbq Hq.out.lt
  clear Hq
  have Hq := Lib.hid hq
  clear hq
  have hB := HB.out.trans (hbq.mono HB.out.size)
  clear HB
  have HB := Lib.hid hB
  clear hB
  clear hbq
  cases mb with
  | false =>
    go_wp2
    go_ret2
    have e : E = (⟨#[]⟩, 2) := HE.out
    rw [e]
    exact ⟨rfl, HB.out⟩
  | true =>
    clear c0 c1 c2 c3 c4 c5 c6
    have d0 := Hq.out.cell 0
    have d1 := Hq.out.cell 1
    have d2 := Hq.out.cell 2
    have d3 := Hq.out.cell 3
    have d4 := Hq.out.cell 4
    have d5 := Hq.out.cell 5
    have d6 := Hq.out.cell 6
    simp at d0 d1 d2 d3 d4 d5 d6
    go_wp2_with fail
    (with_reducible refine (Hrw.out trivial _ (Hr.out.below HB.out)).mono ?_)
    rintro e w3 ⟨rfl, hbq⟩
    have hq := Hq.out.below hbq Hq.out.lt
    clear Hq
    have Hq := Lib.hid hq
    clear hq
    have hB := HB.out.trans (hbq.mono HB.out.size)
    clear HB
    have HB := Lib.hid hB
    clear hB
    clear hbq
    go_wp2
    go_ret2
    have e : E = (R, 0) := HE.out
    rw [e]
    exact ⟨rfl, HB.out⟩
set_option maxHeartbeats 2000000 in
theorem renc_any (w : World) (o : Op) (A : Option Addr) (c : Nat) (ho : o.wf) (hr : BlR w A o.bl) (hn : o.bl.length ≤ 1000) :
    Calls Try.prog 10 #[.agg (optC o A c)] w fun e w' => e = .returned (.tuple #[.string (encR o).1, .int .i64 (encR o).2]) ∧ Below w.heap.size w w' := by
  have hmy := fun W (h : BlR W A o.bl) => rmay_any W o A c ho h hn
  have hrw := fun (h : mayB o = true) W (h2 : BlR W A o.bl) => rraw_any W o A c (ho.ok (mayB_parts h).1 (mayB_parts h).2.1) h2 (mayB_parts h).2.2.1
  have hE : encR o = if mayB o = true then (⟨(rawL o).toArray⟩, 0) else (⟨#[]⟩, 2) := rfl
  generalize encR o = E at *
  obtain ⟨R, hR⟩ : ∃ R, R = (⟨(rawL o).toArray⟩ : ByteArray) := ⟨_, rfl⟩
  rw [← hR] at hE
  simp only [← hR] at hrw
  generalize mayB o = mb at *
  have hb0 : Below w.heap.size w w := Below.refl _ _
  have HB := Lib.hid hb0
  clear hb0 hn ho
  unfold optC at *
  generalize (o.mss : Int) = m at *
  generalize (o.val : Int) = vl at *
  generalize (o.echo : Int) = ec at *
  generalize o.scale = sc at *
  generalize o.sack = sk at *
  generalize o.time = tm at *
  generalize hl : o.bl = l at *
  generalize l.length = n at *
  clear hl
  have Hmy := Lib.hid hmy
  clear hmy
  have Hrw := Lib.hid hrw
  clear hrw
  have HE := Lib.hid hE
  clear hE
  have HR := Lib.hid hR
  clear hR
  have Hr := Lib.hid hr
  clear hr
  go_enter Try.func10, Try.ntmps10
  go_upto_region 1 with fail
  have hq := Blk.new w 26 #[.int .u16 m, .int .i64 sc, .bool sk, .slice A n c, .bool tm, .int .u32 vl, .int .u32 ec]
  have hB := HB.out.alloc HB.out.size (.cells #[.int .u16 m, .int .i64 sc, .bool sk, .slice A n c, .bool tm, .int .u32 vl, .int .u32 ec] 26)
  clear HB
  obtain ⟨gq, hge⟩ : ∃ g, g = w.heap.size := ⟨_, rfl⟩
  rw [← hge] at hq ⊢
  clear hge
  generalize w.alloc _ = w1 at *
  have Hq := Lib.hid hq
  clear hq
  have HB := Lib.hid hB
  clear hB
  have c0 := Hq.out.cell 0
  have c1 := Hq.out.cell 1
  have c2 := Hq.out.cell 2
  have c3 := Hq.out.cell 3
  have c4 := Hq.out.cell 4
  have c5 := Hq.out.cell 5
  have c6 := Hq.out.cell 6
  simp at c0 c1 c2 c3 c4 c5 c6
  go_wp2_with fail
  (with_reducible refine (Hmy.out _ (Hr.out.below HB.out)).mono ?_)
  rintro e w2 ⟨rfl, hbq⟩
  have hq := Hq.out.below hbq Hq.out.lt
  clear Hq
  have Hq := Lib.hid hq
  clear hq
  have hB := HB.out.trans (hbq.mono HB.out.size)
  clear HB
  have HB := Lib.hid hB
  clear hB
  clear hbq
  cases mb with
  | false =>
    go_wp2
    go_ret2
    have e : E = (⟨#[]⟩, 2) := HE.out
    rw [e]
    exact ⟨rfl, HB.out⟩
  | true =>
    clear c0 c1 c2 c3 c4 c5 c6
    have d0 := Hq.out.cell 0
    have d1 := Hq.out.cell 1
    have d2 := Hq.out.cell 2
    have d3 := Hq.out.cell 3
    have d4 := Hq.out.cell 4
    have d5 := Hq.out.cell 5
    have d6 := Hq.out.cell 6
    simp at d0 d1 d2 d3 d4 d5 d6
    go_wp2_with fail
    (with_reducible refine (Hrw.out trivial _ (Hr.out.below HB.out)).mono ?_)
    rintro e w3 ⟨rfl, hbq⟩
    have hq := Hq.out.below hbq Hq.out.lt
    clear Hq
    have Hq := Lib.hid hq
    clear hq
    have hB := HB.out.trans (hbq.mono HB.out.size)
    clear HB
    have HB := Lib.hid hB
    clear hB
    clear hbq
    go_wp2
    go_ret2
    have e : E = (R, 0) := HE.out
    rw [e]
    exact ⟨rfl, HB.out⟩
set_option maxHeartbeats 2000000 in
theorem right_any (k n : Nat) (w : World) : Calls Try.prog 38 #[.int .i64 (k : Int), .int .i64 (n : Int)] w fun e w' => e = .returned (.bool (longB k n)) ∧ w = w' := by
  by_cases h2 : k = 2
  · subst h2
    have hv : longB 2 n = ((n : Int) == 4) := by
      rw [Bool.eq_iff_iff]
      simp [longB]
      omega
    have Hv := Lib.hid hv
    clear hv
    go_enter Try.func38, Try.ntmps38
    go_wp2
    go_ret
    exact ⟨ret_bool Hv.out.symm, rfl⟩
  by_cases h3 : k = 3
  · subst h3
    have hv : longB 3 n = ((n : Int) == 3) := by
      rw [Bool.eq_iff_iff]
      simp [longB]
      omega
    have Hv := Lib.hid hv
    clear hv
    go_enter Try.func38, Try.ntmps38
    go_wp2
    go_ret
    exact ⟨ret_bool Hv.out.symm, rfl⟩
  by_cases h4 : k = 4
  · subst h4
    have hv : longB 4 n = ((n : Int) == 2) := by
      rw [Bool.eq_iff_iff]
      simp [longB]
      omega
    have Hv := Lib.hid hv
    clear hv
    go_enter Try.func38, Try.ntmps38
    go_wp2
    go_ret
    exact ⟨ret_bool Hv.out.symm, rfl⟩
  by_cases h5 : k = 5
  · subst h5
    by_cases a0 : n = 10
    · have hv : longB 5 n = true := by rw [a0]; rfl
      have e0 : ((n : Int) == 10) = true := by simp; omega
      have Hv := Lib.hid hv
      clear hv
      clear a0
      go_enter Try.func38, Try.ntmps38
      go_wp2
      go_ret
      exact ⟨ret_bool Hv.out.symm, rfl⟩
    by_cases a1 : n = 18
    · have hv : longB 5 n = true := by rw [a1]; rfl
      have e1 : ((n : Int) == 18) = true := by simp; omega
      have f0 : ((n : Int) == 10) = false := by simp; omega
      have Hv := Lib.hid hv
      clear hv
      clear a0
      clear a1
      go_enter Try.func38, Try.ntmps38
      go_wp2
      go_ret
      exact ⟨ret_bool Hv.out.symm, rfl⟩
    by_cases a2 : n = 26
    · have hv : longB 5 n = true := by rw [a2]; rfl
      have e2 : ((n : Int) == 26) = true := by simp; omega
      have f0 : ((n : Int) == 10) = false := by simp; omega
      have f1 : ((n : Int) == 18) = false := by simp; omega
      have Hv := Lib.hid hv
      clear hv
      clear a0
      clear a1
      clear a2
      go_enter Try.func38, Try.ntmps38
      go_wp2
      go_ret
      exact ⟨ret_bool Hv.out.symm, rfl⟩
    have hv : longB 5 n = ((n : Int) == 34) := by
      rw [Bool.eq_iff_iff]
      simp [longB]
      omega
    have f0 : ((n : Int) == 10) = false := by simp; omega
    have f1 : ((n : Int) == 18) = false := by simp; omega
    have f2 : ((n : Int) == 26) = false := by simp; omega
    have Hv := Lib.hid hv
    clear hv
    clear a0 a1 a2
    go_enter Try.func38, Try.ntmps38
    go_wp2
    go_ret
    exact ⟨ret_bool Hv.out.symm, rfl⟩
  by_cases h8 : k = 8
  · subst h8
    have hv : longB 8 n = ((n : Int) == 10) := by
      rw [Bool.eq_iff_iff]
      simp [longB]
      omega
    have Hv := Lib.hid hv
    clear hv
    go_enter Try.func38, Try.ntmps38
    go_wp2
    go_ret
    exact ⟨ret_bool Hv.out.symm, rfl⟩
  have hv : longB k n = decide (2 ≤ (n : Int)) := by
    unfold longB
    rw [if_neg h2, if_neg h3, if_neg h4, if_neg h5, if_neg h8]
    simp
    omega
  have g2 : ((k : Int) == 2) = false := by simp; omega
  have g3 : ((k : Int) == 3) = false := by simp; omega
  have g4 : ((k : Int) == 4) = false := by simp; omega
  have g5 : ((k : Int) == 5) = false := by simp; omega
  have g8 : ((k : Int) == 8) = false := by simp; omega
  have Hv := Lib.hid hv
  clear hv
  clear h2 h3 h4 h5 h8
  go_enter Try.func38, Try.ntmps38
  go_wp2
  go_ret
  exact ⟨ret_bool Hv.out.symm, rfl⟩
end Go.Proofs.Ytimepplfaaddeaa
