/- Layer 7 (opt), and the document's: which options may be. -/
import Derived.Test.YtimepplfaaddeaaOptRefRaw
set_option linter.unusedVariables false
set_option linter.unusedSimpArgs false
namespace Go.Proofs.Ytimepplfaaddeaa
open Go.RowKit Go.BigFrame

structure Op.wf (o : Op) : Prop where
  mss : o.mss < 65536
  scale : (Lit.int .i64 o.scale).wf = true
  val : o.val < 4294967296
  echo : o.echo < 4294967296
  bl : ∀ p ∈ o.bl, (0 ≤ p.1 ∧ p.1 ≤ 4294967295) ∧ 0 ≤ p.2 ∧ p.2 ≤ 4294967295
theorem Op.wf.ok {o : Op} (h : o.wf) (h1 : -1 ≤ o.scale) (h2 : o.scale ≤ 14) : o.ok := ⟨h.mss, ⟨h1, h2⟩, h.val, h.echo, h.bl⟩
def mayB (o : Op) : Bool := decide (-1 ≤ o.scale) && (decide (o.scale ≤ 14) && (decide (o.bl.length ≤ 4) && ((o.time || (o.val == 0 && o.echo == 0)) && decide ((rawL o).length ≤ 40))))
set_option maxRecDepth 100000 in
set_option maxHeartbeats 4000000 in
theorem may_any (w : World) (o : Op) (A : Option Addr) (c : Nat) (ho : o.wf) (hr : BlR w A o.bl) (hn : o.bl.length ≤ 1000) :
    Calls Try.prog 13 #[.agg (optC o A c)] w fun e w' => e = .returned (.bool (mayB o)) ∧ Below w.heap.size w w' := by
  obtain ⟨n, hne⟩ : ∃ n, n = o.bl.length := ⟨_, rfl⟩
  unfold optC
  rw [← hne]
  have i1 : (n : Int) ≤ 1000 := by omega
  have i2 : (0 : Int) ≤ (n : Int) := by omega
  have hb0 : Below w.heap.size w (w.alloc (.cells (optN o A n c) 26)) := (Below.refl _ _).alloc (Nat.le_refl _) _
  have hS0 : Blk (w.alloc (.cells (optN o A n c) 26)) w.heap.size 26 (optN o A n c) := Blk.new _ _ _
  have hR0 := hr.below hb0
  have hcl : ∀ W, BlR W A o.bl → -1 ≤ o.scale → o.scale ≤ 14 → o.bl.length ≤ 4 → Calls Try.prog 22 #[.agg #[.int .u16 (o.mss : Int), .int .i64 o.scale, .bool o.sack, .slice A n c, .bool o.time, .int .u32 (o.val : Int), .int .u32 (o.echo : Int)]] W fun e w' => e = .returned (.string ⟨(rawL o).toArray⟩) ∧ Below W.heap.size W w' := by
    intro W h1 h2 h3 h4
    rw [hne]
    exact raw_any W o A c (ho.ok h2 h3) h1 h4
  have hmay : mayB o = (decide (-1 ≤ o.scale) && (decide (o.scale ≤ 14) && (decide (n ≤ 4) && ((o.time || (o.val == 0 && o.echo == 0)) && decide (((⟨(rawL o).toArray⟩ : ByteArray).size) ≤ 40))))) := by
    rw [hne]
    have : (⟨(rawL o).toArray⟩ : ByteArray).size = (rawL o).length := rfl
    rw [this]
    rfl
  generalize (⟨(rawL o).toArray⟩ : ByteArray) = q at *
  rw [hmay]
  unfold optN at hS0 hb0 hR0
  have hv0 : (o.val == 0) = ((o.val : Int) == 0) := by rw [Bool.eq_iff_iff]; simp
  have he0 : (o.echo == 0) = ((o.echo : Int) == 0) := by rw [Bool.eq_iff_iff]; simp
  rw [hv0, he0]
  rw [hne.symm] at hcl
  clear hmay hv0 he0 hne ho hr hn
  generalize (o.mss : Int) = m at *
  generalize (o.val : Int) = vl at *
  generalize (o.echo : Int) = ec at *
  generalize o.scale = sc at *
  generalize o.sack = sk at *
  generalize o.time = tm at *
  have Hcl := Lib.hid hcl
  clear hcl
  go_enter Try.func13, Try.ntmps13
  go_upto_region 1 with fail
  obtain ⟨g, hg⟩ : ∃ g, g = w.heap.size := ⟨_, rfl⟩
  generalize hW1 : w.alloc _ = W1 at *
  rw [← hg] at hS0 ⊢
  clear hg hW1
  have HB := Lib.hid hb0
  have HR := Lib.hid hR0
  have c0 := hS0.cell 0
  have c1 := hS0.cell 1
  have c2 := hS0.cell 2
  have c3 := hS0.cell 3
  have c4 := hS0.cell 4
  have c5 := hS0.cell 5
  have c6 := hS0.cell 6
  simp at c0 c1 c2 c3 c4 c5 c6
  clear hb0 hR0 hS0
  by_cases q1 : -1 ≤ sc
  · by_cases q2 : sc ≤ 14
    · by_cases q3 : n ≤ 4
      · have j3 : (n : Int) ≤ 4 := by omega
        cases tm with
        | true =>
          go_wp2_with fail
          with_reducible refine (Hcl.out _ HR.out q1 q2 q3).mono ?_
          rintro e w9 ⟨rfl, hb9⟩
          have hF := HB.out.trans (hb9.mono HB.out.size)
          have HF := Lib.hid hF
          clear hF hb9
          go_wp2
          go_ret
          exact ⟨ret_bool (by simp [q1, q2, q3] <;> omega), HF.out⟩
        | false =>
          by_cases q4 : vl = 0
          · by_cases q5 : ec = 0
            · subst q4 q5
              go_wp2_with fail
              with_reducible refine (Hcl.out _ HR.out q1 q2 q3).mono ?_
              rintro e w9 ⟨rfl, hb9⟩
              have hF := HB.out.trans (hb9.mono HB.out.size)
              have HF := Lib.hid hF
              clear hF hb9
              go_wp2
              go_ret
              exact ⟨ret_bool (by simp [q1, q2, q3] <;> omega), HF.out⟩
            · have j5 : (ec == 0) = false := by simpa using q5
              subst q4
              go_wp2
              go_ret
              exact ⟨ret_bool (by simp [q5] <;> omega), HB.out⟩
          · have j4 : (vl == 0) = false := by simpa using q4
            go_wp2
            go_ret
            exact ⟨ret_bool (by simp [q4] <;> omega), HB.out⟩
      · have j3 : (4 : Int) < (n : Int) := by omega
        go_wp2
        go_ret
        exact ⟨ret_bool (by simp [q3] <;> omega), HB.out⟩
    · have j2 : 14 < sc := by omega
      go_wp2
      go_ret
      exact ⟨ret_bool (by simp [q2] <;> omega), HB.out⟩
  · have j1 : sc < -1 := by omega
    go_wp2
    go_ret
    exact ⟨ret_bool (by simp [q1] <;> omega), HB.out⟩
set_option maxRecDepth 100000 in
set_option maxHeartbeats 4000000 in
theorem rmay_any (w : World) (o : Op) (A : Option Addr) (c : Nat) (ho : o.wf) (hr : BlR w A o.bl) (hn : o.bl.length ≤ 1000) :
    Calls Try.prog 14 #[.agg (optC o A c)] w fun e w' => e = .returned (.bool (mayB o)) ∧ Below w.heap.size w w' := by
  obtain ⟨n, hne⟩ : ∃ n, n = o.bl.length := ⟨_, rfl⟩
  unfold optC
  rw [← hne]
  have i1 : (n : Int) ≤ 1000 := by omega
  have i2 : (0 : Int) ≤ (n : Int) := by omega
  have hb0 : Below w.heap.size w (w.alloc (.cells (optN o A n c) 26)) := (Below.refl _ _).alloc (Nat.le_refl _) _
  have hS0 : Blk (w.alloc (.cells (optN o A n c) 26)) w.heap.size 26 (optN o A n c) := Blk.new _ _ _
  have hR0 := hr.below hb0
  have hcl : ∀ W, BlR W A o.bl → -1 ≤ o.scale → o.scale ≤ 14 → o.bl.length ≤ 4 → Calls Try.prog 23 #[.agg #[.int .u16 (o.mss : Int), .int .i64 o.scale, .bool o.sack, .slice A n c, .bool o.time, .int .u32 (o.val : Int), .int .u32 (o.echo : Int)]] W fun e w' => e = .returned (.string ⟨(rawL o).toArray⟩) ∧ Below W.heap.size W w' := by
    intro W h1 h2 h3 h4
    rw [hne]
    exact rraw_any W o A c (ho.ok h2 h3) h1 h4
  have hmay : mayB o = (decide (-1 ≤ o.scale) && (decide (o.scale ≤ 14) && (decide (n ≤ 4) && ((o.time || (o.val == 0 && o.echo == 0)) && decide (((⟨(rawL o).toArray⟩ : ByteArray).size) ≤ 40))))) := by
    rw [hne]
    have : (⟨(rawL o).toArray⟩ : ByteArray).size = (rawL o).length := rfl
    rw [this]
    rfl
  generalize (⟨(rawL o).toArray⟩ : ByteArray) = q at *
  rw [hmay]
  unfold optN at hS0 hb0 hR0
  have hv0 : (o.val == 0) = ((o.val : Int) == 0) := by rw [Bool.eq_iff_iff]; simp
  have he0 : (o.echo == 0) = ((o.echo : Int) == 0) := by rw [Bool.eq_iff_iff]; simp
  rw [hv0, he0]
  rw [hne.symm] at hcl
  clear hmay hv0 he0 hne ho hr hn
  generalize (o.mss : Int) = m at *
  generalize (o.val : Int) = vl at *
  generalize (o.echo : Int) = ec at *
  generalize o.scale = sc at *
  generalize o.sack = sk at *
  generalize o.time = tm at *
  have Hcl := Lib.hid hcl
  clear hcl
  go_enter Try.func14, Try.ntmps14
  go_upto_region 1 with fail
  obtain ⟨g, hg⟩ : ∃ g, g = w.heap.size := ⟨_, rfl⟩
  generalize hW1 : w.alloc _ = W1 at *
  rw [← hg] at hS0 ⊢
  clear hg hW1
  have HB := Lib.hid hb0
  have HR := Lib.hid hR0
  have c0 := hS0.cell 0
  have c1 := hS0.cell 1
  have c2 := hS0.cell 2
  have c3 := hS0.cell 3
  have c4 := hS0.cell 4
  have c5 := hS0.cell 5
  have c6 := hS0.cell 6
  simp at c0 c1 c2 c3 c4 c5 c6
  clear hb0 hR0 hS0
  by_cases q1 : -1 ≤ sc
  · by_cases q2 : sc ≤ 14
    · by_cases q3 : n ≤ 4
      · have j3 : (n : Int) ≤ 4 := by omega
        cases tm with
        | true =>
          go_wp2_with fail
          with_reducible refine (Hcl.out _ HR.out q1 q2 q3).mono ?_
          rintro e w9 ⟨rfl, hb9⟩
          have hF := HB.out.trans (hb9.mono HB.out.size)
          have HF := Lib.hid hF
          clear hF hb9
          go_wp2
          go_ret
          exact ⟨ret_bool (by simp [q1, q2, q3] <;> omega), HF.out⟩
        | false =>
          by_cases q4 : vl = 0
          · by_cases q5 : ec = 0
            · subst q4 q5
              go_wp2_with fail
              with_reducible refine (Hcl.out _ HR.out q1 q2 q3).mono ?_
              rintro e w9 ⟨rfl, hb9⟩
              have hF := HB.out.trans (hb9.mono HB.out.size)
              have HF := Lib.hid hF
              clear hF hb9
              go_wp2
              go_ret
              exact ⟨ret_bool (by simp [q1, q2, q3] <;> omega), HF.out⟩
            · have j5 : (ec == 0) = false := by simpa using q5
              have j6 : (ec != 0) = true := by simpa using q5
              subst q4
              go_wp2
              go_ret
              exact ⟨ret_bool (by simp [q5] <;> omega), HB.out⟩
          · have j4 : (vl == 0) = false := by simpa using q4
            have j6 : (vl != 0) = true := by simpa using q4
            go_wp2
            go_ret
            exact ⟨ret_bool (by simp [q4] <;> omega), HB.out⟩
      · have j3 : (4 : Int) < (n : Int) := by omega
        go_wp2
        go_ret
        exact ⟨ret_bool (by simp [q3] <;> omega), HB.out⟩
    · have j2 : 14 < sc := by omega
      go_wp2
      go_ret
      exact ⟨ret_bool (by simp [q2] <;> omega), HB.out⟩
  · have j1 : sc < -1 := by omega
    go_wp2
    go_ret
    exact ⟨ret_bool (by simp [q1] <;> omega), HB.out⟩
end Go.Proofs.Ytimepplfaaddeaa
