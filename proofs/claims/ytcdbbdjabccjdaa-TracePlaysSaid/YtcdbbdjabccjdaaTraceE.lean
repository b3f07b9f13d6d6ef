/- Layer 31 (trace): each rule as one contract, by what it lets; what is looked up in the map of rules. -/
import Derived.Test.YtcdbbdjabccjdaaTraceR
import Derived.Test.YtcdbbdjabccjdaaTraceD
set_option linter.unusedVariables false
set_option linter.unusedSimpArgs false
namespace Go.Proofs.Ytcdbbdjabccjdaa
open Go.RowKit Go.BigFrame Go.ChangeMaps

/-- what a rule lets: what there is then; none: it may not be -/
def ruleM (d e : Nat) (t : Tr) (s : ByteArray) : Option Tr := match d with
  | 1 => if (decide (e = 0) && !(t.own e).opn) = true then some (t.put e { t.own e with opn := true }) else none
  | 2 => if (decide (e ≠ 0) && ((t.oth e).opn && !(t.own e).opn)) = true then some (t.put e { t.own e with opn := true }) else none
  | 3 => if ((t.own e).live && !(t.own e).cl) = true then some (t.put e { t.own e with wr := (t.own e).wr ++ s }) else none
  | 4 => if ((t.own e).live && (!(t.own e).eof && prefixB (t.oth e).wr (t.own e).rd s)) = true then some (t.put e { t.own e with rd := (t.own e).rd + s.size }) else none
  | 5 => if ((t.own e).live && !(t.own e).cl) = true then some (t.put e { t.own e with cl := true }) else none
  | 6 => if ((t.own e).live && ((t.oth e).cl && decide ((t.own e).rd = (t.oth e).wr.size) && !(t.own e).eof)) = true then some (t.put e { t.own e with eof := true }) else none
  | 7 => if (t.own e).live = true then some { t.put e { t.own e with dd := true } with cause := true } else none
  | 8 => if ((t.own e).live && t.cause) = true then some (t.put e { t.own e with dd := true }) else none
  | 9 => some { t with cause := true }
  | _ => none
/-- bounds of what a trace has, and of an act's text -/
def Okt (t : Tr) (s : ByteArray) : Prop := t.s0.wr.size ≤ 1048576 ∧ t.s1.wr.size ≤ 1048576 ∧ t.s0.rd ≤ t.s1.wr.size ∧ t.s1.rd ≤ t.s0.wr.size ∧ s.size ≤ 4194304

theorem wants_live_0 (w : World) (b gd : Nat) (f : FuncId) (cap : Array Value) (t t' : Tr) (r : Bool) (h : TrAt w b t) (hd : Blk w gd 71 #[.func (.func f) #[] cap])
    (hcf : ∀ (vals : Array Value) (w : World), (callFunc f vals).run Try.prog w = .ok (.enter f vals) w) (hl : t.s0.live = true)
    (hc : Calls Try.prog f (#[.pointer (some ⟨b, 0, none⟩), .pointer (some ⟨b, 6, none⟩)] ++ cap) w (Lets w b r t')) :
    Calls Try.prog 38 #[.pointer (some ⟨b, 0, none⟩), .pointer (some ⟨b, 6, none⟩), .pointer (some ⟨gd, 0, none⟩)] w (Lets w b r t') := by
  have c0 := h.cell 0
  have c5 := h.cell 5
  simp [trC] at c0 c5
  have hlv := live_at w b 0 _ _ c0 c5
  rw [show (t.s0.opn && !t.s0.dd) = true from hl] at hlv
  have d0 := hd.cell 0
  simp at d0
  have Hlv := Lib.hid hlv
  clear hlv
  have Hc := Lib.hid hc
  clear hc
  have Hl := Lib.hid hl
  clear hl
  clear c0 c5
  go_enter Try.func38, Try.ntmps38
  go_wp2_with fail
  (with_reducible refine (Hlv.out).mono ?_)
  rintro e w' ⟨rfl, rfl⟩
  go_wp2_with fail
  refine Hc.out.mono ?_
  rintro e wq ⟨rfl, hq1, hq2⟩
  go_wp2
  go_ret
  exact ⟨rfl, hq1, hq2⟩
theorem wants_dead_0 (w : World) (b gd : Nat) (t : Tr) (h : TrAt w b t) (hl : t.s0.live = false) :
    Calls Try.prog 38 #[.pointer (some ⟨b, 0, none⟩), .pointer (some ⟨b, 6, none⟩), .pointer (some ⟨gd, 0, none⟩)] w (Lets w b false t) := by
  have c0 := h.cell 0
  have c5 := h.cell 5
  simp [trC] at c0 c5
  have hlv := live_at w b 0 _ _ c0 c5
  rw [show (t.s0.opn && !t.s0.dd) = false from hl] at hlv
  have hgr : w.grownBy w (some b) := World.grownBy.refl w (some b)
  have Hlv := Lib.hid hlv
  clear hlv
  have Hl := Lib.hid hl
  clear hl
  have H := Lib.hid h
  clear h
  have Hgr := Lib.hid hgr
  clear hgr
  clear c0 c5
  go_enter Try.func38, Try.ntmps38
  go_wp2_with fail
  (with_reducible refine (Hlv.out).mono ?_)
  rintro e w' ⟨rfl, rfl⟩
  go_wp2
  go_ret
  exact ⟨rfl, H.out, Hgr.out⟩

theorem wants_live_1 (w : World) (b gd : Nat) (f : FuncId) (cap : Array Value) (t t' : Tr) (r : Bool) (h : TrAt w b t) (hd : Blk w gd 71 #[.func (.func f) #[] cap])
    (hcf : ∀ (vals : Array Value) (w : World), (callFunc f vals).run Try.prog w = .ok (.enter f vals) w) (hl : t.s1.live = true)
    (hc : Calls Try.prog f (#[.pointer (some ⟨b, 6, none⟩), .pointer (some ⟨b, 0, none⟩)] ++ cap) w (Lets w b r t')) :
    Calls Try.prog 38 #[.pointer (some ⟨b, 6, none⟩), .pointer (some ⟨b, 0, none⟩), .pointer (some ⟨gd, 0, none⟩)] w (Lets w b r t') := by
  have c0 := h.cell 6
  have c5 := h.cell 11
  simp [trC] at c0 c5
  have hlv := live_at w b 6 _ _ c0 c5
  rw [show (t.s1.opn && !t.s1.dd) = true from hl] at hlv
  have d0 := hd.cell 0
  simp at d0
  have Hlv := Lib.hid hlv
  clear hlv
  have Hc := Lib.hid hc
  clear hc
  have Hl := Lib.hid hl
  clear hl
  clear c0 c5
  go_enter Try.func38, Try.ntmps38
  go_wp2_with fail
  (with_reducible refine (Hlv.out).mono ?_)
  rintro e w' ⟨rfl, rfl⟩
  go_wp2_with fail
  refine Hc.out.mono ?_
  rintro e wq ⟨rfl, hq1, hq2⟩
  go_wp2
  go_ret
  exact ⟨rfl, hq1, hq2⟩
theorem wants_dead_1 (w : World) (b gd : Nat) (t : Tr) (h : TrAt w b t) (hl : t.s1.live = false) :
    Calls Try.prog 38 #[.pointer (some ⟨b, 6, none⟩), .pointer (some ⟨b, 0, none⟩), .pointer (some ⟨gd, 0, none⟩)] w (Lets w b false t) := by
  have c0 := h.cell 6
  have c5 := h.cell 11
  simp [trC] at c0 c5
  have hlv := live_at w b 6 _ _ c0 c5
  rw [show (t.s1.opn && !t.s1.dd) = false from hl] at hlv
  have hgr : w.grownBy w (some b) := World.grownBy.refl w (some b)
  have Hlv := Lib.hid hlv
  clear hlv
  have Hl := Lib.hid hl
  clear hl
  have H := Lib.hid h
  clear h
  have Hgr := Lib.hid hgr
  clear hgr
  clear c0 c5
  go_enter Try.func38, Try.ntmps38
  go_wp2_with fail
  (with_reducible refine (Hlv.out).mono ?_)
  rintro e w' ⟨rfl, rfl⟩
  go_wp2
  go_ret
  exact ⟨rfl, H.out, Hgr.out⟩

theorem does_1_0 (w : World) (b go ga : Nat) (t : Tr) (s : ByteArray) (h : TrAt w b t) (hk : Okt t s) (ha : Blk w ga 36 #[.int .i64 0, .int .u8 1, .string s]) (ho : Blk w go 88 #[.func (.func 39) #[] #[]]) :
    Calls Try.prog 40 #[.pointer (some ⟨b, 0, none⟩), .pointer (some ⟨b, 6, none⟩), .pointer (some ⟨go, 0, none⟩), .pointer (some ⟨ga, 0, none⟩)] w (Lets w b (ruleM 1 0 t s).isSome ((ruleM 1 0 t s).getD t)) := by
  by_cases h0 : t.s0.opn = true
  · have hx := rule1_no_0 w b go ga t s h ho ha h0
    simpa [ruleM, Tr.own, Tr.oth, Tr.put, h0] using hx
  · have h0 : t.s0.opn = false := by simpa using h0
    have hx := rule1_yes_0 w b go ga t s h ho ha h0
    simpa [ruleM, Tr.own, Tr.oth, Tr.put, h0] using hx

theorem does_2_0 (w : World) (b go ga : Nat) (t : Tr) (s : ByteArray) (h : TrAt w b t) (hk : Okt t s) (ha : Blk w ga 36 #[.int .i64 0, .int .u8 2, .string s]) (ho : Blk w go 88 #[.func (.func 39) #[] #[]]) :
    Calls Try.prog 41 #[.pointer (some ⟨b, 0, none⟩), .pointer (some ⟨b, 6, none⟩), .pointer (some ⟨go, 0, none⟩), .pointer (some ⟨ga, 0, none⟩)] w (Lets w b (ruleM 2 0 t s).isSome ((ruleM 2 0 t s).getD t)) := by
  have hx := rule2_no_0 w b go ga t s h ho ha
  simpa [ruleM, Tr.own, Tr.oth, Tr.put] using hx

theorem does_3_0 (w : World) (b ga gd : Nat) (t : Tr) (s : ByteArray) (h : TrAt w b t) (hk : Okt t s) (ha : Blk w ga 36 #[.int .i64 0, .int .u8 3, .string s]) (hd : Blk w gd 71 #[.func (.func 42) #[] #[.pointer (some ⟨ga, 0, none⟩)]]) :
    Calls Try.prog 38 #[.pointer (some ⟨b, 0, none⟩), .pointer (some ⟨b, 6, none⟩), .pointer (some ⟨gd, 0, none⟩)] w (Lets w b (ruleM 3 0 t s).isSome ((ruleM 3 0 t s).getD t)) := by
  obtain ⟨k0, k1, k2, k3, k4⟩ := hk
  by_cases hl : t.s0.live = true
  case neg =>
    have hl : t.s0.live = false := by simpa using hl
    have hx := wants_dead_0 w b gd t h hl
    simpa [ruleM, Tr.own, Tr.oth, Tr.put, hl] using hx
  have L := fun t' r hc => wants_live_0 w b gd 42 _ t t' r h hd (fun _ _ => by kernel_rfl) hl hc
  simp only [List.append_toArray, List.cons_append, List.nil_append] at L
  by_cases h0 : t.s0.cl = true
  · have hx := L _ _ (rule3_no_0 w b ga t s h ha h0)
    simpa [ruleM, Tr.own, Tr.oth, Tr.put, hl, h0] using hx
  · have h0 : t.s0.cl = false := by simpa using h0
    have hx := L _ _ (rule3_yes_0 w b ga t s h ha h0 (by omega))
    simpa [ruleM, Tr.own, Tr.oth, Tr.put, hl, h0] using hx

theorem does_4_0 (w : World) (b ga gd : Nat) (t : Tr) (s : ByteArray) (h : TrAt w b t) (hk : Okt t s) (ha : Blk w ga 36 #[.int .i64 0, .int .u8 4, .string s]) (hd : Blk w gd 71 #[.func (.func 43) #[] #[.pointer (some ⟨ga, 0, none⟩)]]) :
    Calls Try.prog 38 #[.pointer (some ⟨b, 0, none⟩), .pointer (some ⟨b, 6, none⟩), .pointer (some ⟨gd, 0, none⟩)] w (Lets w b (ruleM 4 0 t s).isSome ((ruleM 4 0 t s).getD t)) := by
  obtain ⟨k0, k1, k2, k3, k4⟩ := hk
  by_cases hl : t.s0.live = true
  case neg =>
    have hl : t.s0.live = false := by simpa using hl
    have hx := wants_dead_0 w b gd t h hl
    simpa [ruleM, Tr.own, Tr.oth, Tr.put, hl] using hx
  have L := fun t' r hc => wants_live_0 w b gd 43 _ t t' r h hd (fun _ _ => by kernel_rfl) hl hc
  simp only [List.append_toArray, List.cons_append, List.nil_append] at L
  by_cases h0 : t.s0.eof = true
  · have hx := L _ _ (rule4_eof_0 w b ga t s h ha h0)
    simpa [ruleM, Tr.own, Tr.oth, Tr.put, hl, h0] using hx
  have h0 : t.s0.eof = false := by simpa using h0
  by_cases h1 : prefixB t.s1.wr t.s0.rd s = true
  · have hx := L _ _ (rule4_yes_0 w b ga t s h ha (by omega) (by omega) (by omega) (by omega) h0 h1)
    simpa [ruleM, Tr.own, Tr.oth, Tr.put, hl, h0, h1] using hx
  · have h1 : prefixB t.s1.wr t.s0.rd s = false := by simpa using h1
    have hx := L _ _ (rule4_no_0 w b ga t s h ha (by omega) (by omega) (by omega) (by omega) h0 h1)
    simpa [ruleM, Tr.own, Tr.oth, Tr.put, hl, h0, h1] using hx

theorem does_5_0 (w : World) (b go gd : Nat) (t : Tr) (s : ByteArray) (h : TrAt w b t) (hk : Okt t s) (ho : Blk w go 88 #[.func (.func 39) #[] #[]]) (hd : Blk w gd 71 #[.func (.func 45) #[] #[.pointer (some ⟨go, 0, none⟩)]]) :
    Calls Try.prog 38 #[.pointer (some ⟨b, 0, none⟩), .pointer (some ⟨b, 6, none⟩), .pointer (some ⟨gd, 0, none⟩)] w (Lets w b (ruleM 5 0 t s).isSome ((ruleM 5 0 t s).getD t)) := by
  obtain ⟨k0, k1, k2, k3, k4⟩ := hk
  by_cases hl : t.s0.live = true
  case neg =>
    have hl : t.s0.live = false := by simpa using hl
    have hx := wants_dead_0 w b gd t h hl
    simpa [ruleM, Tr.own, Tr.oth, Tr.put, hl] using hx
  have L := fun t' r hc => wants_live_0 w b gd 45 _ t t' r h hd (fun _ _ => by kernel_rfl) hl hc
  simp only [List.append_toArray, List.cons_append, List.nil_append] at L
  by_cases h0 : t.s0.cl = true
  · have hx := L _ _ (rule5_no_0 w b go t s h ho h0)
    simpa [ruleM, Tr.own, Tr.oth, Tr.put, hl, h0] using hx
  · have h0 : t.s0.cl = false := by simpa using h0
    have hx := L _ _ (rule5_yes_0 w b go t s h ho h0)
    simpa [ruleM, Tr.own, Tr.oth, Tr.put, hl, h0] using hx

theorem does_6_0 (w : World) (b go gd : Nat) (t : Tr) (s : ByteArray) (h : TrAt w b t) (hk : Okt t s) (ho : Blk w go 88 #[.func (.func 39) #[] #[]]) (hd : Blk w gd 71 #[.func (.func 46) #[] #[.pointer (some ⟨go, 0, none⟩)]]) :
    Calls Try.prog 38 #[.pointer (some ⟨b, 0, none⟩), .pointer (some ⟨b, 6, none⟩), .pointer (some ⟨gd, 0, none⟩)] w (Lets w b (ruleM 6 0 t s).isSome ((ruleM 6 0 t s).getD t)) := by
  obtain ⟨k0, k1, k2, k3, k4⟩ := hk
  by_cases hl : t.s0.live = true
  case neg =>
    have hl : t.s0.live = false := by simpa using hl
    have hx := wants_dead_0 w b gd t h hl
    simpa [ruleM, Tr.own, Tr.oth, Tr.put, hl] using hx
  have L := fun t' r hc => wants_live_0 w b gd 46 _ t t' r h hd (fun _ _ => by kernel_rfl) hl hc
  simp only [List.append_toArray, List.cons_append, List.nil_append] at L
  by_cases h0 : t.s1.cl = true
  case neg =>
    have h0 : t.s1.cl = false := by simpa using h0
    have hx := L _ _ (rule6_open_0 w b go t s h ho h0)
    simpa [ruleM, Tr.own, Tr.oth, Tr.put, hl, h0] using hx
  by_cases h1 : t.s0.rd = t.s1.wr.size
  case neg =>
    have hx := L _ _ (rule6_less_0 w b go t s h ho h0 h1)
    simpa [ruleM, Tr.own, Tr.oth, Tr.put, hl, h0, h1] using hx
  by_cases h2 : t.s0.eof = true
  · have hx := L _ _ (rule6_eof_0 w b go t s h ho h0 h1 h2)
    simpa [ruleM, Tr.own, Tr.oth, Tr.put, hl, h0, h1, h2] using hx
  · have h2 : t.s0.eof = false := by simpa using h2
    have hx := L _ _ (rule6_yes_0 w b go t s h ho h0 h1 h2)
    simpa [ruleM, Tr.own, Tr.oth, Tr.put, hl, h0, h1, h2] using hx

theorem does_7_0 (w : World) (b gt go gd : Nat) (t : Tr) (s : ByteArray) (h : TrAt w b t) (hk : Okt t s) (ho : Blk w go 88 #[.func (.func 39) #[] #[]]) (ht : Blk w gt 25 #[.pointer (some ⟨b, 0, none⟩)]) (hgb : go ≠ b) (hgt : gt ≠ b) (hd : Blk w gd 71 #[.func (.func 47) #[] #[.pointer (some ⟨gt, 0, none⟩), .pointer (some ⟨go, 0, none⟩)]]) :
    Calls Try.prog 38 #[.pointer (some ⟨b, 0, none⟩), .pointer (some ⟨b, 6, none⟩), .pointer (some ⟨gd, 0, none⟩)] w (Lets w b (ruleM 7 0 t s).isSome ((ruleM 7 0 t s).getD t)) := by
  obtain ⟨k0, k1, k2, k3, k4⟩ := hk
  by_cases hl : t.s0.live = true
  case neg =>
    have hl : t.s0.live = false := by simpa using hl
    have hx := wants_dead_0 w b gd t h hl
    simpa [ruleM, Tr.own, Tr.oth, Tr.put, hl] using hx
  have L := fun t' r hc => wants_live_0 w b gd 47 _ t t' r h hd (fun _ _ => by kernel_rfl) hl hc
  simp only [List.append_toArray, List.cons_append, List.nil_append] at L
  have hdd : t.s0.dd = false := by unfold Sd.live at hl; simp at hl; exact hl.2
  have hx := L _ _ (rule7_yes_0 w b gt go t s h ho ht hdd hgb hgt)
  simpa [ruleM, Tr.own, Tr.oth, Tr.put, hl] using hx

theorem does_8_0 (w : World) (b go gt gd : Nat) (t : Tr) (s : ByteArray) (h : TrAt w b t) (hk : Okt t s) (ho : Blk w go 88 #[.func (.func 39) #[] #[]]) (ht : Blk w gt 25 #[.pointer (some ⟨b, 0, none⟩)]) (hd : Blk w gd 71 #[.func (.func 48) #[] #[.pointer (some ⟨go, 0, none⟩), .pointer (some ⟨gt, 0, none⟩)]]) :
    Calls Try.prog 38 #[.pointer (some ⟨b, 0, none⟩), .pointer (some ⟨b, 6, none⟩), .pointer (some ⟨gd, 0, none⟩)] w (Lets w b (ruleM 8 0 t s).isSome ((ruleM 8 0 t s).getD t)) := by
  obtain ⟨k0, k1, k2, k3, k4⟩ := hk
  by_cases hl : t.s0.live = true
  case neg =>
    have hl : t.s0.live = false := by simpa using hl
    have hx := wants_dead_0 w b gd t h hl
    simpa [ruleM, Tr.own, Tr.oth, Tr.put, hl] using hx
  have L := fun t' r hc => wants_live_0 w b gd 48 _ t t' r h hd (fun _ _ => by kernel_rfl) hl hc
  simp only [List.append_toArray, List.cons_append, List.nil_append] at L
  have hdd : t.s0.dd = false := by unfold Sd.live at hl; simp at hl; exact hl.2
  by_cases h0 : t.cause = true
  · have hx := L _ _ (rule8_yes_0 w b go gt t s h ho ht hdd h0)
    simpa [ruleM, Tr.own, Tr.oth, Tr.put, hl, h0] using hx
  · have h0 : t.cause = false := by simpa using h0
    have hx := L _ _ (rule8_no_0 w b go gt t s h ho ht h0)
    simpa [ruleM, Tr.own, Tr.oth, Tr.put, hl, h0] using hx

theorem does_9_0 (w : World) (b gt : Nat) (t : Tr) (s : ByteArray) (h : TrAt w b t) (hk : Okt t s) (ht : Blk w gt 25 #[.pointer (some ⟨b, 0, none⟩)]) :
    Calls Try.prog 49 #[.pointer (some ⟨b, 0, none⟩), .pointer (some ⟨b, 6, none⟩), .pointer (some ⟨gt, 0, none⟩)] w (Lets w b (ruleM 9 0 t s).isSome ((ruleM 9 0 t s).getD t)) := by
  have hx := rule9_yes_0 w b gt t s h ht
  simpa [ruleM, Tr.own, Tr.oth, Tr.put] using hx

theorem does_1_1 (w : World) (b go ga : Nat) (t : Tr) (s : ByteArray) (h : TrAt w b t) (hk : Okt t s) (ha : Blk w ga 36 #[.int .i64 1, .int .u8 1, .string s]) (ho : Blk w go 88 #[.func (.func 39) #[] #[]]) :
    Calls Try.prog 40 #[.pointer (some ⟨b, 6, none⟩), .pointer (some ⟨b, 0, none⟩), .pointer (some ⟨go, 0, none⟩), .pointer (some ⟨ga, 0, none⟩)] w (Lets w b (ruleM 1 1 t s).isSome ((ruleM 1 1 t s).getD t)) := by
  have hx := rule1_no_1 w b go ga t s h ho ha
  simpa [ruleM, Tr.own, Tr.oth, Tr.put] using hx

theorem does_2_1 (w : World) (b go ga : Nat) (t : Tr) (s : ByteArray) (h : TrAt w b t) (hk : Okt t s) (ha : Blk w ga 36 #[.int .i64 1, .int .u8 2, .string s]) (ho : Blk w go 88 #[.func (.func 39) #[] #[]]) :
    Calls Try.prog 41 #[.pointer (some ⟨b, 6, none⟩), .pointer (some ⟨b, 0, none⟩), .pointer (some ⟨go, 0, none⟩), .pointer (some ⟨ga, 0, none⟩)] w (Lets w b (ruleM 2 1 t s).isSome ((ruleM 2 1 t s).getD t)) := by
  by_cases h0 : (t.s0.opn && !t.s1.opn) = true
  · obtain ⟨h1, h2⟩ : t.s0.opn = true ∧ t.s1.opn = false := by simpa using h0
    have hx := rule2_yes_1 w b go ga t s h ho ha h1 h2
    simpa [ruleM, Tr.own, Tr.oth, Tr.put, h1, h2] using hx
  · have h0 : (t.s0.opn && !t.s1.opn) = false := by simpa using h0
    have hx := rule2_no_1 w b go ga t s h ho ha h0
    simpa [ruleM, Tr.own, Tr.oth, Tr.put, h0] using hx

theorem does_3_1 (w : World) (b ga gd : Nat) (t : Tr) (s : ByteArray) (h : TrAt w b t) (hk : Okt t s) (ha : Blk w ga 36 #[.int .i64 1, .int .u8 3, .string s]) (hd : Blk w gd 71 #[.func (.func 42) #[] #[.pointer (some ⟨ga, 0, none⟩)]]) :
    Calls Try.prog 38 #[.pointer (some ⟨b, 6, none⟩), .pointer (some ⟨b, 0, none⟩), .pointer (some ⟨gd, 0, none⟩)] w (Lets w b (ruleM 3 1 t s).isSome ((ruleM 3 1 t s).getD t)) := by
  obtain ⟨k0, k1, k2, k3, k4⟩ := hk
  by_cases hl : t.s1.live = true
  case neg =>
    have hl : t.s1.live = false := by simpa using hl
    have hx := wants_dead_1 w b gd t h hl
    simpa [ruleM, Tr.own, Tr.oth, Tr.put, hl] using hx
  have L := fun t' r hc => wants_live_1 w b gd 42 _ t t' r h hd (fun _ _ => by kernel_rfl) hl hc
  simp only [List.append_toArray, List.cons_append, List.nil_append] at L
  by_cases h0 : t.s1.cl = true
  · have hx := L _ _ (rule3_no_1 w b ga t s h ha h0)
    simpa [ruleM, Tr.own, Tr.oth, Tr.put, hl, h0] using hx
  · have h0 : t.s1.cl = false := by simpa using h0
    have hx := L _ _ (rule3_yes_1 w b ga t s h ha h0 (by omega))
    simpa [ruleM, Tr.own, Tr.oth, Tr.put, hl, h0] using hx

theorem does_4_1 (w : World) (b ga gd : Nat) (t : Tr) (s : ByteArray) (h : TrAt w b t) (hk : Okt t s) (ha : Blk w ga 36 #[.int .i64 1, .int .u8 4, .string s]) (hd : Blk w gd 71 #[.func (.func 43) #[] #[.pointer (some ⟨ga, 0, none⟩)]]) :
    Calls Try.prog 38 #[.pointer (some ⟨b, 6, none⟩), .pointer (some ⟨b, 0, none⟩), .pointer (some ⟨gd, 0, none⟩)] w (Lets w b (ruleM 4 1 t s).isSome ((ruleM 4 1 t s).getD t)) := by
  obtain ⟨k0, k1, k2, k3, k4⟩ := hk
  by_cases hl : t.s1.live = true
  case neg =>
    have hl : t.s1.live = false := by simpa using hl
    have hx := wants_dead_1 w b gd t h hl
    simpa [ruleM, Tr.own, Tr.oth, Tr.put, hl] using hx
  have L := fun t' r hc => wants_live_1 w b gd 43 _ t t' r h hd (fun _ _ => by kernel_rfl) hl hc
  simp only [List.append_toArray, List.cons_append, List.nil_append] at L
  by_cases h0 : t.s1.eof = true
  · have hx := L _ _ (rule4_eof_1 w b ga t s h ha h0)
    simpa [ruleM, Tr.own, Tr.oth, Tr.put, hl, h0] using hx
  have h0 : t.s1.eof = false := by simpa using h0
  by_cases h1 : prefixB t.s0.wr t.s1.rd s = true
  · have hx := L _ _ (rule4_yes_1 w b ga t s h ha (by omega) (by omega) (by omega) (by omega) h0 h1)
    simpa [ruleM, Tr.own, Tr.oth, Tr.put, hl, h0, h1] using hx
  · have h1 : prefixB t.s0.wr t.s1.rd s = false := by simpa using h1
    have hx := L _ _ (rule4_no_1 w b ga t s h ha (by omega) (by omega) (by omega) (by omega) h0 h1)
    simpa [ruleM, Tr.own, Tr.oth, Tr.put, hl, h0, h1] using hx

theorem does_5_1 (w : World) (b go gd : Nat) (t : Tr) (s : ByteArray) (h : TrAt w b t) (hk : Okt t s) (ho : Blk w go 88 #[.func (.func 39) #[] #[]]) (hd : Blk w gd 71 #[.func (.func 45) #[] #[.pointer (some ⟨go, 0, none⟩)]]) :
    Calls Try.prog 38 #[.pointer (some ⟨b, 6, none⟩), .pointer (some ⟨b, 0, none⟩), .pointer (some ⟨gd, 0, none⟩)] w (Lets w b (ruleM 5 1 t s).isSome ((ruleM 5 1 t s).getD t)) := by
  obtain ⟨k0, k1, k2, k3, k4⟩ := hk
  by_cases hl : t.s1.live = true
  case neg =>
    have hl : t.s1.live = false := by simpa using hl
    have hx := wants_dead_1 w b gd t h hl
    simpa [ruleM, Tr.own, Tr.oth, Tr.put, hl] using hx
  have L := fun t' r hc => wants_live_1 w b gd 45 _ t t' r h hd (fun _ _ => by kernel_rfl) hl hc
  simp only [List.append_toArray, List.cons_append, List.nil_append] at L
  by_cases h0 : t.s1.cl = true
  · have hx := L _ _ (rule5_no_1 w b go t s h ho h0)
    simpa [ruleM, Tr.own, Tr.oth, Tr.put, hl, h0] using hx
  · have h0 : t.s1.cl = false := by simpa using h0
    have hx := L _ _ (rule5_yes_1 w b go t s h ho h0)
    simpa [ruleM, Tr.own, Tr.oth, Tr.put, hl, h0] using hx

theorem does_6_1 (w : World) (b go gd : Nat) (t : Tr) (s : ByteArray) (h : TrAt w b t) (hk : Okt t s) (ho : Blk w go 88 #[.func (.func 39) #[] #[]]) (hd : Blk w gd 71 #[.func (.func 46) #[] #[.pointer (some ⟨go, 0, none⟩)]]) :
    Calls Try.prog 38 #[.pointer (some ⟨b, 6, none⟩), .pointer (some ⟨b, 0, none⟩), .pointer (some ⟨gd, 0, none⟩)] w (Lets w b (ruleM 6 1 t s).isSome ((ruleM 6 1 t s).getD t)) := by
  obtain ⟨k0, k1, k2, k3, k4⟩ := hk
  by_cases hl : t.s1.live = true
  case neg =>
    have hl : t.s1.live = false := by simpa using hl
    have hx := wants_dead_1 w b gd t h hl
    simpa [ruleM, Tr.own, Tr.oth, Tr.put, hl] using hx
  have L := fun t' r hc => wants_live_1 w b gd 46 _ t t' r h hd (fun _ _ => by kernel_rfl) hl hc
  simp only [List.append_toArray, List.cons_append, List.nil_append] at L
  by_cases h0 : t.s0.cl = true
  case neg =>
    have h0 : t.s0.cl = false := by simpa using h0
    have hx := L _ _ (rule6_open_1 w b go t s h ho h0)
    simpa [ruleM, Tr.own, Tr.oth, Tr.put, hl, h0] using hx
  by_cases h1 : t.s1.rd = t.s0.wr.size
  case neg =>
    have hx := L _ _ (rule6_less_1 w b go t s h ho h0 h1)
    simpa [ruleM, Tr.own, Tr.oth, Tr.put, hl, h0, h1] using hx
  by_cases h2 : t.s1.eof = true
  · have hx := L _ _ (rule6_eof_1 w b go t s h ho h0 h1 h2)
    simpa [ruleM, Tr.own, Tr.oth, Tr.put, hl, h0, h1, h2] using hx
  · have h2 : t.s1.eof = false := by simpa using h2
    have hx := L _ _ (rule6_yes_1 w b go t s h ho h0 h1 h2)
    simpa [ruleM, Tr.own, Tr.oth, Tr.put, hl, h0, h1, h2] using hx

theorem does_7_1 (w : World) (b gt go gd : Nat) (t : Tr) (s : ByteArray) (h : TrAt w b t) (hk : Okt t s) (ho : Blk w go 88 #[.func (.func 39) #[] #[]]) (ht : Blk w gt 25 #[.pointer (some ⟨b, 0, none⟩)]) (hgb : go ≠ b) (hgt : gt ≠ b) (hd : Blk w gd 71 #[.func (.func 47) #[] #[.pointer (some ⟨gt, 0, none⟩), .pointer (some ⟨go, 0, none⟩)]]) :
    Calls Try.prog 38 #[.pointer (some ⟨b, 6, none⟩), .pointer (some ⟨b, 0, none⟩), .pointer (some ⟨gd, 0, none⟩)] w (Lets w b (ruleM 7 1 t s).isSome ((ruleM 7 1 t s).getD t)) := by
  obtain ⟨k0, k1, k2, k3, k4⟩ := hk
  by_cases hl : t.s1.live = true
  case neg =>
    have hl : t.s1.live = false := by simpa using hl
    have hx := wants_dead_1 w b gd t h hl
    simpa [ruleM, Tr.own, Tr.oth, Tr.put, hl] using hx
  have L := fun t' r hc => wants_live_1 w b gd 47 _ t t' r h hd (fun _ _ => by kernel_rfl) hl hc
  simp only [List.append_toArray, List.cons_append, List.nil_append] at L
  have hdd : t.s1.dd = false := by unfold Sd.live at hl; simp at hl; exact hl.2
  have hx := L _ _ (rule7_yes_1 w b gt go t s h ho ht hdd hgb hgt)
  simpa [ruleM, Tr.own, Tr.oth, Tr.put, hl] using hx

theorem does_8_1 (w : World) (b go gt gd : Nat) (t : Tr) (s : ByteArray) (h : TrAt w b t) (hk : Okt t s) (ho : Blk w go 88 #[.func (.func 39) #[] #[]]) (ht : Blk w gt 25 #[.pointer (some ⟨b, 0, none⟩)]) (hd : Blk w gd 71 #[.func (.func 48) #[] #[.pointer (some ⟨go, 0, none⟩), .pointer (some ⟨gt, 0, none⟩)]]) :
    Calls Try.prog 38 #[.pointer (some ⟨b, 6, none⟩), .pointer (some ⟨b, 0, none⟩), .pointer (some ⟨gd, 0, none⟩)] w (Lets w b (ruleM 8 1 t s).isSome ((ruleM 8 1 t s).getD t)) := by
  obtain ⟨k0, k1, k2, k3, k4⟩ := hk
  by_cases hl : t.s1.live = true
  case neg =>
    have hl : t.s1.live = false := by simpa using hl
    have hx := wants_dead_1 w b gd t h hl
    simpa [ruleM, Tr.own, Tr.oth, Tr.put, hl] using hx
  have L := fun t' r hc => wants_live_1 w b gd 48 _ t t' r h hd (fun _ _ => by kernel_rfl) hl hc
  simp only [List.append_toArray, List.cons_append, List.nil_append] at L
  have hdd : t.s1.dd = false := by unfold Sd.live at hl; simp at hl; exact hl.2
  by_cases h0 : t.cause = true
  · have hx := L _ _ (rule8_yes_1 w b go gt t s h ho ht hdd h0)
    simpa [ruleM, Tr.own, Tr.oth, Tr.put, hl, h0] using hx
  · have h0 : t.cause = false := by simpa using h0
    have hx := L _ _ (rule8_no_1 w b go gt t s h ho ht h0)
    simpa [ruleM, Tr.own, Tr.oth, Tr.put, hl, h0] using hx

theorem does_9_1 (w : World) (b gt : Nat) (t : Tr) (s : ByteArray) (h : TrAt w b t) (hk : Okt t s) (ht : Blk w gt 25 #[.pointer (some ⟨b, 0, none⟩)]) :
    Calls Try.prog 49 #[.pointer (some ⟨b, 6, none⟩), .pointer (some ⟨b, 0, none⟩), .pointer (some ⟨gt, 0, none⟩)] w (Lets w b (ruleM 9 1 t s).isSome ((ruleM 9 1 t s).getD t)) := by
  have hx := rule9_yes_1 w b gt t s h ht
  simpa [ruleM, Tr.own, Tr.oth, Tr.put] using hx

end Go.Proofs.Ytcdbbdjabccjdaa
