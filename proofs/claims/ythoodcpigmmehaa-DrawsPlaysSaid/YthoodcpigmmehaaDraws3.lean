/- Contracts of layer 14 (draws), third part: the document's draws. -/
import Derived.Test.YthoodcpigmmehaaDraws2
set_option linter.unusedVariables false
set_option linter.unusedSimpArgs false
namespace Go.Proofs.Ythoodcpigmmehaa
open Go.RowKit

/-- the document's draws in memory -/
def RfAt (w : World) (b : Nat) (A : Option Addr) (c : Nat) (l : List Nat) (last used : Nat) : Prop :=
  Blk w b 40 #[.slice A l.length c, .int .u32 (last : Int), .int .u64 (used : Int)] ∧ R32 w b A l ∧ l.length ≤ c ∧ c ≤ 9223372036854775807
def RfPost (w : World) (b : Nat) (l : List Nat) (last used : Nat) (w' : World) : Prop := (∃ A c, RfAt w' b A c l last used) ∧ w.grownBy w' (some b)
section
variable {w w' : World} {b : Nat} {A : Option Addr} {c last used : Nat} {l : List Nat}
theorem RfAt.of (h : RfAt w b A c l last used) (hs : w.heap.size ≤ w'.heap.size) (hk : ∀ g, g < w.heap.size → w'.heap[g]? = w.heap[g]?) : RfAt w' b A c l last used :=
  ⟨(hk b h.1.lt).trans h.1, h.2.1.of hs fun g hg _ => hk g hg, h.2.2⟩
theorem RfAt.below (h : RfAt w b A c l last used) (hb : Below w.heap.size w w') : RfAt w' b A c l last used := h.of hb.size hb.block
theorem RfAt.lt (h : RfAt w b A c l last used) : b < w.heap.size := h.1.lt
theorem RfAt.c0 (h : RfAt w b A c l last used) : w.cell? ⟨b, 0, none⟩ = some (.slice A l.length c) := by have := h.1.cell 0; simpa using this
theorem RfAt.c1 (h : RfAt w b A c l last used) : w.cell? ⟨b, 1, none⟩ = some (.int .u32 (last : Int)) := by have := h.1.cell 1; simpa using this
theorem RfAt.c2 (h : RfAt w b A c l last used) : w.cell? ⟨b, 2, none⟩ = some (.int .u64 (used : Int)) := by have := h.1.cell 2; simpa using this
theorem RfAt.set1 (h : RfAt w b A c l last used) (x : Nat) : RfAt (w.setCell ⟨b, 1, none⟩ (.int .u32 (x : Int))) b A c l x used := by
  have hk := h.1.set_ 1 (.int .u32 (x : Int))
  exact ⟨by simpa using hk, h.2.1.grown (only_set (World.grownBy.refl w _) 1 _), h.2.2⟩
theorem RfAt.set2 (h : RfAt w b A c l last used) (x : Nat) : RfAt (w.setCell ⟨b, 2, none⟩ (.int .u64 (x : Int))) b A c l last x := by
  have hk := h.1.set_ 2 (.int .u64 (x : Int))
  exact ⟨by simpa using hk, h.2.1.grown (only_set (World.grownBy.refl w _) 2 _), h.2.2⟩
end

theorem ref_rule (x : Nat) (w : World) (hx : x < 4294967296) : Calls Try.prog 43 #[.int .u32 (x : Int)] w fun e w' => e = .returned (.int .u32 ((rule x : Nat) : Int)) ∧ w = w' := by
  have i1 : (x : Int) < 4294967296 := by omega
  have hr : (((x : Int) * 1664525 + 1013904223) % 4294967296) = ((rule x : Nat) : Int) := by unfold rule; omega
  have HR := Lib.hid hr
  clear hr
  go_enter Try.func43, Try.ntmps43
  go_wp2
  go_ret
  exact ⟨ret_int HR.out, rfl⟩
theorem ref_peek (w : World) (b : Nat) (A : Option Addr) (c : Nat) (l : List Nat) (last used : Nat) (h : RfAt w b A c l last used) (hl : last < 4294967296) :
    Calls Try.prog 17 #[.pointer (some ⟨b, 0, none⟩)] w fun e w' => e = .returned (.int .u32 ((headN l last : Nat) : Int)) ∧ w = w' := by
  have k0 := h.c0
  have c1 := h.c1
  have hR := h.2.1
  have hc1 := h.2.2.1
  have hc2 := h.2.2.2
  clear h
  cases l with
  | nil =>
    have e0 : (0 : Nat) = ([] : List Nat).length := rfl
    have k9 : w.cell? ⟨b, 0, none⟩ = some (.slice A 0 c) := k0
    clear hR k0 e0
    go_enter Try.func17, Try.ntmps17
    go_wp2_with fail
    (with_reducible refine (ref_rule last _ hl).mono ?_)
    rintro e w' ⟨rfl, rfl⟩
    go_wp2
    go_ret
    exact ⟨rfl, rfl⟩
  | cons x t =>
    rcases hR with h | ⟨r, off, rfl, h1, h2, h3⟩
    · cases h
    have hx := h3 0 (by simp)
    simp only [Nat.add_zero, List.getD_cons_zero] at hx
    have hn : t.length + 1 ≤ c := hc1
    have k9 : w.cell? ⟨b, 0, none⟩ = some (.slice (some ⟨r, off, none⟩) (t.length + 1) c) := k0
    clear h3 k0 hc1
    go_enter Try.func17, Try.ntmps17
    go_wp2
    go_ret
    exact ⟨rfl, rfl⟩
set_option maxHeartbeats 1000000 in
theorem ref_next (w : World) (b : Nat) (A : Option Addr) (c : Nat) (l : List Nat) (last used : Nat) (h : RfAt w b A c l last used) (hl : last < 4294967296) (hu : used < 1099511627776) :
    Calls Try.prog 21 #[.pointer (some ⟨b, 0, none⟩)] w fun e w' => e = .returned (.int .u32 ((headN l last : Nat) : Int)) ∧ RfPost w b l.tail (headN l last) (used + 1) w' := by
  have p := ref_peek w b A c l last used h hl
  generalize headN l last = x at *
  have f0 := h.1.frozen 0
  have k0 := h.c0
  have hfin : ∀ W A' c', RfAt W b A' c' l.tail last used → w.grownBy W (some b) → RfPost w b l.tail x (used + 1) ((W.setCell ⟨b, 1, none⟩ (.int .u32 (x : Int))).setCell ⟨b, 2, none⟩ (.int .u64 ((used : Int) + 1))) := by
    intro W A' c' hW hg
    exact ⟨⟨A', c', (hW.set1 x).set2 (used + 1)⟩, only_set (only_set hg 1 _) 2 _⟩
  cases l with
  | nil =>
    have k9 : w.cell? ⟨b, 0, none⟩ = some (.slice A 0 c) := k0
    have f1 := h.1.frozen 1
    have f2 := h.1.frozen 2
    have c1 := h.c1
    have c2 := h.c2
    have hp := hfin w A c h (World.grownBy.refl w _)
    have P := Lib.hid p
    clear p
    have Hp := Lib.hid hp
    clear hp
    have H := Lib.hid h
    clear h
    clear hfin k0
    go_enter Try.func21, Try.ntmps21
    go_wp2_with fail
    (with_reducible refine (P.out).mono ?_)
    rintro e w' ⟨rfl, rfl⟩
    go_wp2
    go_ret
    exact ⟨rfl, Hp.out⟩
  | cons y t =>
    obtain ⟨n, hn⟩ : ∃ n, n = t.length := ⟨_, rfl⟩
    have hln : (y :: t).length = n + 1 := by rw [hn]; rfl
    obtain ⟨hk, hR, hc1, hc2⟩ := h
    rw [hln] at k0 hk hc1
    rcases hR with h | ⟨r, off, rfl, hr1, hr2, hr3⟩
    · cases h
    have hpost : ∀ A', (A' = some ⟨r, off + 1, none⟩ ∨ n = 0) → RfAt (w.setCell ⟨b, 0, none⟩ (.slice A' n (c - 1))) b A' (c - 1) t last used ∧ w.grownBy (w.setCell ⟨b, 0, none⟩ (.slice A' n (c - 1))) (some b) := fun A' hA => by
      have hk := hk.set_ 0 (.slice A' n (c - 1))
      have hg : w.grownBy (w.setCell ⟨b, 0, none⟩ (.slice A' n (c - 1))) (some b) := only_set (World.grownBy.refl w _) 0 _
      refine ⟨⟨by rw [hn] at hk ⊢; simpa using hk, ?_, by rw [← hn]; omega, by omega⟩, hg⟩
      rcases hA with rfl | h0
      · obtain ⟨hr2, cs, hr4⟩ := hr2
        refine .inr ⟨r, off + 1, rfl, hr1, ⟨Nat.lt_of_lt_of_le hr2 hg.size, cs, Blk.grown hr4 hg (by intro e; injection e with e; exact hr1 e)⟩, fun j hj => ?_⟩
        have := hr3 (j + 1) (by rw [hln]; omega)
        rw [World.cell?_of_block (hg.block r hr2 (by intro e; injection e with e; exact hr1 e))]
        rw [show off + 1 + j = off + (j + 1) by omega]
        simpa using this
      · exact .inl (List.eq_nil_of_length_eq_zero (by omega))
    have i1 : (n : Int) + 1 ≤ (c : Int) := by omega
    have i2 : (c : Int) ≤ 9223372036854775807 := by omega
    have i3 : (1 : Int) ≤ (c : Int) := by omega
    have i4 : (0 : Int) < (n : Int) + 1 := by omega
    have P := Lib.hid p
    clear p
    have Hpost := Lib.hid hpost
    clear hpost
    have Hfin := Lib.hid hfin
    clear hfin
    have Hr3 := Lib.hid hr3
    clear hr3
    have Hn := Lib.hid hn
    clear hn
    have Hk := Lib.hid hk
    clear hk
    clear hln
    by_cases he : c = 1
    · have hn0 : n = 0 := by omega
      subst he hn0
      go_enter Try.func21, Try.ntmps21
      go_wp2_with fail
      (with_reducible refine (P.out).mono ?_)
      rintro e w' ⟨rfl, rfl⟩
      go_upto_region 4 with fail
      have q := Hpost.out (some ⟨r, off, none⟩) (by simp)
      generalize w.setCell _ _ = W at *
      have f1 := q.1.1.frozen 1
      have f2 := q.1.1.frozen 2
      have c1 := q.1.c1
      have c2 := q.1.c2
      have hp := Hfin.out _ _ _ q.1 q.2
      have Hp := Lib.hid hp
      clear hp
      clear q
      go_wp2
      go_ret
      exact ⟨rfl, Hp.out⟩
    · go_enter Try.func21, Try.ntmps21
      go_wp2_with fail
      (with_reducible refine (P.out).mono ?_)
      rintro e w' ⟨rfl, rfl⟩
      go_upto_region 4 with fail
      have q := Hpost.out (some ⟨r, off + 1, none⟩) (.inl rfl)
      generalize w.setCell _ _ = W at *
      have f1 := q.1.1.frozen 1
      have f2 := q.1.1.frozen 2
      have c1 := q.1.c1
      have c2 := q.1.c2
      have hp := Hfin.out _ _ _ q.1 q.2
      have Hp := Lib.hid hp
      clear hp
      clear q
      go_wp2
      go_ret
      exact ⟨rfl, Hp.out⟩
theorem ref_add_full (w : World) (b : Nat) (A : Option Addr) (c : Nat) (l : List Nat) (last used : Nat) (h : RfAt w b A c l last used) (A2 : Option Addr) (n2 c2 : Nat) (hf : 4096 < l.length + n2) (hl : l.length ≤ 4096) (hl2 : n2 ≤ 1099511627776) :
    Calls Try.prog 19 #[.pointer (some ⟨b, 0, none⟩), .slice A2 n2 c2] w fun e w' => e = .returned (.int .i64 6) ∧ w = w' := by
  have c0 := h.c0
  obtain ⟨n, hn⟩ : ∃ n, n = l.length := ⟨_, rfl⟩
  rw [← hn] at c0 hf hl
  have i1 : (4096 : Int) < (n : Int) + (n2 : Int) := by omega
  have i2 : (n : Int) ≤ 4096 := by omega
  have i3 : (n2 : Int) ≤ 1099511627776 := by omega
  have H := Lib.hid h
  clear h
  have Hn := Lib.hid hn
  clear hn
  go_enter Try.func19, Try.ntmps19
  go_wp2
  go_ret
  exact ⟨rfl, rfl⟩
/-- .. behind an Add -/
theorem ref_add_post {w w' : World} {b : Nat} {A : Option Addr} {c : Nat} {l more : List Nat} {last used : Nat} {v : Value} (h : RfAt w b A c l last used) (hB : Below w.heap.size w w') (ho : w'.ownsRow w.heap.size 32 1 v more.length (more.map u32v)) :
    ∃ A2 c2, v = .slice A2 more.length c2 ∧ (w'.cell? ⟨b, 0, none⟩ = some (.slice A l.length c) ∧ w'.frozen? ⟨b, 0, none⟩ = false) ∧ RfPost w b more last used (w'.setCell ⟨b, 0, none⟩ v) := by
  have hb1 := h.1.below hB h.lt
  have hk := hb1.set_ 0 v
  obtain ⟨A2, c2, rfl, hR, hc1, hc2⟩ := own_R32 ho hb1 (by decide)
  have hg : w.grownBy (w'.setCell ⟨b, 0, none⟩ (.slice A2 more.length c2)) (some b) := only_set (only_of_below hB _) 0 _
  have c0 := hb1.cell 0
  have hg2 : w'.grownBy (w'.setCell ⟨b, 0, none⟩ (.slice A2 more.length c2)) (some b) := only_set (World.grownBy.refl w' _) 0 _
  exact ⟨A2, c2, rfl, ⟨by simpa using c0, hb1.frozen 0⟩, ⟨A2, c2, ⟨by simpa using hk, hR.grown hg2, hc1, hc2⟩⟩, hg⟩
set_option maxRecDepth 100000 in
set_option maxHeartbeats 1000000 in
theorem ref_add_ok (w : World) (b : Nat) (A : Option Addr) (c : Nat) (l : List Nat) (last used : Nat) (h : RfAt w b A c l last used) (A2 : Option Addr) (c2 : Nat) (more : List Nat) (hr : Reads w w.heap.size 1 A2 more.length (more.map u32v)) (hf : l.length + more.length ≤ 4096) :
    Calls Try.prog 19 #[.pointer (some ⟨b, 0, none⟩), .slice A2 more.length c2] w fun e w' => e = .returned (.int .i64 0) ∧ RfPost w b (l ++ more) last used w' := by
  have c0 := h.c0
  have hbl := h.lt
  obtain ⟨i0, hi, h0, h1, h2⟩ := info_parts infoU32
  have hr1 := (h.2.1.reads.alloc (Nat.le_refl _) (.cells #[] 32))
  have hr2 := (hr.alloc (Nat.le_refl _) (.cells #[] 32))
  have hown := World.ownsRow_made (base := w.heap.size) (e := 32) (size := 1) w #[] 0 (Nat.le_refl _) (by simp) (by simp)
  have hB0 : Below w.heap.size w (w.alloc (.cells #[] 32)) := (Below.refl _ _).alloc (Nat.le_refl _) _
  have hpost := fun w' v (hB : Below w.heap.size w w') ho' => ref_add_post (more := l ++ more) (v := v) h hB ho'
  obtain ⟨n, hn⟩ : ∃ n, n = l.length := ⟨_, rfl⟩
  obtain ⟨n2, hn2⟩ : ∃ n, n = more.length := ⟨_, rfl⟩
  have hstep : ∀ v1 w1, w1.ownsRow w.heap.size 32 1 v1 (0 + n) ([] ++ l.map u32v) → (w.alloc (.cells #[] 32)).grownBy w1 (some w.heap.size) →
      w1.ownsRow w.heap.size 32 1 v1 n (l.map u32v) ∧ Below w.heap.size w w1 ∧ w.heap.size ≤ w1.heap.size ∧ Reads w1 w.heap.size 1 A2 n2 (more.map u32v) := by
    intro v1 w1 ho hg
    have hB1 := hB0.grown hg (by simp) (by intro k hk; injection hk with hk; omega)
    rw [Nat.zero_add, List.nil_append] at ho
    exact ⟨ho, hB1, hB1.size, by rw [hn2]; exact hr.below hB1⟩
  have hstep2 : ∀ v1 w1 v2 w2, w1.ownsRow w.heap.size 32 1 v1 n (l.map u32v) → Below w.heap.size w w1 → w2.ownsRow w.heap.size 32 1 v2 (n + n2) (l.map u32v ++ more.map u32v) → w1.grownBy w2 v1.ownBlock →
      ∃ A3 c3, v2 = .slice A3 (n + n2) c3 ∧ (w2.cell? ⟨b, 0, none⟩ = some (.slice A n c) ∧ w2.frozen? ⟨b, 0, none⟩ = false) ∧ RfPost w b (l ++ more) last used (w2.setCell ⟨b, 0, none⟩ v2) := by
    intro v1 w1 v2 w2 ho1 hB1 ho2 hg2
    have hB2 := hB1.grown hg2 hB1.size (fun k hk => (ho1.lt k hk).1)
    rw [hn, hn2, ← List.map_append, ← List.length_append] at ho2
    have := hpost w2 v2 hB2 ho2
    rw [List.length_append, ← hn, ← hn2] at this
    exact this
  rw [← hn, ← hn2] at hf
  rw [← hn] at c0 hr1
  rw [← hn2] at hr2 ⊢
  have i1 : (n : Int) + (n2 : Int) ≤ 4096 := by omega
  have i2 : (0 : Int) ≤ (n : Int) := by omega
  have i3 : (0 : Int) ≤ (n2 : Int) := by omega
  have H := Lib.hid h
  clear h
  have Hn := Lib.hid hn
  clear hn
  have Hn2 := Lib.hid hn2
  clear hn2
  have Hpost := Lib.hid hpost
  clear hpost
  have Hstep := Lib.hid hstep
  clear hstep
  have Hstep2 := Lib.hid hstep2
  clear hstep2
  have Hown := Lib.hid hown
  clear hown
  have Hr1 := Lib.hid hr1
  clear hr1
  have Hi := Lib.hid hi
  clear hi
  have H0 := Lib.hid h0
  clear h0
  have H1 := Lib.hid h1
  clear h1
  have H2 := Lib.hid h2
  clear h2
  clear hr hB0 hr2
  go_enter Try.func19, Try.ntmps19
  go_wp2_with (first
    | (at_builtin; refine wpList_append_any _ rfl (.tmp 15) (.tmp 19) _ rfl w.heap.size 32 i0 _ 1 4 Try.underlying22 Hi.out H0.out H1.out H2.out rfl (by decide) (.slice (some ⟨w.heap.size, 0, none⟩) 0 0) 0 [] rfl Hown.out _ A n c (l.map u32v) rfl Hr1.out (by intro u hu; obtain ⟨x, _, rfl⟩ := List.mem_map.1 hu; rfl) (by simp only [maxLen]; omega) (by omega) (by simp) ?_; intro v1 w1 hown1 hg1 hat1; obtain ⟨ho1, hB1, hs1, hr9⟩ := Hstep.out v1 w1 hown1 hg1; have hst2 := fun v2 w2 => Hstep2.out v1 w1 v2 w2 ho1 hB1; have c0b := (hB1.cell (p := ⟨b, 0, none⟩) hbl).trans c0; have f0 := (H.out.1.below hB1 hbl).frozen 0; clear hown1 hg1 hat1 hB1 Hstep Hstep2 Hown Hr1 c0; have Ho1 := Lib.hid ho1; have Hr9 := Lib.hid hr9; have Hst2 := Lib.hid hst2; clear ho1 hr9 hst2)
    | (at_builtin; refine wpList_append_any _ rfl (.tmp 20) (.tmp 21) _ rfl w.heap.size 32 i0 _ 1 4 Try.underlying22 Hi.out H0.out H1.out H2.out rfl (by decide) _ n (l.map u32v) rfl Ho1.out _ A2 n2 c2 (more.map u32v) rfl Hr9.out (by intro u hu; obtain ⟨x, _, rfl⟩ := List.mem_map.1 hu; rfl) (by simp only [maxLen]; omega) (by omega) hs1 ?_; intro v2 w2 hown2 hg2 hat2; obtain ⟨A3, c3, hv, ⟨k0, kf⟩, hp⟩ := Hst2.out v2 w2 hown2 hg2; subst hv; have Hp := Lib.hid hp; clear hp hown2 hg2 hat2 c0b f0))
  go_ret
  exact ⟨rfl, Hp.out⟩
end Go.Proofs.Ythoodcpigmmehaa
