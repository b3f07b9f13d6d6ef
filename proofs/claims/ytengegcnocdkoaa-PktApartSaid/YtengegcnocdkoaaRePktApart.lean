/- The statement PktApart: segments which may be and are not the same have packets that are not; what is turned, and turned back, is what it was, but for its window: for any two segments, any shift; and a known run goes as it must. -/
import Derived.Test.YtengegcnocdkoaaRe13
import Derived.Test.YtengegcnocdkoaaRe6
set_option linter.unusedVariables false
set_option linter.unusedSimpArgs false
set_option maxRecDepth 20000
namespace Go.Proofs.Ytengegcnocdkoaa.pktApart
open Go.ChangeShapes Go.WideShapes Go.ChangeAt Go.RowKit Go.BigFrame
open Go.ChangeMaps (open_string shut_string)
def zeroC : Array Value := #[.int .u32 0, .int .u16 0, .int .u32 0, .int .u16 0, .int .u32 0, .int .u32 0, .int .u8 0, .int .u16 0, .int .u16 0, .int .i64 0, .bool false, .slice none 0 0, .bool false, .int .u32 0, .int .u32 0, .string ⟨#[]⟩]
theorem alloc_seg (w : World) : (Instr.alloc 30 true (.tuple #[])).run Try.prog w = .ok (.pointer (some ⟨w.heap.size, 0, none⟩)) (w.alloc (.cells zeroC 30)) := by kernel_rfl
theorem field_win (t : Sg) (A : Option Addr) (c : Nat) (w : World) : (Instr.field 30 (.agg (t.c A c)) 5).run Try.prog w = .ok (.int .u16 (t.s7 : Int)) w := by kernel_rfl
/-- .. and its blocks lie in a row of blocks -/
def rowTy (A : Option Addr) (W : World) : Prop := ∀ g o k, A = some ⟨g, o, k⟩ → g < W.heap.size ∧ ∃ cs fr, W.heap[g]? = some (.cells cs 92 fr)
def segTT (s : Sg) (l : List Value) (W : World) : Prop := ∃ A c, l = [.agg (s.c A c)] ∧ BlR W A s.o.bl ∧ rowTy A W
theorem rowTy.below {A : Option Addr} {w w' : World} (h : rowTy A w) (hb : Below w.heap.size w w') : rowTy A w' := fun g o k e => by
  obtain ⟨h1, cs, fr, h2⟩ := h g o k e
  exact ⟨Nat.lt_of_lt_of_le h1 hb.size, cs, fr, (hb.block g h1).trans h2⟩
theorem segTT.of {s : Sg} (l : List Value) (w w' : World) (hb : Below w.heap.size w w') (h : segTT s l w) : segTT s l w' := by
  obtain ⟨A, c, h1, h2, h3⟩ := h
  exact ⟨A, c, h1, h2.below hb, h3.below hb⟩
theorem segTT.is {s : Sg} {v : Value} {W : World} (h : segTT s [v] W) : ∃ A c, v = .agg (s.c A c) ∧ BlR W A s.o.bl ∧ rowTy A W := by
  obtain ⟨A, c, h1, h2⟩ := h
  injection h1 with h1
  exact ⟨A, c, h1, h2⟩
theorem BlR.kept {W W' : World} {A : Option Addr} {l : List (Int × Int)} (h : BlR W A l) (hk : ∀ g o k, A = some ⟨g, o, k⟩ → W'.heap[g]? = W.heap[g]?) (hs : W.heap.size ≤ W'.heap.size) : BlR W' A l := by
  rcases h with rfl | ⟨rb, off, rfl, h1, h2⟩
  · exact .inl rfl
  · have e := hk rb off none rfl
    refine .inr ⟨rb, off, rfl, Nat.lt_of_lt_of_le h1 hs, fun j p hj => ?_⟩
    have ce : ∀ i, W'.cell? ⟨rb, i, none⟩ = W.cell? ⟨rb, i, none⟩ := fun i => by
      unfold World.cell?
      simp only [e]
    rw [ce, ce]
    exact h2 j p hj
theorem pturned_T (w : World) (s : Sg) (x : Sh) (A : Option Addr) (c : Nat) (hs : s.wf) (hr : BlR w A s.o.bl) (hn : s.o.bl.length ≤ 1000) : Calls Try.prog 23 #[.agg (s.c A c), .agg x.c] w fun e w' => ∃ v, e = .returned v ∧ segTT (turnS s x) [v] w' ∧ Below w.heap.size w w' := by
  have h := turned_any s.s0 s.s1 s.s2 s.s3 s.s4 s.s5 s.f s.s7 s.o.mss s.o.scale s.o.sack s.o.time A s.o.bl.length c s.o.val s.o.echo s.d x.x0 x.x1 x.x2 x.x3 x.x4 x.x5 x.x6 x.x7 x.x8 x.x9 s.o.bl w rfl hr (by omega) (by omega) (by have := hs.b7; omega)
  refine h.mono ?_
  rintro e w' ⟨A', c', _, rfl, ho, hb⟩
  refine ⟨_, rfl, ⟨A', c', ?_, ?_, ?_⟩, hb⟩
  · have hl : (s.o.bl.map (turnB x.x5)).length = (turnS s x).o.bl.length := by
      show _ = (s.o.bl.map (tP x.x5)).length
      simp
    rw [hl, turnedC_S]
  · obtain ⟨A2, c2, e1, e2⟩ := own_blrC ho
    injection e1 with e1
    subst e1
    exact e2
  · intro g o k hA
    rcases ho.2 with ⟨h1, _⟩ | ⟨g', cap, cur, h1, _, h2, _⟩
    · injection h1 with h1
      rw [h1] at hA
      cases hA
    · injection h1 with h1
      rw [h1] at hA
      injection hA with hA
      injection hA with hA
      subst hA
      exact ⟨(Array.getElem?_eq_some_iff.1 h2).1, _, _, h2⟩
section
variable {P : Program} {ops : Array Oper} {S : World → Prop} {R : World → World → Prop} {End : List Tmp → List Fc → Act → Prop} {rest : List Oper} {k : Nat} {T : List Tmp} {N : List Fc} {a : Act} {o : Oper}
theorem flow_valY {d : Option Tmp} {y : Tmp} {op : Go.Op} {t : TypeId} {ps : String} {af : Array Edge} {g : Option (Nat × Bool)} (v : Value) (j : Nat) {i : Nat} {ψ : List Value → World → Prop} (hj : N[j]? = some ⟨i, [y], ψ⟩) (hwt : waitsB { dst := d, op := op, type := t, pos := ps, after := af, guard := g } i = true) (hRr : ∀ w, R w w)
    (hrun : ∀ f' w, ψ [f' y] w → (execOp (fillW T f' a).eval { dst := d, op := op, type := t, pos := ps, after := af, guard := g }).run P w = .ok (.value v) w)
    (hg : guardW ops T { dst := d, op := op, type := t, pos := ps, after := af, guard := g } = true) (hw : Region.wanted { dst := d, op := op, type := t, pos := ps, after := af, guard := g } (yielded ops a.tmps) = true) (w0 : World)
    (h : ∀ K : Act → Prop, (∀ a, wpW P ops S R End (k + 1) rest T N a → K a) → Oper.quiet P { dst := d, op := .assign (.const v), type := t, pos := "", after := #[], guard := none } a (fun _ => True) K) :
    wpW P ops S R End k ({ dst := d, op := op, type := t, pos := ps, after := af, guard := g } :: rest) T N a :=
  flow_val v (fun w f hS hN => by
    unfold gives
    rw [hrun f w (known_at hN j hj hwt)]
    exact ⟨rfl, hS, hRr _⟩) hg hw w0 h
end
set_option maxHeartbeats 8000000 in
theorem walk (s : Sg) (A : Option Addr) (c : Nat) (t : Sg) (B : Option Addr) (e : Nat) (sh : Sh) (w : World) (w0 : SgF w s A c) (w1 : SgF w t B e) (w2 : sh.wf) :
    Calls Try.prog 8 #[.agg (s.c A c), .agg (t.c B e), .agg sh.c] w fun e w' => e = .returned (.bool true) ∧ Below w.heap.size w w' := by
  have hal := alive08
  have hb0 : Below w.heap.size w w := Below.refl _ _
  have HB := Lib.hid hb0
  clear hb0
  have hs := fun W => heavy_sg W s A c w0.n w0.d
  have ht := fun W => heavy_sg W t B e w1.n w1.d
  cases h1 : heavyB s with
  | true =>
    rw [h1] at hs
    have Hal := Lib.hid hal
    clear hal
    have Hs := Lib.hid hs
    clear hs
    have Ht := Lib.hid ht
    clear ht
    go_enter Try.func8, Try.ntmps8
    go_upto_region 1 with fail
    have hp := Blk.alloc (Blk.alloc (Blk.new w 30 (s.c A c)) (.cells (t.c B e) 30)) (.cells sh.c 46)
    have hq := Blk.alloc (Blk.new (w.alloc (.cells (s.c A c) 30)) 30 (t.c B e)) (.cells sh.c 46)
    rw [show (w.alloc (.cells (s.c A c) 30)).heap.size = w.heap.size + 1 by simp] at hq
    have hx := Blk.new ((w.alloc (.cells (s.c A c) 30)).alloc (.cells (t.c B e) 30)) 46 sh.c
    rw [show ((w.alloc (.cells (s.c A c) 30)).alloc (.cells (t.c B e) 30)).heap.size = w.heap.size + 2 by simp] at hx
    have hB := Below.alloc (Below.alloc (Below.alloc (HB.out) (Nat.le_trans HB.out.size (by simp <;> omega)) (.cells (s.c A c) 30)) (Nat.le_trans HB.out.size (by simp <;> omega)) (.cells (t.c B e) 30)) (Nat.le_trans HB.out.size (by simp <;> omega)) (.cells sh.c 46)
    clear HB
    obtain ⟨gx, hgex⟩ : ∃ g, g = w.heap.size + 2 := ⟨_, rfl⟩
    rw [← hgex] at hx ⊢
    obtain ⟨gq, hgeq⟩ : ∃ g, g = w.heap.size + 1 := ⟨_, rfl⟩
    rw [← hgeq] at hq ⊢
    obtain ⟨gp, hgep⟩ : ∃ g, g = w.heap.size := ⟨_, rfl⟩
    rw [← hgep] at hp ⊢
    have hne_p_q : gp ≠ gq := by omega
    have hne_p_x : gp ≠ gx := by omega
    have hne_q_x : gq ≠ gx := by omega
    have hle_p : w.heap.size ≤ gp := by omega
    have hle_q : w.heap.size ≤ gq := by omega
    have hle_x : w.heap.size ≤ gx := by omega
    clear hgep hgeq hgex
    generalize ((w.alloc _).alloc _).alloc _ = wn1 at *
    have Hp := Lib.hid hp
    clear hp
    have Hq := Lib.hid hq
    clear hq
    have Hx := Lib.hid hx
    clear hx
    have HB := Lib.hid hB
    clear hB
    obtain ⟨W1, hwnW1⟩ : ∃ W, W = wn1 := ⟨_, rfl⟩
    rw [← hwnW1] at Hp Hq Hx HB ⊢
    clear hwnW1
    have np_x := hne_p_x
    have hwx := hle_x
    have Np_x := Lib.hid np_x
    clear np_x
    have Hwx := Lib.hid hwx
    clear hwx
    clear hne_p_q hne_p_x hne_q_x hle_p hle_q hle_x
    go_wp2_with (first | (refine wpl_load_at (E := 30) rfl rfl rfl Hp.out segU segI ?_))
    with_reducible refine (Hs.out _).mono ?_
    rintro e1 w2 ⟨rfl, hbq⟩
    have hp := Hp.out.below hbq Hp.out.lt
    clear Hp
    have Hp := Lib.hid hp
    clear hp
    have hq := Hq.out.below hbq Hq.out.lt
    clear Hq
    have Hq := Lib.hid hq
    clear hq
    have hx := Hx.out.below hbq Hx.out.lt
    clear Hx
    have Hx := Lib.hid hx
    clear hx
    have hB := HB.out.trans (hbq.mono HB.out.size)
    clear HB
    have HB := Lib.hid hB
    clear hB
    clear hbq
    go_wp2_with fail
    (with_reducible refine (Hal.out _).mono ?_)
    rintro e w9 ⟨rfl, hbq⟩
    have hp := Hp.out.below hbq Hp.out.lt
    clear Hp
    have Hp := Lib.hid hp
    clear hp
    have hq := Hq.out.below hbq Hq.out.lt
    clear Hq
    have Hq := Lib.hid hq
    clear hq
    have hx := Hx.out.below hbq Hx.out.lt
    clear Hx
    have Hx := Lib.hid hx
    clear hx
    have hB := HB.out.trans (hbq.mono HB.out.size)
    clear HB
    have HB := Lib.hid hB
    clear hB
    clear hbq
    go_wp2
    go_ret
    exact ⟨rfl, HB.out⟩
  | false =>
  rw [h1] at hs
  cases h2 : heavyB t with
  | true =>
    rw [h2] at ht
    have Hal := Lib.hid hal
    clear hal
    have Hs := Lib.hid hs
    clear hs
    have Ht := Lib.hid ht
    clear ht
    go_enter Try.func8, Try.ntmps8
    go_upto_region 1 with fail
    have hp := Blk.alloc (Blk.alloc (Blk.new w 30 (s.c A c)) (.cells (t.c B e) 30)) (.cells sh.c 46)
    have hq := Blk.alloc (Blk.new (w.alloc (.cells (s.c A c) 30)) 30 (t.c B e)) (.cells sh.c 46)
    rw [show (w.alloc (.cells (s.c A c) 30)).heap.size = w.heap.size + 1 by simp] at hq
    have hx := Blk.new ((w.alloc (.cells (s.c A c) 30)).alloc (.cells (t.c B e) 30)) 46 sh.c
    rw [show ((w.alloc (.cells (s.c A c) 30)).alloc (.cells (t.c B e) 30)).heap.size = w.heap.size + 2 by simp] at hx
    have hB := Below.alloc (Below.alloc (Below.alloc (HB.out) (Nat.le_trans HB.out.size (by simp <;> omega)) (.cells (s.c A c) 30)) (Nat.le_trans HB.out.size (by simp <;> omega)) (.cells (t.c B e) 30)) (Nat.le_trans HB.out.size (by simp <;> omega)) (.cells sh.c 46)
    clear HB
    obtain ⟨gx, hgex⟩ : ∃ g, g = w.heap.size + 2 := ⟨_, rfl⟩
    rw [← hgex] at hx ⊢
    obtain ⟨gq, hgeq⟩ : ∃ g, g = w.heap.size + 1 := ⟨_, rfl⟩
    rw [← hgeq] at hq ⊢
    obtain ⟨gp, hgep⟩ : ∃ g, g = w.heap.size := ⟨_, rfl⟩
    rw [← hgep] at hp ⊢
    have hne_p_q : gp ≠ gq := by omega
    have hne_p_x : gp ≠ gx := by omega
    have hne_q_x : gq ≠ gx := by omega
    have hle_p : w.heap.size ≤ gp := by omega
    have hle_q : w.heap.size ≤ gq := by omega
    have hle_x : w.heap.size ≤ gx := by omega
    clear hgep hgeq hgex
    generalize ((w.alloc _).alloc _).alloc _ = wn3 at *
    have Hp := Lib.hid hp
    clear hp
    have Hq := Lib.hid hq
    clear hq
    have Hx := Lib.hid hx
    clear hx
    have HB := Lib.hid hB
    clear hB
    obtain ⟨W1, hwnW1⟩ : ∃ W, W = wn3 := ⟨_, rfl⟩
    rw [← hwnW1] at Hp Hq Hx HB ⊢
    clear hwnW1
    have np_x := hne_p_x
    have hwx := hle_x
    have Np_x := Lib.hid np_x
    clear np_x
    have Hwx := Lib.hid hwx
    clear hwx
    clear hne_p_q hne_p_x hne_q_x hle_p hle_q hle_x
    go_wp2_with (first | (refine wpl_load_at (E := 30) rfl rfl rfl Hp.out segU segI ?_))
    with_reducible refine (Hs.out _).mono ?_
    rintro e1 w2 ⟨rfl, hbq⟩
    have hp := Hp.out.below hbq Hp.out.lt
    clear Hp
    have Hp := Lib.hid hp
    clear hp
    have hq := Hq.out.below hbq Hq.out.lt
    clear Hq
    have Hq := Lib.hid hq
    clear hq
    have hx := Hx.out.below hbq Hx.out.lt
    clear Hx
    have Hx := Lib.hid hx
    clear hx
    have hB := HB.out.trans (hbq.mono HB.out.size)
    clear HB
    have HB := Lib.hid hB
    clear hB
    clear hbq
    go_wp2_with (first | (refine wpl_load_g rfl rfl rfl Hq.out segU segI ?_))
    with_reducible refine (Ht.out _).mono ?_
    rintro e2 w3 ⟨rfl, hbq⟩
    have hp := Hp.out.below hbq Hp.out.lt
    clear Hp
    have Hp := Lib.hid hp
    clear hp
    have hq := Hq.out.below hbq Hq.out.lt
    clear Hq
    have Hq := Lib.hid hq
    clear hq
    have hx := Hx.out.below hbq Hx.out.lt
    clear Hx
    have Hx := Lib.hid hx
    clear hx
    have hB := HB.out.trans (hbq.mono HB.out.size)
    clear HB
    have HB := Lib.hid hB
    clear hB
    clear hbq
    go_wp2_with fail
    (with_reducible refine (Hal.out _).mono ?_)
    rintro e w9 ⟨rfl, hbq⟩
    have hp := Hp.out.below hbq Hp.out.lt
    clear Hp
    have Hp := Lib.hid hp
    clear hp
    have hq := Hq.out.below hbq Hq.out.lt
    clear Hq
    have Hq := Lib.hid hq
    clear hq
    have hx := Hx.out.below hbq Hx.out.lt
    clear Hx
    have Hx := Lib.hid hx
    clear hx
    have hB := HB.out.trans (hbq.mono HB.out.size)
    clear HB
    have HB := Lib.hid hB
    clear hB
    clear hbq
    go_wp2
    go_ret
    exact ⟨rfl, HB.out⟩
  | false =>
  rw [h2] at ht
  have n1 := (heavyB_no h1).2
  have n2 := (heavyB_no h2).2
  have ke := fun W (hW : Below w.heap.size w W) => penc_any W s A c w0.ok (w0.r.below hW) (by omega) w0.d
  have kf := fun W (hW : Below w.heap.size w W) => penc_any W t B e w1.ok (w1.r.below hW) (by omega) w1.d
  have os := fun W (hW : Below w.heap.size w W) => psame_any W s t A B c e (w0.r.below hW) (w1.r.below hW) w0.n w1.n
  have kS := fun W (hW : Below w.heap.size w W) (A2 : Option Addr) (c2 : Nat) (hb : BlR W A2 s.o.bl) => psame_eq W s A2 A c2 c hb (w0.r.below hW) w0.n
  have kT := fun W (hW : Below w.heap.size w W) => pturned_T W s sh A c w0.ok (w0.r.below hW) (by omega)
  have kV := fun W (hW : Below w.heap.size w W) => pturned_T W s { sh with x8 := 0, x9 := 0 } A c w0.ok (w0.r.below hW) (by omega)
  have kU := fun W (A2 : Option Addr) (c2 : Nat) (hb : BlR W A2 (turnS s sh).o.bl) => pturned_T W (turnS s sh) (backS s sh) A2 c2 (turnS_wf w0.ok w2) hb (by show (s.o.bl.map _).length ≤ _; rw [List.length_map]; omega)
  have hWz : (turnS s { sh with x8 := 0, x9 := 0 }).s7 = s.s7 := win_zero w0.ok.b7
  have hsw := w0.ok
  have hsh := w2
  have hcmp : s.may = true → t.may = true → ∀ X Y : ByteArray, X = ⟨s.pl.toArray⟩ → Y = ⟨t.pl.toArray⟩ → (X.toList == Y.toList) = sameS s t := by
    intro ms mt X Y hX hY
    rw [ByteArray.toList_eq, ByteArray.toList_eq, hX, hY]
    show (s.pl.toArray.toList == t.pl.toArray.toList) = _
    rw [List.toList_toArray, List.toList_toArray]
    by_cases he : s = t
    · rw [he, sameS_self]
      simp
    · rw [show sameS s t = false by rw [← Bool.not_eq_true, sameS_iff]; exact he]
      simp only [beq_eq_false_iff_ne]
      exact fun h => he (pl_inj w0.ok w1.ok ms mt h)
  unfold pencR at ke kf
  obtain ⟨X, hX⟩ : ∃ X : ByteArray, X = ⟨s.pl.toArray⟩ := ⟨_, rfl⟩
  obtain ⟨Y, hY⟩ : ∃ X : ByteArray, X = ⟨t.pl.toArray⟩ := ⟨_, rfl⟩
  rw [← hX] at ke
  rw [← hY] at kf
  have hcmp := fun ms mt => hcmp ms mt X Y hX hY
  generalize sameS s t = V at *
  clear h1 h2 n1 n2 w0 w1 w2 hX hY
  have KS := Lib.hid kS
  clear kS
  have KT := Lib.hid kT
  clear kT
  have KU := Lib.hid kU
  clear kU
  have KV := Lib.hid kV
  clear kV
  have HWz := Lib.hid hWz
  clear hWz
  have Hsw := Lib.hid hsw
  clear hsw
  have Hsh := Lib.hid hsh
  clear hsh
  have Os := Lib.hid os
  clear os
  cases ms : s.may with
  | true =>
    rw [ms] at ke
    cases mt : t.may with
    | true =>
      rw [mt] at kf
      have hcmp := hcmp ms mt
      clear ms mt
      simp only [if_true] at ke kf
      have Ke := Lib.hid ke
      clear ke
      have Kf := Lib.hid kf
      clear kf
      have Hal := Lib.hid hal
      clear hal
      have Hs := Lib.hid hs
      clear hs
      have Ht := Lib.hid ht
      clear ht
      go_enter Try.func8, Try.ntmps8
      go_upto_region 1 with fail
      have hp := Blk.alloc (Blk.alloc (Blk.new w 30 (s.c A c)) (.cells (t.c B e) 30)) (.cells sh.c 46)
      have hq := Blk.alloc (Blk.new (w.alloc (.cells (s.c A c) 30)) 30 (t.c B e)) (.cells sh.c 46)
      rw [show (w.alloc (.cells (s.c A c) 30)).heap.size = w.heap.size + 1 by simp] at hq
      have hx := Blk.new ((w.alloc (.cells (s.c A c) 30)).alloc (.cells (t.c B e) 30)) 46 sh.c
      rw [show ((w.alloc (.cells (s.c A c) 30)).alloc (.cells (t.c B e) 30)).heap.size = w.heap.size + 2 by simp] at hx
      have hB := Below.alloc (Below.alloc (Below.alloc (HB.out) (Nat.le_trans HB.out.size (by simp <;> omega)) (.cells (s.c A c) 30)) (Nat.le_trans HB.out.size (by simp <;> omega)) (.cells (t.c B e) 30)) (Nat.le_trans HB.out.size (by simp <;> omega)) (.cells sh.c 46)
      clear HB
      obtain ⟨gx, hgex⟩ : ∃ g, g = w.heap.size + 2 := ⟨_, rfl⟩
      rw [← hgex] at hx ⊢
      obtain ⟨gq, hgeq⟩ : ∃ g, g = w.heap.size + 1 := ⟨_, rfl⟩
      rw [← hgeq] at hq ⊢
      obtain ⟨gp, hgep⟩ : ∃ g, g = w.heap.size := ⟨_, rfl⟩
      rw [← hgep] at hp ⊢
      have hne_p_q : gp ≠ gq := by omega
      have hne_p_x : gp ≠ gx := by omega
      have hne_q_x : gq ≠ gx := by omega
      have hle_p : w.heap.size ≤ gp := by omega
      have hle_q : w.heap.size ≤ gq := by omega
      have hle_x : w.heap.size ≤ gx := by omega
      clear hgep hgeq hgex
      generalize ((w.alloc _).alloc _).alloc _ = wn5 at *
      have Hp := Lib.hid hp
      clear hp
      have Hq := Lib.hid hq
      clear hq
      have Hx := Lib.hid hx
      clear hx
      have HB := Lib.hid hB
      clear hB
      obtain ⟨W1, hwnW1⟩ : ∃ W, W = wn5 := ⟨_, rfl⟩
      rw [← hwnW1] at Hp Hq Hx HB ⊢
      clear hwnW1
      have np_x := hne_p_x
      have hwx := hle_x
      have Np_x := Lib.hid np_x
      clear np_x
      have Hwx := Lib.hid hwx
      clear hwx
      clear hne_p_q hne_p_x hne_q_x hle_p hle_q hle_x
      go_wp2_with (first | (refine wpl_load_at (E := 30) rfl rfl rfl Hp.out segU segI ?_))
      with_reducible refine (Hs.out _).mono ?_
      rintro e1 w2 ⟨rfl, hbq⟩
      have hp := Hp.out.below hbq Hp.out.lt
      clear Hp
      have Hp := Lib.hid hp
      clear hp
      have hq := Hq.out.below hbq Hq.out.lt
      clear Hq
      have Hq := Lib.hid hq
      clear hq
      have hx := Hx.out.below hbq Hx.out.lt
      clear Hx
      have Hx := Lib.hid hx
      clear hx
      have hB := HB.out.trans (hbq.mono HB.out.size)
      clear HB
      have HB := Lib.hid hB
      clear hB
      clear hbq
      go_wp2_with (first | (refine wpl_load_g rfl rfl rfl Hq.out segU segI ?_))
      with_reducible refine (Ht.out _).mono ?_
      rintro e2 w3 ⟨rfl, hbq⟩
      have hp := Hp.out.below hbq Hp.out.lt
      clear Hp
      have Hp := Lib.hid hp
      clear hp
      have hq := Hq.out.below hbq Hq.out.lt
      clear Hq
      have Hq := Lib.hid hq
      clear hq
      have hx := Hx.out.below hbq Hx.out.lt
      clear Hx
      have Hx := Lib.hid hx
      clear hx
      have hB := HB.out.trans (hbq.mono HB.out.size)
      clear HB
      have HB := Lib.hid hB
      clear hB
      clear hbq
      go_wp2_with (first | (refine wpl_load_at (E := 30) rfl rfl rfl Hp.out segU segI ?_))
      with_reducible refine (Ke.out _ HB.out).mono ?_
      rintro e3 w4 ⟨rfl, hbq⟩
      have hp := Hp.out.below hbq Hp.out.lt
      clear Hp
      have Hp := Lib.hid hp
      clear hp
      have hq := Hq.out.below hbq Hq.out.lt
      clear Hq
      have Hq := Lib.hid hq
      clear hq
      have hx := Hx.out.below hbq Hx.out.lt
      clear Hx
      have Hx := Lib.hid hx
      clear hx
      have hB := HB.out.trans (hbq.mono HB.out.size)
      clear HB
      have HB := Lib.hid hB
      clear hB
      clear hbq
      go_wp2_with (first | (refine wpl_load_at (E := 30) rfl rfl rfl Hq.out segU segI ?_))
      with_reducible refine (Kf.out _ HB.out).mono ?_
      rintro e4 w5 ⟨rfl, hbq⟩
      have hp := Hp.out.below hbq Hp.out.lt
      clear Hp
      have Hp := Lib.hid hp
      clear hp
      have hq := Hq.out.below hbq Hq.out.lt
      clear Hq
      have Hq := Lib.hid hq
      clear hq
      have hx := Hx.out.below hbq Hx.out.lt
      clear Hx
      have Hx := Lib.hid hx
      clear hx
      have hB := HB.out.trans (hbq.mono HB.out.size)
      clear HB
      have HB := Lib.hid hB
      clear hB
      clear hbq
      go_wp2_with (first | (refine wpl_load_g rfl rfl rfl Hp.out segU segI ?_) | (refine wpl_load_g rfl rfl rfl Hq.out segU segI ?_))
      with_reducible refine (Os.out _ HB.out).mono ?_
      rintro e5 w6 ⟨rfl, hbq⟩
      have hp := Hp.out.below hbq Hp.out.lt
      clear Hp
      have Hp := Lib.hid hp
      clear hp
      have hq := Hq.out.below hbq Hq.out.lt
      clear Hq
      have Hq := Lib.hid hq
      clear hq
      have hx := Hx.out.below hbq Hx.out.lt
      clear Hx
      have Hx := Lib.hid hx
      clear hx
      have hB := HB.out.trans (hbq.mono HB.out.size)
      clear HB
      have HB := Lib.hid hB
      clear hB
      clear hbq
      clear Hq hcmp
      -- turned, and turned back
      have hpo := Hp.out
      have hxo := Hx.out
      have z0 : w6.cell? ⟨gp, 0, none⟩ = some (.int .u32 (s.s0 : Int)) := hpo.cell 0
      have z1 : w6.cell? ⟨gp, 1, none⟩ = some (.int .u16 (s.s1 : Int)) := hpo.cell 1
      have z2 : w6.cell? ⟨gp, 2, none⟩ = some (.int .u32 (s.s2 : Int)) := hpo.cell 2
      have z3 : w6.cell? ⟨gp, 3, none⟩ = some (.int .u16 (s.s3 : Int)) := hpo.cell 3
      have y4 : w6.cell? ⟨gx, 4, none⟩ = some (.int .u32 (sh.x4 : Int)) := hxo.cell 4
      have y5 : w6.cell? ⟨gx, 5, none⟩ = some (.int .u32 (sh.x5 : Int)) := hxo.cell 5
      have y6 : w6.cell? ⟨gx, 6, none⟩ = some (.int .u32 (sh.x6 : Int)) := hxo.cell 6
      have y7 : w6.cell? ⟨gx, 7, none⟩ = some (.int .u32 (sh.x7 : Int)) := hxo.cell 7
      have g4 := neg_int Hsh.out.b4
      have g5 := neg_int Hsh.out.b5
      have g6 := neg_int Hsh.out.b6
      have g7 := neg_int Hsh.out.b7
      clear hpo hxo
      go_upto_region 8 with (first | (refine wpl_put_now (E := 46) rfl rfl rfl rfl (backS s sh).c rfl rfl rfl shI rfl (by kernel_rfl) ?_))
      clear z0 z1 z2 z3 y4 y5 y6 y7 g4 g5 g6 g7
      have hy := Blk.new w6 46 (backS s sh).c
      have hp := Blk.alloc Hp.out (.cells (backS s sh).c 46)
      clear Hp
      have hx := Blk.alloc Hx.out (.cells (backS s sh).c 46)
      clear Hx
      have hB := HB.out.alloc HB.out.size (.cells (backS s sh).c 46)
      clear HB
      obtain ⟨gy, hge⟩ : ∃ g, g = w6.heap.size := ⟨_, rfl⟩
      rw [← hge] at hy ⊢
      have hle_y : w6.heap.size ≤ gy := by omega
      clear hge
      generalize w6.alloc _ = wn6 at *
      have Hp := Lib.hid hp
      clear hp
      have Hx := Lib.hid hx
      clear hx
      have Hy := Lib.hid hy
      clear hy
      have HB := Lib.hid hB
      clear hB
      obtain ⟨w8, hwnw8⟩ : ∃ W, W = wn6 := ⟨_, rfl⟩
      rw [← hwnw8] at Hp Hx Hy HB ⊢
      clear hwnw8
      have hB8 := HB.out.size
      have HB8 := Lib.hid hB8
      clear hB8
      have qp : ∀ y : Cls (Fresh w8), Blk y.w gp 30 (s.c A c) := fun y => Hp.out.below y.h Hp.out.lt
      have qx : ∀ y : Cls (Fresh w8), Blk y.w gx 46 sh.c := fun y => Hx.out.below y.h Hx.out.lt
      have qy : ∀ y : Cls (Fresh w8), Blk y.w gy 46 (backS s sh).c := fun y => Hy.out.below y.h Hy.out.lt
      have hw8 : ∀ y : Cls (Fresh w8), Below w.heap.size w y.w := fun y => HB.out.trans (Below.mono y.h HB.out.size)
      have k1 : ∀ y : Cls (Fresh w8), Calls Try.prog 23 #[.agg (s.c A c), .agg sh.c] y.w fun e w'' => ∃ v, e = .returned v ∧ segTT (turnS s sh) [v] w'' ∧ Fresh w8 w'' ∧ Below y.w.heap.size y.w w'' := fun y => (KT.out y.w (hw8 y)).mono fun e1 w1 ⟨v, he, hr, hb⟩ => ⟨v, he, hr, Fresh.below y.h hb, hb⟩
      have k2 : ∀ (y : Cls (Fresh w8)) (u1 : Value), segTT (turnS s sh) [u1] y.w → Calls Try.prog 23 #[u1, .agg (backS s sh).c] y.w fun e w'' => ∃ v, e = .returned v ∧ segTT (turnS (turnS s sh) (backS s sh)) [v] w'' ∧ Fresh w8 w'' ∧ Below y.w.heap.size y.w w'' := by
        intro y u1 h1
        obtain ⟨A1, c1, rfl, b1, _⟩ := h1.is
        exact (KU.out y.w A1 c1 b1).mono fun e1 w1 ⟨v, he, hr, hb⟩ => ⟨v, he, hr, Fresh.below y.h hb, hb⟩
      have fTurned : ∀ (vals : Array Value) (w : World), (callFunc 23 vals).run Try.prog w = .ok (.enter 23 vals) w := fun _ _ => by kernel_rfl
      have hS0 : Fresh w8 w8.drew := Fresh.below (Below.refl _ _) (Below.drew (Below.refl _ _))
      have ne : Nonempty (Cls (Fresh w8)) := ⟨⟨w8, Below.refl _ _⟩⟩
      clear hw8
      have HS0 := Lib.hid hS0
      clear hS0
      have Qp := Lib.hid qp
      clear qp
      have Qx := Lib.hid qx
      clear qx
      have Qy := Lib.hid qy
      clear qy
      have K1 := Lib.hid k1
      clear k1
      have K2 := Lib.hid k2
      clear k2
      have FTurned := Lib.hid fTurned
      clear fTurned
      refine wp_region_flow 6 (Fresh w8) (fun w w' => Below w.heap.size w w') (by kernel_rfl) (by kernel_rfl) (by kernel_rfl) (fun w => Below.refl _ _) HS0.out ?_
      simp only [List.take_succ_cons, List.take_zero, List.drop_succ_cons, List.drop_zero]
      repeat (first
        | (refine flow_load gp _ Qp.out segU segI rfl (fun w => Below.refl _ _) rfl rfl rfl w8 ?_; intro K hK; go_big_quiet_op; go_big_quiet_on)
        | (refine flow_load gx _ Qx.out shU shI rfl (fun w => Below.refl _ _) rfl rfl rfl w8 ?_; intro K hK; go_big_quiet_op; go_big_quiet_on)
        | (refine flow_load gy _ Qy.out shU shI rfl (fun w => Below.refl _ _) rfl rfl rfl w8 ?_; intro K hK; go_big_quiet_op; go_big_quiet_on)
        | (refine flow_callF (segTT (turnS s sh)) segTT.of FTurned.out _ ?_ rfl K1.out rfl rfl w8 ?_; (focus (simp only [List.map_toArray, List.map_cons, List.map_nil]; rfl)); intro K hK; go_big_quiet_op; go_big_quiet_on)
        | (refine flow_callG (segTT (turnS (turnS s sh) (backS s sh))) segTT.of FTurned.out (fun u1 => #[u1, .agg (backS s sh).c]) 0 rfl rfl (fun f => by rfl) K2.out rfl rfl w8 ?_; intro K hK; go_big_quiet_op; go_big_quiet_on)
        | (refine flow_lay w8.heap.size zeroC alloc_seg (fun w w' h hb => Fresh.below h hb) (fun w h => Below.size h) rfl rfl w8 ?_; intro K hK; go_big_quiet_op; go_big_quiet_on))
      refine flow_nil ?_
      intro W9 f hW hF
      obtain ⟨⟨gu, hu1, hu2, hu3⟩, hF⟩ := List.forall_mem_cons.1 hF
      obtain ⟨hF2, hF⟩ := List.forall_mem_cons.1 hF
      obtain ⟨A6, c6, hv, hbr, hty⟩ := segTT.is hF2
      clear hF hF2
      simp only [fillW, Act.put, List.setIfInBounds_toArray, List.set_cons_succ, List.set_cons_zero]
      simp only [List.map_cons, List.map_nil, List.cons.injEq, and_true] at hu1
      rw [hu1, hv]
      clear hu1 hv
      generalize f 64 = v64
      have hb9 : Below w8.heap.size w8 W9 := hW
      clear hW ne
      have np : gp ≠ gu := by have := Hp.out.lt; omega
      have nx : gx ≠ gu := by have := Hx.out.lt; omega
      have nA : ∀ g o k, A6 = some ⟨g, o, k⟩ → g ≠ gu := by
        rintro g o k hA rfl
        obtain ⟨_, cs, fr, h2⟩ := hty g o k hA
        unfold Blk at hu3
        rw [hu3] at h2
        injection h2 with h2
        injection h2 with _ h2
        revert h2
        decide
      clear hty Qp Qx Qy K1 K2 HS0
      clear Hy
      have hp := Hp.out.below hb9 Hp.out.lt
      clear Hp
      have Hp := Lib.hid hp
      clear hp
      have hx := Hx.out.below hb9 Hx.out.lt
      clear Hx
      have Hx := Lib.hid hx
      clear hx
      have hB := HB.out.trans (hb9.mono HB.out.size)
      clear HB
      have HB := Lib.hid hB
      clear hB
      clear hb9
      have hwu : w.heap.size ≤ gu := by have := HB8.out; omega
      obtain ⟨U, hU⟩ : ∃ U, U = turnS (turnS s sh) (backS s sh) := ⟨_, rfl⟩
      rw [← hU] at hbr ⊢
      have hUs : { U with s7 := s.s7 } = s := by rw [hU]; exact turnS_back Hsw.out Hsh.out
      have hUb : U.o.bl = s.o.bl := by
        have h := congrArg (fun z : Sg => z.o.bl) hUs
        exact h
      have hUc : (U.c A6 c6).setIfInBounds 7 (.int .u16 (s.s7 : Int)) = s.c A6 c6 := by
        have : (U.c A6 c6).setIfInBounds 7 (.int .u16 (s.s7 : Int)) = ({ U with s7 := s.s7 } : Sg).c A6 c6 := rfl
        rw [this, hUs]
      rw [hUb] at hbr
      clear hU hUs hUb
      have Hu3 := Lib.hid hu3
      clear hu3
      have Hbr := Lib.hid hbr
      clear hbr
      have Hwu := Lib.hid hwu
      clear hwu
      have Np := Lib.hid np
      clear np
      have Nx := Lib.hid nx
      clear nx
      have NA := Lib.hid nA
      clear nA
      have HUc := Lib.hid hUc
      clear hUc
      go_upto_region 9 with (first | (refine wpl_put_at (E := 30) rfl rfl rfl Hu3.out rfl (U.c A6 c6) rfl segI_ rfl (by kernel_rfl) ?_))
      have hu4 := Hu3.out.row (U.c A6 c6)
      have hp := Hp.out.row_far Np.out (U.c A6 c6)
      have hx := Hx.out.row_far Nx.out (U.c A6 c6)
      have hB := below_rowU HB.out Hwu.out (U.c A6 c6)
      have hbr4 := BlR.kept (W' := W9.setRow gu (U.c A6 c6)) Hbr.out (fun g o k e => heap_row W9 gu _ g (NA.out g o k e)) (Nat.le_of_eq (size_row _ _ _).symm)
      clear Hu3 Hp Hx HB Hbr
      generalize World.setRow _ _ _ = W10 at *
      have hb10 := hbr4
      clear hbr4
      have Hp := Lib.hid hp
      have Hx := Lib.hid hx
      have HB := Lib.hid hB
      clear hp hx hB
      have Hu4 := Lib.hid hu4
      clear hu4
      have Hb10 := Lib.hid hb10
      clear hb10
      have z7 : W10.cell? ⟨gp, 7, none⟩ = some (.int .u16 (s.s7 : Int)) := Hp.out.cell 7
      have u7 : W10.cell? ⟨gu, 7, none⟩ = some (.int .u16 (U.s7 : Int)) := Hu4.out.cell 7
      have f7 := Hu4.out.frozen 7
      go_upto_region 10 with fail
      clear z7 u7 f7
      have hu5 := Hu4.out.set_ 7 (.int .u16 (s.s7 : Int))
      rw [HUc.out] at hu5
      have hp := Hp.out.far (p := ⟨gu, 7, none⟩) Np.out (.int .u16 (s.s7 : Int))
      have hx := Hx.out.far (p := ⟨gu, 7, none⟩) Nx.out (.int .u16 (s.s7 : Int))
      have hB := HB.out.setCell (p := ⟨gu, 7, none⟩) Hwu.out (.int .u16 (s.s7 : Int))
      have hb11 := BlR.kept (W' := W10.setCell ⟨gu, 7, none⟩ (.int .u16 (s.s7 : Int))) Hb10.out (fun g o k e => Below.heap_setCell W10 ⟨gu, 7, none⟩ _ g (NA.out g o k e)) (by simp [World.setCell])
      clear Hu4 Hp Hx HB Hb10 HUc
      generalize World.setCell _ _ _ = W11 at *
      have Hp := Lib.hid hp
      have Hx := Lib.hid hx
      have HB := Lib.hid hB
      have Hu := Lib.hid hu5
      clear hp hx hB hu5
      have Hb11 := Lib.hid hb11
      clear hb11
      go_wp2_with (first | (refine wpl_load_at (E := 30) rfl rfl rfl Hp.out segU segI ?_) | (refine wpl_load_at (E := 30) rfl rfl rfl Hu.out segU segI ?_))
      with_reducible refine (KS.out _ HB.out _ _ Hb11.out).mono ?_
      rintro e8 w12 ⟨rfl, hbq⟩
      have hp := Hp.out.below hbq Hp.out.lt
      clear Hp
      have Hp := Lib.hid hp
      clear hp
      have hx := Hx.out.below hbq Hx.out.lt
      clear Hx
      have Hx := Lib.hid hx
      clear hx
      have hu := Hu.out.below hbq Hu.out.lt
      clear Hu
      have Hu := Lib.hid hu
      clear hu
      have hB := HB.out.trans (hbq.mono HB.out.size)
      clear HB
      have HB := Lib.hid hB
      clear hB
      clear hbq
      -- no scales
      clear Hu Hb11
      have y8 : w12.cell? ⟨gx, 8, none⟩ = some (.int .i64 sh.x8) := Hx.out.cell 8
      have y9 : w12.cell? ⟨gx, 9, none⟩ = some (.int .i64 sh.x9) := Hx.out.cell 9
      have x8 := Hx.out.frozen 8
      have x9 := Hx.out.frozen 9
      have npx : gp ≠ gx := Np_x.out
      have hwx := Hwx.out
      go_upto_region 14 with fail
      clear y8 y9 x8 x9
      have hx := (Hx.out.set_ 8 (.int .i64 0)).set_ 9 (.int .i64 0)
      have hp := (Hp.out.far (p := ⟨gx, 8, none⟩) npx (.int .i64 0)).far (p := ⟨gx, 9, none⟩) npx (.int .i64 0)
      have hB := (HB.out.setCell (p := ⟨gx, 8, none⟩) hwx (.int .i64 0)).setCell (p := ⟨gx, 9, none⟩) hwx (.int .i64 0)
      have hx : Blk ((w12.setCell ⟨gx, 8, none⟩ (.int .i64 0)).setCell ⟨gx, 9, none⟩ (.int .i64 0)) gx 46 (({ sh with x8 := 0, x9 := 0 } : Sh).c) := hx
      clear Hx Hp HB npx hwx
      generalize (World.setCell _ _ _).setCell _ _ = W14 at *
      have hWz := HWz.out
      obtain ⟨S0, hS0e⟩ : ∃ S0 : Sh, S0 = { sh with x8 := 0, x9 := 0 } := ⟨_, rfl⟩
      rw [← hS0e] at hx hWz
      have kV := KV.out
      rw [← hS0e] at kV
      clear KV HWz hS0e
      have qp : ∀ y : Cls (Fresh W14), Blk y.w gp 30 (s.c A c) := fun y => hp.below y.h hp.lt
      have qx : ∀ y : Cls (Fresh W14), Blk y.w gx 46 S0.c := fun y => hx.below y.h hx.lt
      have z7 : ∀ y : Cls (Fresh W14), y.w.cell? ⟨gp, 7, none⟩ = some (.int .u16 (s.s7 : Int)) := fun y => (qp y).cell 7
      have hw14 : ∀ y : Cls (Fresh W14), Below w.heap.size w y.w := fun y => hB.trans (Below.mono y.h hB.size)
      have k1 : ∀ y : Cls (Fresh W14), Calls Try.prog 23 #[.agg (s.c A c), .agg S0.c] y.w fun e w'' => ∃ v, e = .returned v ∧ segTT (turnS s S0) [v] w'' ∧ Fresh W14 w'' ∧ Below y.w.heap.size y.w w'' := fun y => (kV y.w (hw14 y)).mono fun e1 w1 ⟨v, he, hr, hb⟩ => ⟨v, he, hr, Fresh.below y.h hb, hb⟩
      have k2 : ∀ y : Cls (Fresh W14), _ := fun y => (Hal.out y.w).mono fun e1 w1 ⟨he, hb⟩ => (⟨he, Fresh.below y.h hb, hb⟩ : e1 = _ ∧ Fresh W14 w1 ∧ Below y.w.heap.size y.w w1)
      have fTurned : ∀ (vals : Array Value) (w : World), (callFunc 23 vals).run Try.prog w = .ok (.enter 23 vals) w := fun _ _ => by kernel_rfl
      have falive : ∀ (vals : Array Value) (w : World), (callFunc 10 vals).run Try.prog w = .ok (.enter 10 vals) w := fun _ _ => by kernel_rfl
      have hS0 : Fresh W14 W14.drew := Fresh.below (Below.refl _ _) (Below.drew (Below.refl _ _))
      have ne : Nonempty (Cls (Fresh W14)) := ⟨⟨W14, Below.refl _ _⟩⟩
      have HB := Lib.hid hB
      clear hw14 kV hB hp hx
      have HS0 := Lib.hid hS0
      clear hS0
      have Qp := Lib.hid qp
      clear qp
      have Qx := Lib.hid qx
      clear qx
      have K1 := Lib.hid k1
      clear k1
      have K2 := Lib.hid k2
      clear k2
      have FTurned := Lib.hid fTurned
      clear fTurned
      have Falive := Lib.hid falive
      clear falive
      refine wp_region_flow 12 (Fresh W14) (fun w w' => Below w.heap.size w w') (by kernel_rfl) (by kernel_rfl) (by kernel_rfl) (fun w => Below.refl _ _) HS0.out ?_
      simp only [List.take_succ_cons, List.take_zero, List.drop_succ_cons, List.drop_zero]
      repeat (first
        | (refine flow_load gp _ Qp.out segU segI rfl (fun w => Below.refl _ _) rfl rfl rfl W14 ?_; intro K hK; go_big_quiet_op; go_big_quiet_on)
        | (refine flow_load gx _ Qx.out shU shI rfl (fun w => Below.refl _ _) rfl rfl rfl W14 ?_; intro K hK; go_big_quiet_op; go_big_quiet_on)
        | (refine flow_quiet (fun w => Below.refl _ _) rfl rfl rfl rfl ?_; intro K hK; go_big_quiet_op; go_big_quiet_on)
        | (refine flow_callF (segTT (turnS s S0)) segTT.of FTurned.out _ ?_ rfl K1.out rfl rfl W14 ?_; (focus (simp only [List.map_toArray, List.map_cons, List.map_nil]; rfl)); intro K hK; go_big_quiet_op; go_big_quiet_on)
        | (refine flow_call0 Falive.out K2.out W14 ?_; intro K hK; go_big_quiet_op; go_big_quiet_on)
        | (refine flow_call Falive.out #[] (by simp only [List.map_toArray, List.map_nil]) rfl rfl rfl _ K2.out W14 ?_; intro K hK; go_big_quiet_op; go_big_quiet_on)
        | (refine flow_valY (.int .u16 (s.s7 : Int)) 0 rfl rfl (fun w => Below.refl _ _) ?_ rfl rfl W14 ?_; (focus (intro f' w' hy; obtain ⟨A1, c1, hv1, _⟩ := hy.is; simp only [execOp, Sem.run_bind, fillW, Act.eval, Act.put, List.setIfInBounds_toArray, List.set_cons_succ, List.set_cons_zero]; simp; rw [hv1, field_win, hWz]; rfl)); intro K hK; go_big_quiet_op; go_big_quiet_on))
      refine flow_nil ?_
      intro W5 f hW5 hF5
      clear hF5
      simp only [fillW, Act.put, List.setIfInBounds_toArray, List.set_cons_succ, List.set_cons_zero]
      generalize f 78 = v78
      have hB5 : Below w.heap.size w W5 := HB.out.trans (Below.mono hW5 HB.out.size)
      clear hW5 ne
      have HB5 := Lib.hid hB5
      clear hB5
      go_wp2
      go_ret
      exact ⟨rfl, HB5.out⟩
    | false =>
      rw [mt] at kf
      clear hcmp ms mt
      simp only [if_true, Bool.false_eq_true, if_false] at ke kf
      have Ke := Lib.hid ke
      clear ke
      have Kf := Lib.hid kf
      clear kf
      have Hal := Lib.hid hal
      clear hal
      have Hs := Lib.hid hs
      clear hs
      have Ht := Lib.hid ht
      clear ht
      go_enter Try.func8, Try.ntmps8
      go_upto_region 1 with fail
      have hp := Blk.alloc (Blk.alloc (Blk.new w 30 (s.c A c)) (.cells (t.c B e) 30)) (.cells sh.c 46)
      have hq := Blk.alloc (Blk.new (w.alloc (.cells (s.c A c) 30)) 30 (t.c B e)) (.cells sh.c 46)
      rw [show (w.alloc (.cells (s.c A c) 30)).heap.size = w.heap.size + 1 by simp] at hq
      have hx := Blk.new ((w.alloc (.cells (s.c A c) 30)).alloc (.cells (t.c B e) 30)) 46 sh.c
      rw [show ((w.alloc (.cells (s.c A c) 30)).alloc (.cells (t.c B e) 30)).heap.size = w.heap.size + 2 by simp] at hx
      have hB := Below.alloc (Below.alloc (Below.alloc (HB.out) (Nat.le_trans HB.out.size (by simp <;> omega)) (.cells (s.c A c) 30)) (Nat.le_trans HB.out.size (by simp <;> omega)) (.cells (t.c B e) 30)) (Nat.le_trans HB.out.size (by simp <;> omega)) (.cells sh.c 46)
      clear HB
      obtain ⟨gx, hgex⟩ : ∃ g, g = w.heap.size + 2 := ⟨_, rfl⟩
      rw [← hgex] at hx ⊢
      obtain ⟨gq, hgeq⟩ : ∃ g, g = w.heap.size + 1 := ⟨_, rfl⟩
      rw [← hgeq] at hq ⊢
      obtain ⟨gp, hgep⟩ : ∃ g, g = w.heap.size := ⟨_, rfl⟩
      rw [← hgep] at hp ⊢
      have hne_p_q : gp ≠ gq := by omega
      have hne_p_x : gp ≠ gx := by omega
      have hne_q_x : gq ≠ gx := by omega
      have hle_p : w.heap.size ≤ gp := by omega
      have hle_q : w.heap.size ≤ gq := by omega
      have hle_x : w.heap.size ≤ gx := by omega
      clear hgep hgeq hgex
      generalize ((w.alloc _).alloc _).alloc _ = wn7 at *
      have Hp := Lib.hid hp
      clear hp
      have Hq := Lib.hid hq
      clear hq
      have Hx := Lib.hid hx
      clear hx
      have HB := Lib.hid hB
      clear hB
      obtain ⟨W1, hwnW1⟩ : ∃ W, W = wn7 := ⟨_, rfl⟩
      rw [← hwnW1] at Hp Hq Hx HB ⊢
      clear hwnW1
      have np_x := hne_p_x
      have hwx := hle_x
      have Np_x := Lib.hid np_x
      clear np_x
      have Hwx := Lib.hid hwx
      clear hwx
      clear hne_p_q hne_p_x hne_q_x hle_p hle_q hle_x
      go_wp2_with (first | (refine wpl_load_at (E := 30) rfl rfl rfl Hp.out segU segI ?_))
      with_reducible refine (Hs.out _).mono ?_
      rintro e1 w2 ⟨rfl, hbq⟩
      have hp := Hp.out.below hbq Hp.out.lt
      clear Hp
      have Hp := Lib.hid hp
      clear hp
      have hq := Hq.out.below hbq Hq.out.lt
      clear Hq
      have Hq := Lib.hid hq
      clear hq
      have hx := Hx.out.below hbq Hx.out.lt
      clear Hx
      have Hx := Lib.hid hx
      clear hx
      have hB := HB.out.trans (hbq.mono HB.out.size)
      clear HB
      have HB := Lib.hid hB
      clear hB
      clear hbq
      go_wp2_with (first | (refine wpl_load_g rfl rfl rfl Hq.out segU segI ?_))
      with_reducible refine (Ht.out _).mono ?_
      rintro e2 w3 ⟨rfl, hbq⟩
      have hp := Hp.out.below hbq Hp.out.lt
      clear Hp
      have Hp := Lib.hid hp
      clear hp
      have hq := Hq.out.below hbq Hq.out.lt
      clear Hq
      have Hq := Lib.hid hq
      clear hq
      have hx := Hx.out.below hbq Hx.out.lt
      clear Hx
      have Hx := Lib.hid hx
      clear hx
      have hB := HB.out.trans (hbq.mono HB.out.size)
      clear HB
      have HB := Lib.hid hB
      clear hB
      clear hbq
      go_wp2_with (first | (refine wpl_load_at (E := 30) rfl rfl rfl Hp.out segU segI ?_))
      with_reducible refine (Ke.out _ HB.out).mono ?_
      rintro e3 w4 ⟨rfl, hbq⟩
      have hp := Hp.out.below hbq Hp.out.lt
      clear Hp
      have Hp := Lib.hid hp
      clear hp
      have hq := Hq.out.below hbq Hq.out.lt
      clear Hq
      have Hq := Lib.hid hq
      clear hq
      have hx := Hx.out.below hbq Hx.out.lt
      clear Hx
      have Hx := Lib.hid hx
      clear hx
      have hB := HB.out.trans (hbq.mono HB.out.size)
      clear HB
      have HB := Lib.hid hB
      clear hB
      clear hbq
      go_wp2_with (first | (refine wpl_load_at (E := 30) rfl rfl rfl Hq.out segU segI ?_))
      with_reducible refine (Kf.out _ HB.out).mono ?_
      rintro e4 w5 ⟨rfl, hbq⟩
      have hp := Hp.out.below hbq Hp.out.lt
      clear Hp
      have Hp := Lib.hid hp
      clear hp
      have hq := Hq.out.below hbq Hq.out.lt
      clear Hq
      have Hq := Lib.hid hq
      clear hq
      have hx := Hx.out.below hbq Hx.out.lt
      clear Hx
      have Hx := Lib.hid hx
      clear hx
      have hB := HB.out.trans (hbq.mono HB.out.size)
      clear HB
      have HB := Lib.hid hB
      clear hB
      clear hbq
      clear Hq
      -- turned, and turned back
      have hpo := Hp.out
      have hxo := Hx.out
      have z0 : w5.cell? ⟨gp, 0, none⟩ = some (.int .u32 (s.s0 : Int)) := hpo.cell 0
      have z1 : w5.cell? ⟨gp, 1, none⟩ = some (.int .u16 (s.s1 : Int)) := hpo.cell 1
      have z2 : w5.cell? ⟨gp, 2, none⟩ = some (.int .u32 (s.s2 : Int)) := hpo.cell 2
      have z3 : w5.cell? ⟨gp, 3, none⟩ = some (.int .u16 (s.s3 : Int)) := hpo.cell 3
      have y4 : w5.cell? ⟨gx, 4, none⟩ = some (.int .u32 (sh.x4 : Int)) := hxo.cell 4
      have y5 : w5.cell? ⟨gx, 5, none⟩ = some (.int .u32 (sh.x5 : Int)) := hxo.cell 5
      have y6 : w5.cell? ⟨gx, 6, none⟩ = some (.int .u32 (sh.x6 : Int)) := hxo.cell 6
      have y7 : w5.cell? ⟨gx, 7, none⟩ = some (.int .u32 (sh.x7 : Int)) := hxo.cell 7
      have g4 := neg_int Hsh.out.b4
      have g5 := neg_int Hsh.out.b5
      have g6 := neg_int Hsh.out.b6
      have g7 := neg_int Hsh.out.b7
      clear hpo hxo
      go_upto_region 8 with (first | (refine wpl_put_now (E := 46) rfl rfl rfl rfl (backS s sh).c rfl rfl rfl shI rfl (by kernel_rfl) ?_))
      clear z0 z1 z2 z3 y4 y5 y6 y7 g4 g5 g6 g7
      have hy := Blk.new w5 46 (backS s sh).c
      have hp := Blk.alloc Hp.out (.cells (backS s sh).c 46)
      clear Hp
      have hx := Blk.alloc Hx.out (.cells (backS s sh).c 46)
      clear Hx
      have hB := HB.out.alloc HB.out.size (.cells (backS s sh).c 46)
      clear HB
      obtain ⟨gy, hge⟩ : ∃ g, g = w5.heap.size := ⟨_, rfl⟩
      rw [← hge] at hy ⊢
      have hle_y : w5.heap.size ≤ gy := by omega
      clear hge
      generalize w5.alloc _ = wn8 at *
      have Hp := Lib.hid hp
      clear hp
      have Hx := Lib.hid hx
      clear hx
      have Hy := Lib.hid hy
      clear hy
      have HB := Lib.hid hB
      clear hB
      obtain ⟨w8, hwnw8⟩ : ∃ W, W = wn8 := ⟨_, rfl⟩
      rw [← hwnw8] at Hp Hx Hy HB ⊢
      clear hwnw8
      have hB8 := HB.out.size
      have HB8 := Lib.hid hB8
      clear hB8
      have qp : ∀ y : Cls (Fresh w8), Blk y.w gp 30 (s.c A c) := fun y => Hp.out.below y.h Hp.out.lt
      have qx : ∀ y : Cls (Fresh w8), Blk y.w gx 46 sh.c := fun y => Hx.out.below y.h Hx.out.lt
      have qy : ∀ y : Cls (Fresh w8), Blk y.w gy 46 (backS s sh).c := fun y => Hy.out.below y.h Hy.out.lt
      have hw8 : ∀ y : Cls (Fresh w8), Below w.heap.size w y.w := fun y => HB.out.trans (Below.mono y.h HB.out.size)
      have k1 : ∀ y : Cls (Fresh w8), Calls Try.prog 23 #[.agg (s.c A c), .agg sh.c] y.w fun e w'' => ∃ v, e = .returned v ∧ segTT (turnS s sh) [v] w'' ∧ Fresh w8 w'' ∧ Below y.w.heap.size y.w w'' := fun y => (KT.out y.w (hw8 y)).mono fun e1 w1 ⟨v, he, hr, hb⟩ => ⟨v, he, hr, Fresh.below y.h hb, hb⟩
      have k2 : ∀ (y : Cls (Fresh w8)) (u1 : Value), segTT (turnS s sh) [u1] y.w → Calls Try.prog 23 #[u1, .agg (backS s sh).c] y.w fun e w'' => ∃ v, e = .returned v ∧ segTT (turnS (turnS s sh) (backS s sh)) [v] w'' ∧ Fresh w8 w'' ∧ Below y.w.heap.size y.w w'' := by
        intro y u1 h1
        obtain ⟨A1, c1, rfl, b1, _⟩ := h1.is
        exact (KU.out y.w A1 c1 b1).mono fun e1 w1 ⟨v, he, hr, hb⟩ => ⟨v, he, hr, Fresh.below y.h hb, hb⟩
      have fTurned : ∀ (vals : Array Value) (w : World), (callFunc 23 vals).run Try.prog w = .ok (.enter 23 vals) w := fun _ _ => by kernel_rfl
      have hS0 : Fresh w8 w8.drew := Fresh.below (Below.refl _ _) (Below.drew (Below.refl _ _))
      have ne : Nonempty (Cls (Fresh w8)) := ⟨⟨w8, Below.refl _ _⟩⟩
      clear hw8
      have HS0 := Lib.hid hS0
      clear hS0
      have Qp := Lib.hid qp
      clear qp
      have Qx := Lib.hid qx
      clear qx
      have Qy := Lib.hid qy
      clear qy
      have K1 := Lib.hid k1
      clear k1
      have K2 := Lib.hid k2
      clear k2
      have FTurned := Lib.hid fTurned
      clear fTurned
      refine wp_region_flow 6 (Fresh w8) (fun w w' => Below w.heap.size w w') (by kernel_rfl) (by kernel_rfl) (by kernel_rfl) (fun w => Below.refl _ _) HS0.out ?_
      simp only [List.take_succ_cons, List.take_zero, List.drop_succ_cons, List.drop_zero]
      repeat (first
        | (refine flow_load gp _ Qp.out segU segI rfl (fun w => Below.refl _ _) rfl rfl rfl w8 ?_; intro K hK; go_big_quiet_op; go_big_quiet_on)
        | (refine flow_load gx _ Qx.out shU shI rfl (fun w => Below.refl _ _) rfl rfl rfl w8 ?_; intro K hK; go_big_quiet_op; go_big_quiet_on)
        | (refine flow_load gy _ Qy.out shU shI rfl (fun w => Below.refl _ _) rfl rfl rfl w8 ?_; intro K hK; go_big_quiet_op; go_big_quiet_on)
        | (refine flow_callF (segTT (turnS s sh)) segTT.of FTurned.out _ ?_ rfl K1.out rfl rfl w8 ?_; (focus (simp only [List.map_toArray, List.map_cons, List.map_nil]; rfl)); intro K hK; go_big_quiet_op; go_big_quiet_on)
        | (refine flow_callG (segTT (turnS (turnS s sh) (backS s sh))) segTT.of FTurned.out (fun u1 => #[u1, .agg (backS s sh).c]) 0 rfl rfl (fun f => by rfl) K2.out rfl rfl w8 ?_; intro K hK; go_big_quiet_op; go_big_quiet_on)
        | (refine flow_lay w8.heap.size zeroC alloc_seg (fun w w' h hb => Fresh.below h hb) (fun w h => Below.size h) rfl rfl w8 ?_; intro K hK; go_big_quiet_op; go_big_quiet_on))
      refine flow_nil ?_
      intro W9 f hW hF
      obtain ⟨⟨gu, hu1, hu2, hu3⟩, hF⟩ := List.forall_mem_cons.1 hF
      obtain ⟨hF2, hF⟩ := List.forall_mem_cons.1 hF
      obtain ⟨A6, c6, hv, hbr, hty⟩ := segTT.is hF2
      clear hF hF2
      simp only [fillW, Act.put, List.setIfInBounds_toArray, List.set_cons_succ, List.set_cons_zero]
      simp only [List.map_cons, List.map_nil, List.cons.injEq, and_true] at hu1
      rw [hu1, hv]
      clear hu1 hv
      generalize f 64 = v64
      have hb9 : Below w8.heap.size w8 W9 := hW
      clear hW ne
      have np : gp ≠ gu := by have := Hp.out.lt; omega
      have nx : gx ≠ gu := by have := Hx.out.lt; omega
      have nA : ∀ g o k, A6 = some ⟨g, o, k⟩ → g ≠ gu := by
        rintro g o k hA rfl
        obtain ⟨_, cs, fr, h2⟩ := hty g o k hA
        unfold Blk at hu3
        rw [hu3] at h2
        injection h2 with h2
        injection h2 with _ h2
        revert h2
        decide
      clear hty Qp Qx Qy K1 K2 HS0
      clear Hy
      have hp := Hp.out.below hb9 Hp.out.lt
      clear Hp
      have Hp := Lib.hid hp
      clear hp
      have hx := Hx.out.below hb9 Hx.out.lt
      clear Hx
      have Hx := Lib.hid hx
      clear hx
      have hB := HB.out.trans (hb9.mono HB.out.size)
      clear HB
      have HB := Lib.hid hB
      clear hB
      clear hb9
      have hwu : w.heap.size ≤ gu := by have := HB8.out; omega
      obtain ⟨U, hU⟩ : ∃ U, U = turnS (turnS s sh) (backS s sh) := ⟨_, rfl⟩
      rw [← hU] at hbr ⊢
      have hUs : { U with s7 := s.s7 } = s := by rw [hU]; exact turnS_back Hsw.out Hsh.out
      have hUb : U.o.bl = s.o.bl := by
        have h := congrArg (fun z : Sg => z.o.bl) hUs
        exact h
      have hUc : (U.c A6 c6).setIfInBounds 7 (.int .u16 (s.s7 : Int)) = s.c A6 c6 := by
        have : (U.c A6 c6).setIfInBounds 7 (.int .u16 (s.s7 : Int)) = ({ U with s7 := s.s7 } : Sg).c A6 c6 := rfl
        rw [this, hUs]
      rw [hUb] at hbr
      clear hU hUs hUb
      have Hu3 := Lib.hid hu3
      clear hu3
      have Hbr := Lib.hid hbr
      clear hbr
      have Hwu := Lib.hid hwu
      clear hwu
      have Np := Lib.hid np
      clear np
      have Nx := Lib.hid nx
      clear nx
      have NA := Lib.hid nA
      clear nA
      have HUc := Lib.hid hUc
      clear hUc
      go_upto_region 9 with (first | (refine wpl_put_at (E := 30) rfl rfl rfl Hu3.out rfl (U.c A6 c6) rfl segI_ rfl (by kernel_rfl) ?_))
      have hu4 := Hu3.out.row (U.c A6 c6)
      have hp := Hp.out.row_far Np.out (U.c A6 c6)
      have hx := Hx.out.row_far Nx.out (U.c A6 c6)
      have hB := below_rowU HB.out Hwu.out (U.c A6 c6)
      have hbr4 := BlR.kept (W' := W9.setRow gu (U.c A6 c6)) Hbr.out (fun g o k e => heap_row W9 gu _ g (NA.out g o k e)) (Nat.le_of_eq (size_row _ _ _).symm)
      clear Hu3 Hp Hx HB Hbr
      generalize World.setRow _ _ _ = W10 at *
      have hb10 := hbr4
      clear hbr4
      have Hp := Lib.hid hp
      have Hx := Lib.hid hx
      have HB := Lib.hid hB
      clear hp hx hB
      have Hu4 := Lib.hid hu4
      clear hu4
      have Hb10 := Lib.hid hb10
      clear hb10
      have z7 : W10.cell? ⟨gp, 7, none⟩ = some (.int .u16 (s.s7 : Int)) := Hp.out.cell 7
      have u7 : W10.cell? ⟨gu, 7, none⟩ = some (.int .u16 (U.s7 : Int)) := Hu4.out.cell 7
      have f7 := Hu4.out.frozen 7
      go_upto_region 10 with fail
      clear z7 u7 f7
      have hu5 := Hu4.out.set_ 7 (.int .u16 (s.s7 : Int))
      rw [HUc.out] at hu5
      have hp := Hp.out.far (p := ⟨gu, 7, none⟩) Np.out (.int .u16 (s.s7 : Int))
      have hx := Hx.out.far (p := ⟨gu, 7, none⟩) Nx.out (.int .u16 (s.s7 : Int))
      have hB := HB.out.setCell (p := ⟨gu, 7, none⟩) Hwu.out (.int .u16 (s.s7 : Int))
      have hb11 := BlR.kept (W' := W10.setCell ⟨gu, 7, none⟩ (.int .u16 (s.s7 : Int))) Hb10.out (fun g o k e => Below.heap_setCell W10 ⟨gu, 7, none⟩ _ g (NA.out g o k e)) (by simp [World.setCell])
      clear Hu4 Hp Hx HB Hb10 HUc
      generalize World.setCell _ _ _ = W11 at *
      have Hp := Lib.hid hp
      have Hx := Lib.hid hx
      have HB := Lib.hid hB
      have Hu := Lib.hid hu5
      clear hp hx hB hu5
      have Hb11 := Lib.hid hb11
      clear hb11
      go_wp2_with (first | (refine wpl_load_at (E := 30) rfl rfl rfl Hp.out segU segI ?_) | (refine wpl_load_at (E := 30) rfl rfl rfl Hu.out segU segI ?_))
      with_reducible refine (KS.out _ HB.out _ _ Hb11.out).mono ?_
      rintro e8 w12 ⟨rfl, hbq⟩
      have hp := Hp.out.below hbq Hp.out.lt
      clear Hp
      have Hp := Lib.hid hp
      clear hp
      have hx := Hx.out.below hbq Hx.out.lt
      clear Hx
      have Hx := Lib.hid hx
      clear hx
      have hu := Hu.out.below hbq Hu.out.lt
      clear Hu
      have Hu := Lib.hid hu
      clear hu
      have hB := HB.out.trans (hbq.mono HB.out.size)
      clear HB
      have HB := Lib.hid hB
      clear hB
      clear hbq
      -- no scales
      clear Hu Hb11
      have y8 : w12.cell? ⟨gx, 8, none⟩ = some (.int .i64 sh.x8) := Hx.out.cell 8
      have y9 : w12.cell? ⟨gx, 9, none⟩ = some (.int .i64 sh.x9) := Hx.out.cell 9
      have x8 := Hx.out.frozen 8
      have x9 := Hx.out.frozen 9
      have npx : gp ≠ gx := Np_x.out
      have hwx := Hwx.out
      go_upto_region 14 with fail
      clear y8 y9 x8 x9
      have hx := (Hx.out.set_ 8 (.int .i64 0)).set_ 9 (.int .i64 0)
      have hp := (Hp.out.far (p := ⟨gx, 8, none⟩) npx (.int .i64 0)).far (p := ⟨gx, 9, none⟩) npx (.int .i64 0)
      have hB := (HB.out.setCell (p := ⟨gx, 8, none⟩) hwx (.int .i64 0)).setCell (p := ⟨gx, 9, none⟩) hwx (.int .i64 0)
      have hx : Blk ((w12.setCell ⟨gx, 8, none⟩ (.int .i64 0)).setCell ⟨gx, 9, none⟩ (.int .i64 0)) gx 46 (({ sh with x8 := 0, x9 := 0 } : Sh).c) := hx
      clear Hx Hp HB npx hwx
      generalize (World.setCell _ _ _).setCell _ _ = W14 at *
      have hWz := HWz.out
      obtain ⟨S0, hS0e⟩ : ∃ S0 : Sh, S0 = { sh with x8 := 0, x9 := 0 } := ⟨_, rfl⟩
      rw [← hS0e] at hx hWz
      have kV := KV.out
      rw [← hS0e] at kV
      clear KV HWz hS0e
      have qp : ∀ y : Cls (Fresh W14), Blk y.w gp 30 (s.c A c) := fun y => hp.below y.h hp.lt
      have qx : ∀ y : Cls (Fresh W14), Blk y.w gx 46 S0.c := fun y => hx.below y.h hx.lt
      have z7 : ∀ y : Cls (Fresh W14), y.w.cell? ⟨gp, 7, none⟩ = some (.int .u16 (s.s7 : Int)) := fun y => (qp y).cell 7
      have hw14 : ∀ y : Cls (Fresh W14), Below w.heap.size w y.w := fun y => hB.trans (Below.mono y.h hB.size)
      have k1 : ∀ y : Cls (Fresh W14), Calls Try.prog 23 #[.agg (s.c A c), .agg S0.c] y.w fun e w'' => ∃ v, e = .returned v ∧ segTT (turnS s S0) [v] w'' ∧ Fresh W14 w'' ∧ Below y.w.heap.size y.w w'' := fun y => (kV y.w (hw14 y)).mono fun e1 w1 ⟨v, he, hr, hb⟩ => ⟨v, he, hr, Fresh.below y.h hb, hb⟩
      have k2 : ∀ y : Cls (Fresh W14), _ := fun y => (Hal.out y.w).mono fun e1 w1 ⟨he, hb⟩ => (⟨he, Fresh.below y.h hb, hb⟩ : e1 = _ ∧ Fresh W14 w1 ∧ Below y.w.heap.size y.w w1)
      have fTurned : ∀ (vals : Array Value) (w : World), (callFunc 23 vals).run Try.prog w = .ok (.enter 23 vals) w := fun _ _ => by kernel_rfl
      have falive : ∀ (vals : Array Value) (w : World), (callFunc 10 vals).run Try.prog w = .ok (.enter 10 vals) w := fun _ _ => by kernel_rfl
      have hS0 : Fresh W14 W14.drew := Fresh.below (Below.refl _ _) (Below.drew (Below.refl _ _))
      have ne : Nonempty (Cls (Fresh W14)) := ⟨⟨W14, Below.refl _ _⟩⟩
      have HB := Lib.hid hB
      clear hw14 kV hB hp hx
      have HS0 := Lib.hid hS0
      clear hS0
      have Qp := Lib.hid qp
      clear qp
      have Qx := Lib.hid qx
      clear qx
      have K1 := Lib.hid k1
      clear k1
      have K2 := Lib.hid k2
      clear k2
      have FTurned := Lib.hid fTurned
      clear fTurned
      have Falive := Lib.hid falive
      clear falive
      refine wp_region_flow 12 (Fresh W14) (fun w w' => Below w.heap.size w w') (by kernel_rfl) (by kernel_rfl) (by kernel_rfl) (fun w => Below.refl _ _) HS0.out ?_
      simp only [List.take_succ_cons, List.take_zero, List.drop_succ_cons, List.drop_zero]
      repeat (first
        | (refine flow_load gp _ Qp.out segU segI rfl (fun w => Below.refl _ _) rfl rfl rfl W14 ?_; intro K hK; go_big_quiet_op; go_big_quiet_on)
        | (refine flow_load gx _ Qx.out shU shI rfl (fun w => Below.refl _ _) rfl rfl rfl W14 ?_; intro K hK; go_big_quiet_op; go_big_quiet_on)
        | (refine flow_quiet (fun w => Below.refl _ _) rfl rfl rfl rfl ?_; intro K hK; go_big_quiet_op; go_big_quiet_on)
        | (refine flow_callF (segTT (turnS s S0)) segTT.of FTurned.out _ ?_ rfl K1.out rfl rfl W14 ?_; (focus (simp only [List.map_toArray, List.map_cons, List.map_nil]; rfl)); intro K hK; go_big_quiet_op; go_big_quiet_on)
        | (refine flow_call0 Falive.out K2.out W14 ?_; intro K hK; go_big_quiet_op; go_big_quiet_on)
        | (refine flow_call Falive.out #[] (by simp only [List.map_toArray, List.map_nil]) rfl rfl rfl _ K2.out W14 ?_; intro K hK; go_big_quiet_op; go_big_quiet_on)
        | (refine flow_valY (.int .u16 (s.s7 : Int)) 0 rfl rfl (fun w => Below.refl _ _) ?_ rfl rfl W14 ?_; (focus (intro f' w' hy; obtain ⟨A1, c1, hv1, _⟩ := hy.is; simp only [execOp, Sem.run_bind, fillW, Act.eval, Act.put, List.setIfInBounds_toArray, List.set_cons_succ, List.set_cons_zero]; simp; rw [hv1, field_win, hWz]; rfl)); intro K hK; go_big_quiet_op; go_big_quiet_on))
      refine flow_nil ?_
      intro W5 f hW5 hF5
      clear hF5
      simp only [fillW, Act.put, List.setIfInBounds_toArray, List.set_cons_succ, List.set_cons_zero]
      generalize f 78 = v78
      have hB5 : Below w.heap.size w W5 := HB.out.trans (Below.mono hW5 HB.out.size)
      clear hW5 ne
      have HB5 := Lib.hid hB5
      clear hB5
      go_wp2
      go_ret
      exact ⟨rfl, HB5.out⟩
  | false =>
    rw [ms] at ke
    clear hcmp ms
    simp only [Bool.false_eq_true, if_false] at ke
    obtain ⟨E, hE⟩ : ∃ E, E = (if t.may = true then (Y, (0 : Int)) else (⟨#[]⟩, 2)) := ⟨_, rfl⟩
    rw [← hE] at kf
    obtain ⟨E1, E2⟩ := E
    dsimp only at kf
    clear hE
    have Ke := Lib.hid ke
    clear ke
    have Kf := Lib.hid kf
    clear kf
    have Hal := Lib.hid hal
    clear hal
    have Hs := Lib.hid hs
    clear hs
    have Ht := Lib.hid ht
    clear ht
    go_enter Try.func8, Try.ntmps8
    go_upto_region 1 with fail
    have hp := Blk.alloc (Blk.alloc (Blk.new w 30 (s.c A c)) (.cells (t.c B e) 30)) (.cells sh.c 46)
    have hq := Blk.alloc (Blk.new (w.alloc (.cells (s.c A c) 30)) 30 (t.c B e)) (.cells sh.c 46)
    rw [show (w.alloc (.cells (s.c A c) 30)).heap.size = w.heap.size + 1 by simp] at hq
    have hx := Blk.new ((w.alloc (.cells (s.c A c) 30)).alloc (.cells (t.c B e) 30)) 46 sh.c
    rw [show ((w.alloc (.cells (s.c A c) 30)).alloc (.cells (t.c B e) 30)).heap.size = w.heap.size + 2 by simp] at hx
    have hB := Below.alloc (Below.alloc (Below.alloc (HB.out) (Nat.le_trans HB.out.size (by simp <;> omega)) (.cells (s.c A c) 30)) (Nat.le_trans HB.out.size (by simp <;> omega)) (.cells (t.c B e) 30)) (Nat.le_trans HB.out.size (by simp <;> omega)) (.cells sh.c 46)
    clear HB
    obtain ⟨gx, hgex⟩ : ∃ g, g = w.heap.size + 2 := ⟨_, rfl⟩
    rw [← hgex] at hx ⊢
    obtain ⟨gq, hgeq⟩ : ∃ g, g = w.heap.size + 1 := ⟨_, rfl⟩
    rw [← hgeq] at hq ⊢
    obtain ⟨gp, hgep⟩ : ∃ g, g = w.heap.size := ⟨_, rfl⟩
    rw [← hgep] at hp ⊢
    have hne_p_q : gp ≠ gq := by omega
    have hne_p_x : gp ≠ gx := by omega
    have hne_q_x : gq ≠ gx := by omega
    have hle_p : w.heap.size ≤ gp := by omega
    have hle_q : w.heap.size ≤ gq := by omega
    have hle_x : w.heap.size ≤ gx := by omega
    clear hgep hgeq hgex
    generalize ((w.alloc _).alloc _).alloc _ = wn9 at *
    have Hp := Lib.hid hp
    clear hp
    have Hq := Lib.hid hq
    clear hq
    have Hx := Lib.hid hx
    clear hx
    have HB := Lib.hid hB
    clear hB
    obtain ⟨W1, hwnW1⟩ : ∃ W, W = wn9 := ⟨_, rfl⟩
    rw [← hwnW1] at Hp Hq Hx HB ⊢
    clear hwnW1
    have np_x := hne_p_x
    have hwx := hle_x
    have Np_x := Lib.hid np_x
    clear np_x
    have Hwx := Lib.hid hwx
    clear hwx
    clear hne_p_q hne_p_x hne_q_x hle_p hle_q hle_x
    go_wp2_with (first | (refine wpl_load_at (E := 30) rfl rfl rfl Hp.out segU segI ?_))
    with_reducible refine (Hs.out _).mono ?_
    rintro e1 w2 ⟨rfl, hbq⟩
    have hp := Hp.out.below hbq Hp.out.lt
    clear Hp
    have Hp := Lib.hid hp
    clear hp
    have hq := Hq.out.below hbq Hq.out.lt
    clear Hq
    have Hq := Lib.hid hq
    clear hq
    have hx := Hx.out.below hbq Hx.out.lt
    clear Hx
    have Hx := Lib.hid hx
    clear hx
    have hB := HB.out.trans (hbq.mono HB.out.size)
    clear HB
    have HB := Lib.hid hB
    clear hB
    clear hbq
    go_wp2_with (first | (refine wpl_load_g rfl rfl rfl Hq.out segU segI ?_))
    with_reducible refine (Ht.out _).mono ?_
    rintro e2 w3 ⟨rfl, hbq⟩
    have hp := Hp.out.below hbq Hp.out.lt
    clear Hp
    have Hp := Lib.hid hp
    clear hp
    have hq := Hq.out.below hbq Hq.out.lt
    clear Hq
    have Hq := Lib.hid hq
    clear hq
    have hx := Hx.out.below hbq Hx.out.lt
    clear Hx
    have Hx := Lib.hid hx
    clear hx
    have hB := HB.out.trans (hbq.mono HB.out.size)
    clear HB
    have HB := Lib.hid hB
    clear hB
    clear hbq
    go_wp2_with (first | (refine wpl_load_at (E := 30) rfl rfl rfl Hp.out segU segI ?_))
    with_reducible refine (Ke.out _ HB.out).mono ?_
    rintro e3 w4 ⟨rfl, hbq⟩
    have hp := Hp.out.below hbq Hp.out.lt
    clear Hp
    have Hp := Lib.hid hp
    clear hp
    have hq := Hq.out.below hbq Hq.out.lt
    clear Hq
    have Hq := Lib.hid hq
    clear hq
    have hx := Hx.out.below hbq Hx.out.lt
    clear Hx
    have Hx := Lib.hid hx
    clear hx
    have hB := HB.out.trans (hbq.mono HB.out.size)
    clear HB
    have HB := Lib.hid hB
    clear hB
    clear hbq
    go_wp2_with (first | (refine wpl_load_at (E := 30) rfl rfl rfl Hq.out segU segI ?_))
    with_reducible refine (Kf.out _ HB.out).mono ?_
    rintro e4 w5 ⟨rfl, hbq⟩
    have hp := Hp.out.below hbq Hp.out.lt
    clear Hp
    have Hp := Lib.hid hp
    clear hp
    have hq := Hq.out.below hbq Hq.out.lt
    clear Hq
    have Hq := Lib.hid hq
    clear hq
    have hx := Hx.out.below hbq Hx.out.lt
    clear Hx
    have Hx := Lib.hid hx
    clear hx
    have hB := HB.out.trans (hbq.mono HB.out.size)
    clear HB
    have HB := Lib.hid hB
    clear hB
    clear hbq
    clear Hq
    -- turned, and turned back
    have hpo := Hp.out
    have hxo := Hx.out
    have z0 : w5.cell? ⟨gp, 0, none⟩ = some (.int .u32 (s.s0 : Int)) := hpo.cell 0
    have z1 : w5.cell? ⟨gp, 1, none⟩ = some (.int .u16 (s.s1 : Int)) := hpo.cell 1
    have z2 : w5.cell? ⟨gp, 2, none⟩ = some (.int .u32 (s.s2 : Int)) := hpo.cell 2
    have z3 : w5.cell? ⟨gp, 3, none⟩ = some (.int .u16 (s.s3 : Int)) := hpo.cell 3
    have y4 : w5.cell? ⟨gx, 4, none⟩ = some (.int .u32 (sh.x4 : Int)) := hxo.cell 4
    have y5 : w5.cell? ⟨gx, 5, none⟩ = some (.int .u32 (sh.x5 : Int)) := hxo.cell 5
    have y6 : w5.cell? ⟨gx, 6, none⟩ = some (.int .u32 (sh.x6 : Int)) := hxo.cell 6
    have y7 : w5.cell? ⟨gx, 7, none⟩ = some (.int .u32 (sh.x7 : Int)) := hxo.cell 7
    have g4 := neg_int Hsh.out.b4
    have g5 := neg_int Hsh.out.b5
    have g6 := neg_int Hsh.out.b6
    have g7 := neg_int Hsh.out.b7
    clear hpo hxo
    go_upto_region 8 with (first | (refine wpl_put_now (E := 46) rfl rfl rfl rfl (backS s sh).c rfl rfl rfl shI rfl (by kernel_rfl) ?_))
    clear z0 z1 z2 z3 y4 y5 y6 y7 g4 g5 g6 g7
    have hy := Blk.new w5 46 (backS s sh).c
    have hp := Blk.alloc Hp.out (.cells (backS s sh).c 46)
    clear Hp
    have hx := Blk.alloc Hx.out (.cells (backS s sh).c 46)
    clear Hx
    have hB := HB.out.alloc HB.out.size (.cells (backS s sh).c 46)
    clear HB
    obtain ⟨gy, hge⟩ : ∃ g, g = w5.heap.size := ⟨_, rfl⟩
    rw [← hge] at hy ⊢
    have hle_y : w5.heap.size ≤ gy := by omega
    clear hge
    generalize w5.alloc _ = wn10 at *
    have Hp := Lib.hid hp
    clear hp
    have Hx := Lib.hid hx
    clear hx
    have Hy := Lib.hid hy
    clear hy
    have HB := Lib.hid hB
    clear hB
    obtain ⟨w8, hwnw8⟩ : ∃ W, W = wn10 := ⟨_, rfl⟩
    rw [← hwnw8] at Hp Hx Hy HB ⊢
    clear hwnw8
    have hB8 := HB.out.size
    have HB8 := Lib.hid hB8
    clear hB8
    have qp : ∀ y : Cls (Fresh w8), Blk y.w gp 30 (s.c A c) := fun y => Hp.out.below y.h Hp.out.lt
    have qx : ∀ y : Cls (Fresh w8), Blk y.w gx 46 sh.c := fun y => Hx.out.below y.h Hx.out.lt
    have qy : ∀ y : Cls (Fresh w8), Blk y.w gy 46 (backS s sh).c := fun y => Hy.out.below y.h Hy.out.lt
    have hw8 : ∀ y : Cls (Fresh w8), Below w.heap.size w y.w := fun y => HB.out.trans (Below.mono y.h HB.out.size)
    have k1 : ∀ y : Cls (Fresh w8), Calls Try.prog 23 #[.agg (s.c A c), .agg sh.c] y.w fun e w'' => ∃ v, e = .returned v ∧ segTT (turnS s sh) [v] w'' ∧ Fresh w8 w'' ∧ Below y.w.heap.size y.w w'' := fun y => (KT.out y.w (hw8 y)).mono fun e1 w1 ⟨v, he, hr, hb⟩ => ⟨v, he, hr, Fresh.below y.h hb, hb⟩
    have k2 : ∀ (y : Cls (Fresh w8)) (u1 : Value), segTT (turnS s sh) [u1] y.w → Calls Try.prog 23 #[u1, .agg (backS s sh).c] y.w fun e w'' => ∃ v, e = .returned v ∧ segTT (turnS (turnS s sh) (backS s sh)) [v] w'' ∧ Fresh w8 w'' ∧ Below y.w.heap.size y.w w'' := by
      intro y u1 h1
      obtain ⟨A1, c1, rfl, b1, _⟩ := h1.is
      exact (KU.out y.w A1 c1 b1).mono fun e1 w1 ⟨v, he, hr, hb⟩ => ⟨v, he, hr, Fresh.below y.h hb, hb⟩
    have fTurned : ∀ (vals : Array Value) (w : World), (callFunc 23 vals).run Try.prog w = .ok (.enter 23 vals) w := fun _ _ => by kernel_rfl
    have hS0 : Fresh w8 w8.drew := Fresh.below (Below.refl _ _) (Below.drew (Below.refl _ _))
    have ne : Nonempty (Cls (Fresh w8)) := ⟨⟨w8, Below.refl _ _⟩⟩
    clear hw8
    have HS0 := Lib.hid hS0
    clear hS0
    have Qp := Lib.hid qp
    clear qp
    have Qx := Lib.hid qx
    clear qx
    have Qy := Lib.hid qy
    clear qy
    have K1 := Lib.hid k1
    clear k1
    have K2 := Lib.hid k2
    clear k2
    have FTurned := Lib.hid fTurned
    clear fTurned
    refine wp_region_flow 6 (Fresh w8) (fun w w' => Below w.heap.size w w') (by kernel_rfl) (by kernel_rfl) (by kernel_rfl) (fun w => Below.refl _ _) HS0.out ?_
    simp only [List.take_succ_cons, List.take_zero, List.drop_succ_cons, List.drop_zero]
    repeat (first
      | (refine flow_load gp _ Qp.out segU segI rfl (fun w => Below.refl _ _) rfl rfl rfl w8 ?_; intro K hK; go_big_quiet_op; go_big_quiet_on)
      | (refine flow_load gx _ Qx.out shU shI rfl (fun w => Below.refl _ _) rfl rfl rfl w8 ?_; intro K hK; go_big_quiet_op; go_big_quiet_on)
      | (refine flow_load gy _ Qy.out shU shI rfl (fun w => Below.refl _ _) rfl rfl rfl w8 ?_; intro K hK; go_big_quiet_op; go_big_quiet_on)
      | (refine flow_callF (segTT (turnS s sh)) segTT.of FTurned.out _ ?_ rfl K1.out rfl rfl w8 ?_; (focus (simp only [List.map_toArray, List.map_cons, List.map_nil]; rfl)); intro K hK; go_big_quiet_op; go_big_quiet_on)
      | (refine flow_callG (segTT (turnS (turnS s sh) (backS s sh))) segTT.of FTurned.out (fun u1 => #[u1, .agg (backS s sh).c]) 0 rfl rfl (fun f => by rfl) K2.out rfl rfl w8 ?_; intro K hK; go_big_quiet_op; go_big_quiet_on)
      | (refine flow_lay w8.heap.size zeroC alloc_seg (fun w w' h hb => Fresh.below h hb) (fun w h => Below.size h) rfl rfl w8 ?_; intro K hK; go_big_quiet_op; go_big_quiet_on))
    refine flow_nil ?_
    intro W9 f hW hF
    obtain ⟨⟨gu, hu1, hu2, hu3⟩, hF⟩ := List.forall_mem_cons.1 hF
    obtain ⟨hF2, hF⟩ := List.forall_mem_cons.1 hF
    obtain ⟨A6, c6, hv, hbr, hty⟩ := segTT.is hF2
    clear hF hF2
    simp only [fillW, Act.put, List.setIfInBounds_toArray, List.set_cons_succ, List.set_cons_zero]
    simp only [List.map_cons, List.map_nil, List.cons.injEq, and_true] at hu1
    rw [hu1, hv]
    clear hu1 hv
    generalize f 64 = v64
    have hb9 : Below w8.heap.size w8 W9 := hW
    clear hW ne
    have np : gp ≠ gu := by have := Hp.out.lt; omega
    have nx : gx ≠ gu := by have := Hx.out.lt; omega
    have nA : ∀ g o k, A6 = some ⟨g, o, k⟩ → g ≠ gu := by
      rintro g o k hA rfl
      obtain ⟨_, cs, fr, h2⟩ := hty g o k hA
      unfold Blk at hu3
      rw [hu3] at h2
      injection h2 with h2
      injection h2 with _ h2
      revert h2
      decide
    clear hty Qp Qx Qy K1 K2 HS0
    clear Hy
    have hp := Hp.out.below hb9 Hp.out.lt
    clear Hp
    have Hp := Lib.hid hp
    clear hp
    have hx := Hx.out.below hb9 Hx.out.lt
    clear Hx
    have Hx := Lib.hid hx
    clear hx
    have hB := HB.out.trans (hb9.mono HB.out.size)
    clear HB
    have HB := Lib.hid hB
    clear hB
    clear hb9
    have hwu : w.heap.size ≤ gu := by have := HB8.out; omega
    obtain ⟨U, hU⟩ : ∃ U, U = turnS (turnS s sh) (backS s sh) := ⟨_, rfl⟩
    rw [← hU] at hbr ⊢
    have hUs : { U with s7 := s.s7 } = s := by rw [hU]; exact turnS_back Hsw.out Hsh.out
    have hUb : U.o.bl = s.o.bl := by
      have h := congrArg (fun z : Sg => z.o.bl) hUs
      exact h
    have hUc : (U.c A6 c6).setIfInBounds 7 (.int .u16 (s.s7 : Int)) = s.c A6 c6 := by
      have : (U.c A6 c6).setIfInBounds 7 (.int .u16 (s.s7 : Int)) = ({ U with s7 := s.s7 } : Sg).c A6 c6 := rfl
      rw [this, hUs]
    rw [hUb] at hbr
    clear hU hUs hUb
    have Hu3 := Lib.hid hu3
    clear hu3
    have Hbr := Lib.hid hbr
    clear hbr
    have Hwu := Lib.hid hwu
    clear hwu
    have Np := Lib.hid np
    clear np
    have Nx := Lib.hid nx
    clear nx
    have NA := Lib.hid nA
    clear nA
    have HUc := Lib.hid hUc
    clear hUc
    go_upto_region 9 with (first | (refine wpl_put_at (E := 30) rfl rfl rfl Hu3.out rfl (U.c A6 c6) rfl segI_ rfl (by kernel_rfl) ?_))
    have hu4 := Hu3.out.row (U.c A6 c6)
    have hp := Hp.out.row_far Np.out (U.c A6 c6)
    have hx := Hx.out.row_far Nx.out (U.c A6 c6)
    have hB := below_rowU HB.out Hwu.out (U.c A6 c6)
    have hbr4 := BlR.kept (W' := W9.setRow gu (U.c A6 c6)) Hbr.out (fun g o k e => heap_row W9 gu _ g (NA.out g o k e)) (Nat.le_of_eq (size_row _ _ _).symm)
    clear Hu3 Hp Hx HB Hbr
    generalize World.setRow _ _ _ = W10 at *
    have hb10 := hbr4
    clear hbr4
    have Hp := Lib.hid hp
    have Hx := Lib.hid hx
    have HB := Lib.hid hB
    clear hp hx hB
    have Hu4 := Lib.hid hu4
    clear hu4
    have Hb10 := Lib.hid hb10
    clear hb10
    have z7 : W10.cell? ⟨gp, 7, none⟩ = some (.int .u16 (s.s7 : Int)) := Hp.out.cell 7
    have u7 : W10.cell? ⟨gu, 7, none⟩ = some (.int .u16 (U.s7 : Int)) := Hu4.out.cell 7
    have f7 := Hu4.out.frozen 7
    go_upto_region 10 with fail
    clear z7 u7 f7
    have hu5 := Hu4.out.set_ 7 (.int .u16 (s.s7 : Int))
    rw [HUc.out] at hu5
    have hp := Hp.out.far (p := ⟨gu, 7, none⟩) Np.out (.int .u16 (s.s7 : Int))
    have hx := Hx.out.far (p := ⟨gu, 7, none⟩) Nx.out (.int .u16 (s.s7 : Int))
    have hB := HB.out.setCell (p := ⟨gu, 7, none⟩) Hwu.out (.int .u16 (s.s7 : Int))
    have hb11 := BlR.kept (W' := W10.setCell ⟨gu, 7, none⟩ (.int .u16 (s.s7 : Int))) Hb10.out (fun g o k e => Below.heap_setCell W10 ⟨gu, 7, none⟩ _ g (NA.out g o k e)) (by simp [World.setCell])
    clear Hu4 Hp Hx HB Hb10 HUc
    generalize World.setCell _ _ _ = W11 at *
    have Hp := Lib.hid hp
    have Hx := Lib.hid hx
    have HB := Lib.hid hB
    have Hu := Lib.hid hu5
    clear hp hx hB hu5
    have Hb11 := Lib.hid hb11
    clear hb11
    go_wp2_with (first | (refine wpl_load_at (E := 30) rfl rfl rfl Hp.out segU segI ?_) | (refine wpl_load_at (E := 30) rfl rfl rfl Hu.out segU segI ?_))
    with_reducible refine (KS.out _ HB.out _ _ Hb11.out).mono ?_
    rintro e8 w12 ⟨rfl, hbq⟩
    have hp := Hp.out.below hbq Hp.out.lt
    clear Hp
    have Hp := Lib.hid hp
    clear hp
    have hx := Hx.out.below hbq Hx.out.lt
    clear Hx
    have Hx := Lib.hid hx
    clear hx
    have hu := Hu.out.below hbq Hu.out.lt
    clear Hu
    have Hu := Lib.hid hu
    clear hu
    have hB := HB.out.trans (hbq.mono HB.out.size)
    clear HB
    have HB := Lib.hid hB
    clear hB
    clear hbq
    -- no scales
    clear Hu Hb11
    have y8 : w12.cell? ⟨gx, 8, none⟩ = some (.int .i64 sh.x8) := Hx.out.cell 8
    have y9 : w12.cell? ⟨gx, 9, none⟩ = some (.int .i64 sh.x9) := Hx.out.cell 9
    have x8 := Hx.out.frozen 8
    have x9 := Hx.out.frozen 9
    have npx : gp ≠ gx := Np_x.out
    have hwx := Hwx.out
    go_upto_region 14 with fail
    clear y8 y9 x8 x9
    have hx := (Hx.out.set_ 8 (.int .i64 0)).set_ 9 (.int .i64 0)
    have hp := (Hp.out.far (p := ⟨gx, 8, none⟩) npx (.int .i64 0)).far (p := ⟨gx, 9, none⟩) npx (.int .i64 0)
    have hB := (HB.out.setCell (p := ⟨gx, 8, none⟩) hwx (.int .i64 0)).setCell (p := ⟨gx, 9, none⟩) hwx (.int .i64 0)
    have hx : Blk ((w12.setCell ⟨gx, 8, none⟩ (.int .i64 0)).setCell ⟨gx, 9, none⟩ (.int .i64 0)) gx 46 (({ sh with x8 := 0, x9 := 0 } : Sh).c) := hx
    clear Hx Hp HB npx hwx
    generalize (World.setCell _ _ _).setCell _ _ = W14 at *
    have hWz := HWz.out
    obtain ⟨S0, hS0e⟩ : ∃ S0 : Sh, S0 = { sh with x8 := 0, x9 := 0 } := ⟨_, rfl⟩
    rw [← hS0e] at hx hWz
    have kV := KV.out
    rw [← hS0e] at kV
    clear KV HWz hS0e
    have qp : ∀ y : Cls (Fresh W14), Blk y.w gp 30 (s.c A c) := fun y => hp.below y.h hp.lt
    have qx : ∀ y : Cls (Fresh W14), Blk y.w gx 46 S0.c := fun y => hx.below y.h hx.lt
    have z7 : ∀ y : Cls (Fresh W14), y.w.cell? ⟨gp, 7, none⟩ = some (.int .u16 (s.s7 : Int)) := fun y => (qp y).cell 7
    have hw14 : ∀ y : Cls (Fresh W14), Below w.heap.size w y.w := fun y => hB.trans (Below.mono y.h hB.size)
    have k1 : ∀ y : Cls (Fresh W14), Calls Try.prog 23 #[.agg (s.c A c), .agg S0.c] y.w fun e w'' => ∃ v, e = .returned v ∧ segTT (turnS s S0) [v] w'' ∧ Fresh W14 w'' ∧ Below y.w.heap.size y.w w'' := fun y => (kV y.w (hw14 y)).mono fun e1 w1 ⟨v, he, hr, hb⟩ => ⟨v, he, hr, Fresh.below y.h hb, hb⟩
    have k2 : ∀ y : Cls (Fresh W14), _ := fun y => (Hal.out y.w).mono fun e1 w1 ⟨he, hb⟩ => (⟨he, Fresh.below y.h hb, hb⟩ : e1 = _ ∧ Fresh W14 w1 ∧ Below y.w.heap.size y.w w1)
    have fTurned : ∀ (vals : Array Value) (w : World), (callFunc 23 vals).run Try.prog w = .ok (.enter 23 vals) w := fun _ _ => by kernel_rfl
    have falive : ∀ (vals : Array Value) (w : World), (callFunc 10 vals).run Try.prog w = .ok (.enter 10 vals) w := fun _ _ => by kernel_rfl
    have hS0 : Fresh W14 W14.drew := Fresh.below (Below.refl _ _) (Below.drew (Below.refl _ _))
    have ne : Nonempty (Cls (Fresh W14)) := ⟨⟨W14, Below.refl _ _⟩⟩
    have HB := Lib.hid hB
    clear hw14 kV hB hp hx
    have HS0 := Lib.hid hS0
    clear hS0
    have Qp := Lib.hid qp
    clear qp
    have Qx := Lib.hid qx
    clear qx
    have K1 := Lib.hid k1
    clear k1
    have K2 := Lib.hid k2
    clear k2
    have FTurned := Lib.hid fTurned
    clear fTurned
    have Falive := Lib.hid falive
    clear falive
    refine wp_region_flow 12 (Fresh W14) (fun w w' => Below w.heap.size w w') (by kernel_rfl) (by kernel_rfl) (by kernel_rfl) (fun w => Below.refl _ _) HS0.out ?_
    simp only [List.take_succ_cons, List.take_zero, List.drop_succ_cons, List.drop_zero]
    repeat (first
      | (refine flow_load gp _ Qp.out segU segI rfl (fun w => Below.refl _ _) rfl rfl rfl W14 ?_; intro K hK; go_big_quiet_op; go_big_quiet_on)
      | (refine flow_load gx _ Qx.out shU shI rfl (fun w => Below.refl _ _) rfl rfl rfl W14 ?_; intro K hK; go_big_quiet_op; go_big_quiet_on)
      | (refine flow_quiet (fun w => Below.refl _ _) rfl rfl rfl rfl ?_; intro K hK; go_big_quiet_op; go_big_quiet_on)
      | (refine flow_callF (segTT (turnS s S0)) segTT.of FTurned.out _ ?_ rfl K1.out rfl rfl W14 ?_; (focus (simp only [List.map_toArray, List.map_cons, List.map_nil]; rfl)); intro K hK; go_big_quiet_op; go_big_quiet_on)
      | (refine flow_call0 Falive.out K2.out W14 ?_; intro K hK; go_big_quiet_op; go_big_quiet_on)
      | (refine flow_call Falive.out #[] (by simp only [List.map_toArray, List.map_nil]) rfl rfl rfl _ K2.out W14 ?_; intro K hK; go_big_quiet_op; go_big_quiet_on)
      | (refine flow_valY (.int .u16 (s.s7 : Int)) 0 rfl rfl (fun w => Below.refl _ _) ?_ rfl rfl W14 ?_; (focus (intro f' w' hy; obtain ⟨A1, c1, hv1, _⟩ := hy.is; simp only [execOp, Sem.run_bind, fillW, Act.eval, Act.put, List.setIfInBounds_toArray, List.set_cons_succ, List.set_cons_zero]; simp; rw [hv1, field_win, hWz]; rfl)); intro K hK; go_big_quiet_op; go_big_quiet_on))
    refine flow_nil ?_
    intro W5 f hW5 hF5
    clear hF5
    simp only [fillW, Act.put, List.setIfInBounds_toArray, List.set_cons_succ, List.set_cons_zero]
    generalize f 78 = v78
    have hB5 : Below w.heap.size w W5 := HB.out.trans (Below.mono hW5 HB.out.size)
    clear hW5 ne
    have HB5 := Lib.hid hB5
    clear hB5
    go_wp2
    go_ret
    exact ⟨rfl, HB5.out⟩
theorem own : ownKnob Try.prog.godebug = none := by kernel_rfl
theorem laidOut : laidOutB Try.prog = true := by kernel_rfl
set_option maxRecDepth 100000 in
theorem lifted (os : Os) (started : os.Started) (H : Type) (enc : TypeId × Value → H) :
    ReturnsInHanded {} Try.checked os 8 .any (Rows.pktApartSpec.pre6 enc Try.prog Try.f8 Rows.pktApartRow.domain false) (Rows.pktApartSpec.post enc Try.prog Try.f8 false true false false) := by
  refine returnsInHanded_of_change (C := Try.checked) own started (by kernel_rfl) Try.func8
    (ChangeSpec.witness6 (enc := enc) (C := Try.checked) false ⟨#[], #[.agg #[.int .u32 0, .int .u16 0, .int .u32 0, .int .u16 0, .int .u32 0, .int .u32 0, .int .u8 0, .int .u16 0, .int .u16 0, .int .i64 0, .bool false, .slice none 0 0, .bool false, .int .u32 0, .int .u32 0, .string ByteArray.empty], .agg #[.int .u32 0, .int .u16 0, .int .u32 0, .int .u16 0, .int .u32 0, .int .u32 0, .int .u8 0, .int .u16 0, .int .u16 0, .int .i64 0, .bool false, .slice none 0 0, .bool false, .int .u32 0, .int .u32 0, .string ByteArray.empty], .agg #[.int .u32 0, .int .u16 0, .int .u32 0, .int .u16 0, .int .u32 0, .int .u32 0, .int .u32 0, .int .u32 0, .int .i64 0, .int .i64 0]], []⟩ 8 (by kernel_rfl) (by kernel_rfl) (by kernel_rfl) (by kernel_rfl)) ?_
  intro W base args ds gs before hval0 hW hcnd _
  have hval : ∀ (j : Nat) t v, Try.f8.params[j]? = some t → args[j]? = some v → Value.okWide Try.prog W .any base t v := hval0
  have hW' := hW
  obtain ⟨p, q, hA0, hV, rfl, hfz, hnd⟩ := hW
  have hA : DataW.TrodAll enc Try.prog W 0 (fun _ => true) true Try.f8.params.toList args.toList ds p := hA0
  rw [Try.params8] at hA hval
  obtain ⟨v0, vs0, d0, ds0, p0, q0, hargs, rfl, rfl, h0, r0⟩ := trodAll_cons hA
  obtain ⟨v1, vs1, d1, ds1, p1, q1, rfl, rfl, rfl, h1, r1⟩ := trodAll_cons r0
  obtain ⟨v2, vs2, d2, ds2, p2, q2, rfl, rfl, rfl, h2, r2⟩ := trodAll_cons r1
  obtain ⟨rfl, rfl, rfl⟩ := trodAll_nil r2
  obtain rfl : args = #[v0, v1, v2] := by cases args; simp_all
  obtain ⟨rfl, rfl⟩ := trodVars_none hV
  have k0 := h0
  have lt0 : ∀ x ∈ p0, x.block < W.heap.size := by obtain ⟨m, hm⟩ := k0; exact DataW.trod_lt m _ _ _ hm
  obtain ⟨a0_0, a0_1, a0_2, rfl, w0⟩ := open_sg (hval 0 30 v0 rfl rfl) h0
  have k1 := h1
  have lt1 : ∀ x ∈ p1, x.block < W.heap.size := by obtain ⟨m, hm⟩ := k1; exact DataW.trod_lt m _ _ _ hm
  obtain ⟨a1_0, a1_1, a1_2, rfl, w1⟩ := open_sg (hval 1 30 v1 rfl rfl) h1
  have k2 := h2
  have lt2 : ∀ x ∈ p2, x.block < W.heap.size := by obtain ⟨m, hm⟩ := k2; exact DataW.trod_lt m _ _ _ hm
  obtain ⟨a2_0, rfl, w2⟩ := open_sh (hval 2 46 v2 rfl rfl) h2
  clear hA0 hval0
  refine (walk a0_0 a0_1 a0_2 a1_0 a1_1 a1_2 a2_0 W w0 w1 w2).mono fun e W' ⟨he, bel⟩ => ?_
  subst he
  exact ⟨_, rfl, _, _, _, [], _, [], hW', trodAll_mk1 (shut_bool Try.underlying4 _), (trodAll_cons_mk (Below.trod laidOut (by kernel_rfl) (of_decide_eq_true (by kernel_rfl)) k0 bel lt0) (trodAll_cons_mk (Below.trod laidOut (by kernel_rfl) (of_decide_eq_true (by kernel_rfl)) k1 bel lt1) (trodAll_cons_mk (Below.trod laidOut (by kernel_rfl) (of_decide_eq_true (by kernel_rfl)) k2 bel lt2) trodAll_mk0))), rfl, bel.frame _, fun h => by cases h⟩
theorem over : Rows.pktApartRow.holds Try.pinned (OpenSpec.ofChange Rows.pktApartSpec) :=
  OpenClaim.holds_of_wide 8 Try.f8 rfl rfl rfl rfl rfl rfl rfl ⟨rfl, rfl, rfl, rfl, rfl⟩ rfl rfl rfl rfl rfl (by kernel_rfl) Try.func8 (by kernel_rfl)
    (of_decide_eq_true (by kernel_rfl)) (by unfold Func.isWrapper; first | (rw [if_pos (by decide +kernel)]; kernel_rfl) | (rw [if_neg (by decide +kernel)]; exact ⟨rfl, rfl⟩))
    (fun os started H enc _ => lifted os started H enc)
/-- THE STATEMENT -/
theorem proved : Rows.PktApartSaid := over
#print axioms proved
end Go.Proofs.Ytengegcnocdkoaa.pktApart
