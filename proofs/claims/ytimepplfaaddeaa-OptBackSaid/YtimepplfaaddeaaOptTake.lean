/- Layer 7 (opt): the reference's take: an option's meaning, put into options. -/
import Derived.Test.YtimepplfaaddeaaOptTurnP
import Derived.Test.YtimepplfaaddeaaFlowX
import Derived.Test.YtimepplfaaddeaaFlowUB
import Derived.StillTailTactics
set_option linter.unusedVariables false
set_option linter.unusedSimpArgs false
namespace Go.Proofs.Ytimepplfaaddeaa
open Go.RowKit Go.BigFrame

theorem out_new {O : Nat → Prop} {w W : World} {t : Nat} (h : Out O w W) (ht : w.heap.size ≤ t) (i : Nat) (v : Value) : Out O w (W.setCell ⟨t, i, none⟩ v) :=
  ⟨h.os, h.tape, h.output, by simpa [World.setCell] using h.size, fun j hj hn => (Below.heap_setCell W ⟨t, i, none⟩ v j (by simp; omega)).trans (h.block j hj hn)⟩
theorem out_alloc {O : Nat → Prop} {w W : World} (h : Out O w W) (o : Obj) : Out O w (W.alloc o) :=
  Out.trans h (Out.of_below (O := fun _ => False) ((Below.refl _ _).alloc (Nat.le_refl _) o)) (fun _ _ e => e.elim)
/-- the row of a slice at a block's beginning -/
def rowOf (A : Option Addr) (n c : Nat) : Option Nat := (Value.slice A n c).ownBlock
def TakePost (base : Nat) (w : World) (o : Op) (A : Option Addr) (c : Nat) (k : Nat) (B : List UInt8) (e : Ending) (w' : World) : Prop :=
  ∃ (o2 : Op) (A2 : Option Addr) (c2 : Nat) (ok : Bool), e = .returned (.tuple #[.agg (optC o2 A2 c2), .bool ok]) ∧ w'.ownsRow base 56 2 (.slice A2 o2.bl.length c2) o2.bl.length (o2.bl.flatMap blkC) ∧ Out (fun i => rowOf A o.bl.length c = some i) w w' ∧
    (rowOf A2 o2.bl.length c2 = rowOf A o.bl.length c ∨ ∃ g, w.heap.size ≤ g ∧ rowOf A2 o2.bl.length c2 = some g) ∧ takeI o k B = if ok then some o2 else none
set_option maxRecDepth 100000 in
set_option maxHeartbeats 2000000 in
theorem take_2 (base : Nat) (w : World) (o : Op) (A : Option Addr) (c : Nat) (k : Nat) (S : ByteArray) (B : List UInt8) (hSB : S.data.toList = B) (hl : longB k (B.length + 2) = true) (hBl : B.length ≤ 253)
    (hv : w.ownsRow base 56 2 (.slice A o.bl.length c) o.bl.length (o.bl.flatMap blkC)) (hb : base ≤ w.heap.size) (hn : o.bl.length ≤ 2000) (h2 : k = 2) :
    Calls Try.prog 28 #[.agg (optC o A c), .int .i64 (k : Int), .string S] w (TakePost base w o A c k B) := by
  have hsz : S.size = B.length := by rw [← hSB]; simp
  have u2 : ((k : Int) == 2) = true := by rw [h2]; rfl
  have hB2 : B.length = 2 := by rw [h2] at hl; simp [longB] at hl; omega
  obtain ⟨q, hq⟩ : ∃ q, q = numL B := ⟨_, rfl⟩
  have hq16 : q < 65536 := by
    rw [hq]
    match B, hB2 with
    | [a, b], _ =>
      have h1 := UInt8.toNat_lt a
      have h2 := UInt8.toNat_lt b
      rw [numL2]
      omega
  have hnum : ∀ W, Calls Try.prog 40 #[.string S] W fun e w' => e = .returned (.int .u32 (q : Int)) ∧ W = w' := fun W => by
    have := ref_num S W (by rw [hsz, hB2]; simp [maxLen])
    rw [hSB, ← hq] at this
    exact this
  obtain ⟨o2, ho2⟩ : ∃ z, z = ({ o with mss := q } : Op) := ⟨_, rfl⟩
  have htk : takeI o k B = if q = 0 then none else some o2 := by
    unfold takeI
    rw [if_pos h2, ← hq, Nat.mod_eq_of_lt hq16, ← ho2]
  have HB2 := Lib.hid hB2
  clear hB2
  have Hq := Lib.hid hq
  clear hq
  have H2 := Lib.hid h2
  clear h2
  have Hnum := Lib.hid hnum
  clear hnum
  have Ho2 := Lib.hid ho2
  clear ho2
  have hb0 : Below w.heap.size w w := Below.refl _ _
  have HB := Lib.hid hb0
  clear hb0
  have hv1 := (hv.alloc (.cells #[.int .u16 (o.mss : Int), .int .i64 o.scale, .bool o.sack, .slice A o.bl.length c, .bool o.time, .int .u32 (o.val : Int), .int .u32 (o.echo : Int)] 26)).alloc (.cells #[.int .u16 0, .int .i64 0, .bool false, .slice none 0 0, .bool false, .int .u32 0, .int .u32 0] 26)
  have HSB := Lib.hid hSB
  clear hSB
  have Hl := Lib.hid hl
  clear hl
  have Hv := Lib.hid hv
  clear hv
  have Hb := Lib.hid hb
  clear hb
  have Hn := Lib.hid hn
  clear hn
  have HBl := Lib.hid hBl
  clear hBl
  have Hsz := Lib.hid hsz
  clear hsz
  unfold optC
  go_enter Try.func28, Try.ntmps28
  go_upto_region 1 with fail
  have hx := Blk.alloc (Blk.new w 26 #[.int .u16 (o.mss : Int), .int .i64 o.scale, .bool o.sack, .slice A o.bl.length c, .bool o.time, .int .u32 (o.val : Int), .int .u32 (o.echo : Int)]) (.cells #[.int .u16 0, .int .i64 0, .bool false, .slice none 0 0, .bool false, .int .u32 0, .int .u32 0] 26)
  have hr := Blk.new (w.alloc (.cells #[.int .u16 (o.mss : Int), .int .i64 o.scale, .bool o.sack, .slice A o.bl.length c, .bool o.time, .int .u32 (o.val : Int), .int .u32 (o.echo : Int)] 26)) 26 #[.int .u16 0, .int .i64 0, .bool false, .slice none 0 0, .bool false, .int .u32 0, .int .u32 0]
  rw [show (w.alloc (.cells #[.int .u16 (o.mss : Int), .int .i64 o.scale, .bool o.sack, .slice A o.bl.length c, .bool o.time, .int .u32 (o.val : Int), .int .u32 (o.echo : Int)] 26)).heap.size = w.heap.size + 1 by simp] at hr
  have hB := Below.alloc (Below.alloc (HB.out) (Nat.le_trans HB.out.size (by simp <;> omega)) (.cells #[.int .u16 (o.mss : Int), .int .i64 o.scale, .bool o.sack, .slice A o.bl.length c, .bool o.time, .int .u32 (o.val : Int), .int .u32 (o.echo : Int)] 26)) (Nat.le_trans HB.out.size (by simp <;> omega)) (.cells #[.int .u16 0, .int .i64 0, .bool false, .slice none 0 0, .bool false, .int .u32 0, .int .u32 0] 26)
  clear HB
  obtain ⟨gr, hger⟩ : ∃ g, g = w.heap.size + 1 := ⟨_, rfl⟩
  rw [← hger] at hr ⊢
  obtain ⟨gx, hgex⟩ : ∃ g, g = w.heap.size := ⟨_, rfl⟩
  rw [← hgex] at hx ⊢
  have hne_x_r : gx ≠ gr := by omega
  have hle_x : w.heap.size ≤ gx := by omega
  have hle_r : w.heap.size ≤ gr := by omega
  clear hgex hger
  generalize (w.alloc _).alloc _ = wn1 at *
  have Hx := Lib.hid hx
  clear hx
  have Hr := Lib.hid hr
  clear hr
  have HB := Lib.hid hB
  clear hB
  obtain ⟨W1, hW1⟩ : ∃ W, W = wn1 := ⟨_, rfl⟩
  rw [← hW1] at Hx Hr HB hv1 ⊢
  clear hW1
  have hx1 : Blk W1 gx 26 (optC o A c) := Hx.out
  have hx1' := Hx.out
  have c0 := hx1'.cell 0
  have c1 := hx1'.cell 1
  have c2 := hx1'.cell 2
  have c3 := hx1'.cell 3
  have c4 := hx1'.cell 4
  have c5 := hx1'.cell 5
  have c6 := hx1'.cell 6
  simp at c0 c1 c2 c3 c4 c5 c6
  have fr := hx1'.frozen
  have Hx1 := Lib.hid hx1
  have Hv1 := Lib.hid hv1
  have hout1 : Out (fun i => rowOf A o.bl.length c = some i) w W1 := Out.of_below HB.out
  have Hout1 := Lib.hid hout1
  clear hx1 hx1' hv1 hout1
  by_cases hq0 : q = 0
  · rw [if_pos hq0] at htk
    have q1 : ((q : Int) != 0) = false := by rw [hq0]; rfl
    have Htk : Hid (takeI o k B = if false then some o2 else none) := Lib.hid htk
    clear htk hq0
    go_upto_region 4 with (go_at_call 40; refine (Hnum.out _).mono ?_; rintro e w' ⟨rfl, rfl⟩)
    generalize hWf : World.setCell _ _ _ = W2
    have hx2 : Blk W2 gx 26 (optC o2 A c) := by
      rw [← hWf]
      have := Hx1.out.set_ 0 (.int .u16 (q : Int))
      rw [Ho2.out]
      simpa [optC] using this
    have hg2 : W1.grownBy W2 (some gx) := by
      rw [← hWf]
      exact only_set (World.grownBy.refl _ _) _ _
    have hr2 := Hr.out.grown hg2 (fun e => hne_x_r (Option.some.inj e).symm)
    have hout2 : Out (fun i => rowOf A o.bl.length c = some i) w W2 := by
      rw [← hWf]
      exact out_new Hout1.out hle_x _ _
    have hv2 : W2.ownsRow base 56 2 (.slice A o2.bl.length c) o2.bl.length (o2.bl.flatMap blkC) := by
      have := Hv1.out.kept hg2 (.inr (own_blk_ne Hv1.out Hx1.out (by decide)))
      rw [Ho2.out]
      exact this
    have Hrow2 := Lib.hid (show rowOf A o2.bl.length c = rowOf A o.bl.length c ∨ ∃ g, w.heap.size ≤ g ∧ rowOf A o2.bl.length c = some g from .inl (by rw [Ho2.out]))
    clear hWf hg2 c0 c1 c2 c3 c4 c5 c6 fr
    have Hx2 := Lib.hid hx2
    clear hx2
    have Hr2 := Lib.hid hr2
    clear hr2
    have Hout2 := Lib.hid hout2
    clear hout2
    have Hv2 := Lib.hid hv2
    clear hv2
    have hm2 : o2.mss = q := by rw [Ho2.out]
    have hx2' := Hx2.out
    unfold optC at hx2'
    have z0 := hx2'.cell 0
    have z1 := hx2'.cell 1
    have z2 := hx2'.cell 2
    have z3 := hx2'.cell 3
    have z4 := hx2'.cell 4
    have z5 := hx2'.cell 5
    have z6 := hx2'.cell 6
    simp at z0 z1 z2 z3 z4 z5 z6
    have e0 := Hr2.out.cell 0
    have e1 := Hr2.out.cell 1
    have e2 := Hr2.out.cell 2
    have e3 := Hr2.out.cell 3
    have e4 := Hr2.out.cell 4
    have e5 := Hr2.out.cell 5
    have e6 := Hr2.out.cell 6
    simp at e0 e1 e2 e3 e4 e5 e6
    have fq := Hr2.out.frozen
    rw [hm2] at z0
    clear hx2'
    have Hm2 := Lib.hid hm2
    clear hm2
    go_region
    go_wp2_with fail
    generalize hWf : World.drew _ = Wf
    have hrF : Blk Wf gr 26 #[.int .u16 (q : Int), .int .i64 o2.scale, .bool o2.sack, .slice A o2.bl.length c, .bool o2.time, .int .u32 (o2.val : Int), .int .u32 (o2.echo : Int)] := by
      rw [← hWf]
      have := ((((((Hr2.out.set_ 0 (.int .u16 (q : Int))).set_ 1 (.int .i64 o2.scale)).set_ 2 (.bool o2.sack)).set_ 3 (.slice A o2.bl.length c)).set_ 4 (.bool o2.time)).set_ 5 (.int .u32 (o2.val : Int))).set_ 6 (.int .u32 (o2.echo : Int))
      simpa using this.drew
    have houtF : Out (fun i => rowOf A o.bl.length c = some i) w Wf := by
      rw [← hWf]
      refine Out.trans (O' := fun _ => False) ?_ (Out.of_below (Below.drew (Below.refl _ _))) (fun _ _ e => e.elim)
      repeat (refine out_new ?_ hle_r _ _)
      exact Hout2.out
    have hvF : Wf.ownsRow base 56 2 (.slice A o2.bl.length c) o2.bl.length (o2.bl.flatMap blkC) := by
      refine Hv2.out.kept (row := some gr) ?_ (.inr (own_blk_ne Hv2.out Hr2.out (by decide)))
      rw [← hWf]
      refine only_drew ?_
      repeat (refine only_set ?_ _ _)
      exact World.grownBy.refl _ _
    clear hWf z0 z1 z2 z3 z4 z5 z6 e0 e1 e2 e3 e4 e5 e6 fq
    have y0 := hrF.cell 0
    have y1 := hrF.cell 1
    have y2 := hrF.cell 2
    have y3 := hrF.cell 3
    have y4 := hrF.cell 4
    have y5 := hrF.cell 5
    have y6 := hrF.cell 6
    simp at y0 y1 y2 y3 y4 y5 y6
    exact bodyPost_ret (v := .tuple #[.agg #[.int .u16 (q : Int), .int .i64 o2.scale, .bool o2.sack, .slice A o2.bl.length c, .bool o2.time, .int .u32 (o2.val : Int), .int .u32 (o2.echo : Int)], .bool false]) (by simp [results, Try.results28, go_sem, y0, y1, y2, y3, y4, y5, y6]) rfl ⟨o2, A, c, false, by unfold optC; rw [Hm2.out], hvF, houtF, Hrow2.out, Htk.out⟩
  · rw [if_neg hq0] at htk
    have q1 : ((q : Int) != 0) = true := by simp; omega
    have Htk : Hid (takeI o k B = if true then some o2 else none) := Lib.hid htk
    clear htk hq0
    go_upto_region 4 with (go_at_call 40; refine (Hnum.out _).mono ?_; rintro e w' ⟨rfl, rfl⟩)
    generalize hWf : World.setCell _ _ _ = W2
    have hx2 : Blk W2 gx 26 (optC o2 A c) := by
      rw [← hWf]
      have := Hx1.out.set_ 0 (.int .u16 (q : Int))
      rw [Ho2.out]
      simpa [optC] using this
    have hg2 : W1.grownBy W2 (some gx) := by
      rw [← hWf]
      exact only_set (World.grownBy.refl _ _) _ _
    have hr2 := Hr.out.grown hg2 (fun e => hne_x_r (Option.some.inj e).symm)
    have hout2 : Out (fun i => rowOf A o.bl.length c = some i) w W2 := by
      rw [← hWf]
      exact out_new Hout1.out hle_x _ _
    have hv2 : W2.ownsRow base 56 2 (.slice A o2.bl.length c) o2.bl.length (o2.bl.flatMap blkC) := by
      have := Hv1.out.kept hg2 (.inr (own_blk_ne Hv1.out Hx1.out (by decide)))
      rw [Ho2.out]
      exact this
    have Hrow2 := Lib.hid (show rowOf A o2.bl.length c = rowOf A o.bl.length c ∨ ∃ g, w.heap.size ≤ g ∧ rowOf A o2.bl.length c = some g from .inl (by rw [Ho2.out]))
    clear hWf hg2 c0 c1 c2 c3 c4 c5 c6 fr
    have Hx2 := Lib.hid hx2
    clear hx2
    have Hr2 := Lib.hid hr2
    clear hr2
    have Hout2 := Lib.hid hout2
    clear hout2
    have Hv2 := Lib.hid hv2
    clear hv2
    have hm2 : o2.mss = q := by rw [Ho2.out]
    have hx2' := Hx2.out
    unfold optC at hx2'
    have z0 := hx2'.cell 0
    have z1 := hx2'.cell 1
    have z2 := hx2'.cell 2
    have z3 := hx2'.cell 3
    have z4 := hx2'.cell 4
    have z5 := hx2'.cell 5
    have z6 := hx2'.cell 6
    simp at z0 z1 z2 z3 z4 z5 z6
    have e0 := Hr2.out.cell 0
    have e1 := Hr2.out.cell 1
    have e2 := Hr2.out.cell 2
    have e3 := Hr2.out.cell 3
    have e4 := Hr2.out.cell 4
    have e5 := Hr2.out.cell 5
    have e6 := Hr2.out.cell 6
    simp at e0 e1 e2 e3 e4 e5 e6
    have fq := Hr2.out.frozen
    rw [hm2] at z0
    clear hx2'
    have Hm2 := Lib.hid hm2
    clear hm2
    go_region
    go_wp2_with fail
    generalize hWf : World.drew _ = Wf
    have hrF : Blk Wf gr 26 #[.int .u16 (q : Int), .int .i64 o2.scale, .bool o2.sack, .slice A o2.bl.length c, .bool o2.time, .int .u32 (o2.val : Int), .int .u32 (o2.echo : Int)] := by
      rw [← hWf]
      have := ((((((Hr2.out.set_ 0 (.int .u16 (q : Int))).set_ 1 (.int .i64 o2.scale)).set_ 2 (.bool o2.sack)).set_ 3 (.slice A o2.bl.length c)).set_ 4 (.bool o2.time)).set_ 5 (.int .u32 (o2.val : Int))).set_ 6 (.int .u32 (o2.echo : Int))
      simpa using this.drew
    have houtF : Out (fun i => rowOf A o.bl.length c = some i) w Wf := by
      rw [← hWf]
      refine Out.trans (O' := fun _ => False) ?_ (Out.of_below (Below.drew (Below.refl _ _))) (fun _ _ e => e.elim)
      repeat (refine out_new ?_ hle_r _ _)
      exact Hout2.out
    have hvF : Wf.ownsRow base 56 2 (.slice A o2.bl.length c) o2.bl.length (o2.bl.flatMap blkC) := by
      refine Hv2.out.kept (row := some gr) ?_ (.inr (own_blk_ne Hv2.out Hr2.out (by decide)))
      rw [← hWf]
      refine only_drew ?_
      repeat (refine only_set ?_ _ _)
      exact World.grownBy.refl _ _
    clear hWf z0 z1 z2 z3 z4 z5 z6 e0 e1 e2 e3 e4 e5 e6 fq
    have y0 := hrF.cell 0
    have y1 := hrF.cell 1
    have y2 := hrF.cell 2
    have y3 := hrF.cell 3
    have y4 := hrF.cell 4
    have y5 := hrF.cell 5
    have y6 := hrF.cell 6
    simp at y0 y1 y2 y3 y4 y5 y6
    exact bodyPost_ret (v := .tuple #[.agg #[.int .u16 (q : Int), .int .i64 o2.scale, .bool o2.sack, .slice A o2.bl.length c, .bool o2.time, .int .u32 (o2.val : Int), .int .u32 (o2.echo : Int)], .bool true]) (by simp [results, Try.results28, go_sem, y0, y1, y2, y3, y4, y5, y6]) rfl ⟨o2, A, c, true, by unfold optC; rw [Hm2.out], hvF, houtF, Hrow2.out, Htk.out⟩
set_option maxRecDepth 100000 in
set_option maxHeartbeats 2000000 in
theorem take_3 (base : Nat) (w : World) (o : Op) (A : Option Addr) (c : Nat) (k : Nat) (S : ByteArray) (B : List UInt8) (hSB : S.data.toList = B) (hl : longB k (B.length + 2) = true) (hBl : B.length ≤ 253)
    (hv : w.ownsRow base 56 2 (.slice A o.bl.length c) o.bl.length (o.bl.flatMap blkC)) (hb : base ≤ w.heap.size) (hn : o.bl.length ≤ 2000) (h3 : k = 3) :
    Calls Try.prog 28 #[.agg (optC o A c), .int .i64 (k : Int), .string S] w (TakePost base w o A c k B) := by
  have hsz : S.size = B.length := by rw [← hSB]; simp
  have u2 : ((k : Int) == 2) = false := by simp; omega
  have u3 : ((k : Int) == 3) = true := by simp; omega
  have u4 : ((k : Int) == 4) = false := by simp; omega
  have u5 : ((k : Int) == 5) = false := by simp; omega
  have u8 : ((k : Int) == 8) = false := by simp; omega
  have hB1 : B.length = 1 := by rw [h3] at hl; simp [longB] at hl; omega
  obtain ⟨q, hq⟩ : ∃ q, q = byteN B 0 := ⟨_, rfl⟩
  have hq256 : q < 256 := by rw [hq]; exact byteN_lt _ _
  have hix : ∀ W, (Instr.index 9 (.string S) (.int .i64 0)).run Try.prog W = .ok (.int .u8 (q : Int)) W := fun W => by
    have := index_at S 0 (by rw [hSB]; omega) W
    rw [hSB, ← hq] at this
    exact this
  obtain ⟨o2, ho2⟩ : ∃ z, z = ({ o with scale := min (q : Int) 14 } : Op) := ⟨_, rfl⟩
  have htk : takeI o k B = if true then some o2 else none := by
    unfold takeI
    rw [if_neg (by omega), if_pos h3, ← hq, ← ho2]
    rfl
  have HB1 := Lib.hid hB1
  clear hB1
  have Hq := Lib.hid hq
  clear hq
  have H3 := Lib.hid h3
  clear h3
  have Ho2 := Lib.hid ho2
  clear ho2
  have Htk := Lib.hid htk
  clear htk
  have hb0 : Below w.heap.size w w := Below.refl _ _
  have HB := Lib.hid hb0
  clear hb0
  have hv1 := (hv.alloc (.cells #[.int .u16 (o.mss : Int), .int .i64 o.scale, .bool o.sack, .slice A o.bl.length c, .bool o.time, .int .u32 (o.val : Int), .int .u32 (o.echo : Int)] 26)).alloc (.cells #[.int .u16 0, .int .i64 0, .bool false, .slice none 0 0, .bool false, .int .u32 0, .int .u32 0] 26)
  have HSB := Lib.hid hSB
  clear hSB
  have Hl := Lib.hid hl
  clear hl
  have Hv := Lib.hid hv
  clear hv
  have Hb := Lib.hid hb
  clear hb
  have Hn := Lib.hid hn
  clear hn
  have HBl := Lib.hid hBl
  clear hBl
  have Hsz := Lib.hid hsz
  clear hsz
  unfold optC
  go_enter Try.func28, Try.ntmps28
  go_upto_region 1 with fail
  have hx := Blk.alloc (Blk.new w 26 #[.int .u16 (o.mss : Int), .int .i64 o.scale, .bool o.sack, .slice A o.bl.length c, .bool o.time, .int .u32 (o.val : Int), .int .u32 (o.echo : Int)]) (.cells #[.int .u16 0, .int .i64 0, .bool false, .slice none 0 0, .bool false, .int .u32 0, .int .u32 0] 26)
  have hr := Blk.new (w.alloc (.cells #[.int .u16 (o.mss : Int), .int .i64 o.scale, .bool o.sack, .slice A o.bl.length c, .bool o.time, .int .u32 (o.val : Int), .int .u32 (o.echo : Int)] 26)) 26 #[.int .u16 0, .int .i64 0, .bool false, .slice none 0 0, .bool false, .int .u32 0, .int .u32 0]
  rw [show (w.alloc (.cells #[.int .u16 (o.mss : Int), .int .i64 o.scale, .bool o.sack, .slice A o.bl.length c, .bool o.time, .int .u32 (o.val : Int), .int .u32 (o.echo : Int)] 26)).heap.size = w.heap.size + 1 by simp] at hr
  have hB := Below.alloc (Below.alloc (HB.out) (Nat.le_trans HB.out.size (by simp <;> omega)) (.cells #[.int .u16 (o.mss : Int), .int .i64 o.scale, .bool o.sack, .slice A o.bl.length c, .bool o.time, .int .u32 (o.val : Int), .int .u32 (o.echo : Int)] 26)) (Nat.le_trans HB.out.size (by simp <;> omega)) (.cells #[.int .u16 0, .int .i64 0, .bool false, .slice none 0 0, .bool false, .int .u32 0, .int .u32 0] 26)
  clear HB
  obtain ⟨gr, hger⟩ : ∃ g, g = w.heap.size + 1 := ⟨_, rfl⟩
  rw [← hger] at hr ⊢
  obtain ⟨gx, hgex⟩ : ∃ g, g = w.heap.size := ⟨_, rfl⟩
  rw [← hgex] at hx ⊢
  have hne_x_r : gx ≠ gr := by omega
  have hle_x : w.heap.size ≤ gx := by omega
  have hle_r : w.heap.size ≤ gr := by omega
  clear hgex hger
  generalize (w.alloc _).alloc _ = wn2 at *
  have Hx := Lib.hid hx
  clear hx
  have Hr := Lib.hid hr
  clear hr
  have HB := Lib.hid hB
  clear hB
  obtain ⟨W1, hW1⟩ : ∃ W, W = wn2 := ⟨_, rfl⟩
  rw [← hW1] at Hx Hr HB hv1 ⊢
  clear hW1
  have hx1 : Blk W1 gx 26 (optC o A c) := Hx.out
  have hx1' := Hx.out
  have c0 := hx1'.cell 0
  have c1 := hx1'.cell 1
  have c2 := hx1'.cell 2
  have c3 := hx1'.cell 3
  have c4 := hx1'.cell 4
  have c5 := hx1'.cell 5
  have c6 := hx1'.cell 6
  simp at c0 c1 c2 c3 c4 c5 c6
  have fr := hx1'.frozen
  have Hx1 := Lib.hid hx1
  have Hv1 := Lib.hid hv1
  have hout1 : Out (fun i => rowOf A o.bl.length c = some i) w W1 := Out.of_below HB.out
  have Hout1 := Lib.hid hout1
  clear hx1 hx1' hv1 hout1
  go_upto_region 18 with fail
  generalize hWf : World.setCell _ _ _ = W2
  have hx2 : Blk W2 gx 26 (optC o2 A c) := by
    rw [← hWf]
    have := Hx1.out.set_ 1 (.int .i64 (min (q : Int) 14))
    rw [Ho2.out]
    simpa [optC] using this
  have hg2 : W1.grownBy W2 (some gx) := by
    rw [← hWf]
    exact only_set (World.grownBy.refl _ _) _ _
  have hr2 := Hr.out.grown hg2 (fun e => hne_x_r (Option.some.inj e).symm)
  have hout2 : Out (fun i => rowOf A o.bl.length c = some i) w W2 := by
    rw [← hWf]
    exact out_new Hout1.out hle_x _ _
  have hv2 : W2.ownsRow base 56 2 (.slice A o2.bl.length c) o2.bl.length (o2.bl.flatMap blkC) := by
    have := Hv1.out.kept hg2 (.inr (own_blk_ne Hv1.out Hx1.out (by decide)))
    rw [Ho2.out]
    exact this
  have Hrow2 := Lib.hid (show rowOf A o2.bl.length c = rowOf A o.bl.length c ∨ ∃ g, w.heap.size ≤ g ∧ rowOf A o2.bl.length c = some g from .inl (by rw [Ho2.out]))
  clear hWf hg2 c0 c1 c2 c3 c4 c5 c6 fr
  have Hx2 := Lib.hid hx2
  clear hx2
  have Hr2 := Lib.hid hr2
  clear hr2
  have Hout2 := Lib.hid hout2
  clear hout2
  have Hv2 := Lib.hid hv2
  clear hv2
  have hx2' := Hx2.out
  unfold optC at hx2'
  have z0 := hx2'.cell 0
  have z1 := hx2'.cell 1
  have z2 := hx2'.cell 2
  have z3 := hx2'.cell 3
  have z4 := hx2'.cell 4
  have z5 := hx2'.cell 5
  have z6 := hx2'.cell 6
  simp at z0 z1 z2 z3 z4 z5 z6
  have fq := Hr2.out.frozen
  have e0 := Hr2.out.cell 0
  have e1 := Hr2.out.cell 1
  have e2 := Hr2.out.cell 2
  have e3 := Hr2.out.cell 3
  have e4 := Hr2.out.cell 4
  have e5 := Hr2.out.cell 5
  have e6 := Hr2.out.cell 6
  simp at e0 e1 e2 e3 e4 e5 e6
  clear hx2'
  go_wp2_with fail
  generalize hWf : World.setCell _ _ _ = Wf
  have hrF : Blk Wf gr 26 #[.int .u16 (o2.mss : Int), .int .i64 o2.scale, .bool o2.sack, .slice A o2.bl.length c, .bool o2.time, .int .u32 (o2.val : Int), .int .u32 (o2.echo : Int)] := by
    rw [← hWf]
    have := ((((((Hr2.out.set_ 0 (.int .u16 (o2.mss : Int))).set_ 1 (.int .i64 o2.scale)).set_ 2 (.bool o2.sack)).set_ 3 (.slice A o2.bl.length c)).set_ 4 (.bool o2.time)).set_ 5 (.int .u32 (o2.val : Int))).set_ 6 (.int .u32 (o2.echo : Int))
    simpa using this
  have houtF : Out (fun i => rowOf A o.bl.length c = some i) w Wf := by
    rw [← hWf]
    repeat (refine out_new ?_ hle_r _ _)
    exact Hout2.out
  have hvF : Wf.ownsRow base 56 2 (.slice A o2.bl.length c) o2.bl.length (o2.bl.flatMap blkC) := by
    refine Hv2.out.kept (row := some gr) ?_ (.inr (own_blk_ne Hv2.out Hr2.out (by decide)))
    rw [← hWf]
    repeat (refine only_set ?_ _ _)
    exact World.grownBy.refl _ _
  clear hWf z0 z1 z2 z3 z4 z5 z6 e0 e1 e2 e3 e4 e5 e6 fq
  have y0 := hrF.cell 0
  have y1 := hrF.cell 1
  have y2 := hrF.cell 2
  have y3 := hrF.cell 3
  have y4 := hrF.cell 4
  have y5 := hrF.cell 5
  have y6 := hrF.cell 6
  simp at y0 y1 y2 y3 y4 y5 y6
  exact bodyPost_ret (v := .tuple #[.agg (optC o2 A c), .bool true]) (by simp [results, Try.results28, go_sem, optC, y0, y1, y2, y3, y4, y5, y6]) rfl ⟨o2, A, c, true, rfl, hvF, houtF, Hrow2.out, Htk.out⟩
set_option maxRecDepth 100000 in
set_option maxHeartbeats 2000000 in
theorem take_4 (base : Nat) (w : World) (o : Op) (A : Option Addr) (c : Nat) (k : Nat) (S : ByteArray) (B : List UInt8) (hSB : S.data.toList = B) (hl : longB k (B.length + 2) = true) (hBl : B.length ≤ 253)
    (hv : w.ownsRow base 56 2 (.slice A o.bl.length c) o.bl.length (o.bl.flatMap blkC)) (hb : base ≤ w.heap.size) (hn : o.bl.length ≤ 2000) (h4 : k = 4) :
    Calls Try.prog 28 #[.agg (optC o A c), .int .i64 (k : Int), .string S] w (TakePost base w o A c k B) := by
  have hsz : S.size = B.length := by rw [← hSB]; simp
  have u2 : ((k : Int) == 2) = false := by simp; omega
  have u3 : ((k : Int) == 3) = false := by simp; omega
  have u4 : ((k : Int) == 4) = true := by simp; omega
  have u5 : ((k : Int) == 5) = false := by simp; omega
  have u8 : ((k : Int) == 8) = false := by simp; omega
  obtain ⟨o2, ho2⟩ : ∃ z, z = ({ o with sack := true } : Op) := ⟨_, rfl⟩
  have htk : takeI o k B = if true then some o2 else none := by
    unfold takeI
    rw [if_neg (by omega), if_neg (by omega), if_pos h4, ← ho2]
    rfl
  have H4 := Lib.hid h4
  clear h4
  have Ho2 := Lib.hid ho2
  clear ho2
  have Htk := Lib.hid htk
  clear htk
  have hb0 : Below w.heap.size w w := Below.refl _ _
  have HB := Lib.hid hb0
  clear hb0
  have hv1 := (hv.alloc (.cells #[.int .u16 (o.mss : Int), .int .i64 o.scale, .bool o.sack, .slice A o.bl.length c, .bool o.time, .int .u32 (o.val : Int), .int .u32 (o.echo : Int)] 26)).alloc (.cells #[.int .u16 0, .int .i64 0, .bool false, .slice none 0 0, .bool false, .int .u32 0, .int .u32 0] 26)
  have HSB := Lib.hid hSB
  clear hSB
  have Hl := Lib.hid hl
  clear hl
  have Hv := Lib.hid hv
  clear hv
  have Hb := Lib.hid hb
  clear hb
  have Hn := Lib.hid hn
  clear hn
  have HBl := Lib.hid hBl
  clear hBl
  have Hsz := Lib.hid hsz
  clear hsz
  unfold optC
  go_enter Try.func28, Try.ntmps28
  go_upto_region 1 with fail
  have hx := Blk.alloc (Blk.new w 26 #[.int .u16 (o.mss : Int), .int .i64 o.scale, .bool o.sack, .slice A o.bl.length c, .bool o.time, .int .u32 (o.val : Int), .int .u32 (o.echo : Int)]) (.cells #[.int .u16 0, .int .i64 0, .bool false, .slice none 0 0, .bool false, .int .u32 0, .int .u32 0] 26)
  have hr := Blk.new (w.alloc (.cells #[.int .u16 (o.mss : Int), .int .i64 o.scale, .bool o.sack, .slice A o.bl.length c, .bool o.time, .int .u32 (o.val : Int), .int .u32 (o.echo : Int)] 26)) 26 #[.int .u16 0, .int .i64 0, .bool false, .slice none 0 0, .bool false, .int .u32 0, .int .u32 0]
  rw [show (w.alloc (.cells #[.int .u16 (o.mss : Int), .int .i64 o.scale, .bool o.sack, .slice A o.bl.length c, .bool o.time, .int .u32 (o.val : Int), .int .u32 (o.echo : Int)] 26)).heap.size = w.heap.size + 1 by simp] at hr
  have hB := Below.alloc (Below.alloc (HB.out) (Nat.le_trans HB.out.size (by simp <;> omega)) (.cells #[.int .u16 (o.mss : Int), .int .i64 o.scale, .bool o.sack, .slice A o.bl.length c, .bool o.time, .int .u32 (o.val : Int), .int .u32 (o.echo : Int)] 26)) (Nat.le_trans HB.out.size (by simp <;> omega)) (.cells #[.int .u16 0, .int .i64 0, .bool false, .slice none 0 0, .bool false, .int .u32 0, .int .u32 0] 26)
  clear HB
  obtain ⟨gr, hger⟩ : ∃ g, g = w.heap.size + 1 := ⟨_, rfl⟩
  rw [← hger] at hr ⊢
  obtain ⟨gx, hgex⟩ : ∃ g, g = w.heap.size := ⟨_, rfl⟩
  rw [← hgex] at hx ⊢
  have hne_x_r : gx ≠ gr := by omega
  have hle_x : w.heap.size ≤ gx := by omega
  have hle_r : w.heap.size ≤ gr := by omega
  clear hgex hger
  generalize (w.alloc _).alloc _ = wn3 at *
  have Hx := Lib.hid hx
  clear hx
  have Hr := Lib.hid hr
  clear hr
  have HB := Lib.hid hB
  clear hB
  obtain ⟨W1, hW1⟩ : ∃ W, W = wn3 := ⟨_, rfl⟩
  rw [← hW1] at Hx Hr HB hv1 ⊢
  clear hW1
  have hx1 : Blk W1 gx 26 (optC o A c) := Hx.out
  have hx1' := Hx.out
  have c0 := hx1'.cell 0
  have c1 := hx1'.cell 1
  have c2 := hx1'.cell 2
  have c3 := hx1'.cell 3
  have c4 := hx1'.cell 4
  have c5 := hx1'.cell 5
  have c6 := hx1'.cell 6
  simp at c0 c1 c2 c3 c4 c5 c6
  have fr := hx1'.frozen
  have Hx1 := Lib.hid hx1
  have Hv1 := Lib.hid hv1
  have hout1 : Out (fun i => rowOf A o.bl.length c = some i) w W1 := Out.of_below HB.out
  have Hout1 := Lib.hid hout1
  clear hx1 hx1' hv1 hout1
  go_upto_region 18 with fail
  generalize hWf : World.setCell _ _ _ = W2
  have hx2 : Blk W2 gx 26 (optC o2 A c) := by
    rw [← hWf]
    have := Hx1.out.set_ 2 (.bool true)
    rw [Ho2.out]
    simpa [optC] using this
  have hg2 : W1.grownBy W2 (some gx) := by
    rw [← hWf]
    exact only_set (World.grownBy.refl _ _) _ _
  have hr2 := Hr.out.grown hg2 (fun e => hne_x_r (Option.some.inj e).symm)
  have hout2 : Out (fun i => rowOf A o.bl.length c = some i) w W2 := by
    rw [← hWf]
    exact out_new Hout1.out hle_x _ _
  have hv2 : W2.ownsRow base 56 2 (.slice A o2.bl.length c) o2.bl.length (o2.bl.flatMap blkC) := by
    have := Hv1.out.kept hg2 (.inr (own_blk_ne Hv1.out Hx1.out (by decide)))
    rw [Ho2.out]
    exact this
  have Hrow2 := Lib.hid (show rowOf A o2.bl.length c = rowOf A o.bl.length c ∨ ∃ g, w.heap.size ≤ g ∧ rowOf A o2.bl.length c = some g from .inl (by rw [Ho2.out]))
  clear hWf hg2 c0 c1 c2 c3 c4 c5 c6 fr
  have Hx2 := Lib.hid hx2
  clear hx2
  have Hr2 := Lib.hid hr2
  clear hr2
  have Hout2 := Lib.hid hout2
  clear hout2
  have Hv2 := Lib.hid hv2
  clear hv2
  have hx2' := Hx2.out
  unfold optC at hx2'
  have z0 := hx2'.cell 0
  have z1 := hx2'.cell 1
  have z2 := hx2'.cell 2
  have z3 := hx2'.cell 3
  have z4 := hx2'.cell 4
  have z5 := hx2'.cell 5
  have z6 := hx2'.cell 6
  simp at z0 z1 z2 z3 z4 z5 z6
  have fq := Hr2.out.frozen
  have e0 := Hr2.out.cell 0
  have e1 := Hr2.out.cell 1
  have e2 := Hr2.out.cell 2
  have e3 := Hr2.out.cell 3
  have e4 := Hr2.out.cell 4
  have e5 := Hr2.out.cell 5
  have e6 := Hr2.out.cell 6
  simp at e0 e1 e2 e3 e4 e5 e6
  clear hx2'
  go_wp2_with fail
  generalize hWf : World.setCell _ _ _ = Wf
  have hrF : Blk Wf gr 26 #[.int .u16 (o2.mss : Int), .int .i64 o2.scale, .bool o2.sack, .slice A o2.bl.length c, .bool o2.time, .int .u32 (o2.val : Int), .int .u32 (o2.echo : Int)] := by
    rw [← hWf]
    have := ((((((Hr2.out.set_ 0 (.int .u16 (o2.mss : Int))).set_ 1 (.int .i64 o2.scale)).set_ 2 (.bool o2.sack)).set_ 3 (.slice A o2.bl.length c)).set_ 4 (.bool o2.time)).set_ 5 (.int .u32 (o2.val : Int))).set_ 6 (.int .u32 (o2.echo : Int))
    simpa using this
  have houtF : Out (fun i => rowOf A o.bl.length c = some i) w Wf := by
    rw [← hWf]
    repeat (refine out_new ?_ hle_r _ _)
    exact Hout2.out
  have hvF : Wf.ownsRow base 56 2 (.slice A o2.bl.length c) o2.bl.length (o2.bl.flatMap blkC) := by
    refine Hv2.out.kept (row := some gr) ?_ (.inr (own_blk_ne Hv2.out Hr2.out (by decide)))
    rw [← hWf]
    repeat (refine only_set ?_ _ _)
    exact World.grownBy.refl _ _
  clear hWf z0 z1 z2 z3 z4 z5 z6 e0 e1 e2 e3 e4 e5 e6 fq
  have y0 := hrF.cell 0
  have y1 := hrF.cell 1
  have y2 := hrF.cell 2
  have y3 := hrF.cell 3
  have y4 := hrF.cell 4
  have y5 := hrF.cell 5
  have y6 := hrF.cell 6
  simp at y0 y1 y2 y3 y4 y5 y6
  exact bodyPost_ret (v := .tuple #[.agg (optC o2 A c), .bool true]) (by simp [results, Try.results28, go_sem, optC, y0, y1, y2, y3, y4, y5, y6]) rfl ⟨o2, A, c, true, rfl, hvF, houtF, Hrow2.out, Htk.out⟩
set_option maxRecDepth 100000 in
set_option maxHeartbeats 2000000 in
theorem take_x (base : Nat) (w : World) (o : Op) (A : Option Addr) (c : Nat) (k : Nat) (S : ByteArray) (B : List UInt8) (hSB : S.data.toList = B) (hl : longB k (B.length + 2) = true) (hBl : B.length ≤ 253)
    (hv : w.ownsRow base 56 2 (.slice A o.bl.length c) o.bl.length (o.bl.flatMap blkC)) (hb : base ≤ w.heap.size) (hn : o.bl.length ≤ 2000) (hx : k ≠ 2 ∧ k ≠ 3 ∧ k ≠ 4 ∧ k ≠ 5 ∧ k ≠ 8) :
    Calls Try.prog 28 #[.agg (optC o A c), .int .i64 (k : Int), .string S] w (TakePost base w o A c k B) := by
  have hsz : S.size = B.length := by rw [← hSB]; simp
  have u2 : ((k : Int) == 2) = false := by simp; omega
  have u3 : ((k : Int) == 3) = false := by simp; omega
  have u4 : ((k : Int) == 4) = false := by simp; omega
  have u5 : ((k : Int) == 5) = false := by simp; omega
  have u8 : ((k : Int) == 8) = false := by simp; omega
  have htk : takeI o k B = if true then some o else none := by
    unfold takeI
    rw [if_neg (by omega), if_neg (by omega), if_neg (by omega), if_neg (by omega), if_neg (by omega)]
    rfl
  have Hx := Lib.hid hx
  clear hx
  have Htk := Lib.hid htk
  clear htk
  have hb0 : Below w.heap.size w w := Below.refl _ _
  have HB := Lib.hid hb0
  clear hb0
  have hv1 := (hv.alloc (.cells #[.int .u16 (o.mss : Int), .int .i64 o.scale, .bool o.sack, .slice A o.bl.length c, .bool o.time, .int .u32 (o.val : Int), .int .u32 (o.echo : Int)] 26)).alloc (.cells #[.int .u16 0, .int .i64 0, .bool false, .slice none 0 0, .bool false, .int .u32 0, .int .u32 0] 26)
  have HSB := Lib.hid hSB
  clear hSB
  have Hl := Lib.hid hl
  clear hl
  have Hv := Lib.hid hv
  clear hv
  have Hb := Lib.hid hb
  clear hb
  have Hn := Lib.hid hn
  clear hn
  have HBl := Lib.hid hBl
  clear hBl
  have Hsz := Lib.hid hsz
  clear hsz
  unfold optC
  go_enter Try.func28, Try.ntmps28
  go_upto_region 1 with fail
  have hx := Blk.alloc (Blk.new w 26 #[.int .u16 (o.mss : Int), .int .i64 o.scale, .bool o.sack, .slice A o.bl.length c, .bool o.time, .int .u32 (o.val : Int), .int .u32 (o.echo : Int)]) (.cells #[.int .u16 0, .int .i64 0, .bool false, .slice none 0 0, .bool false, .int .u32 0, .int .u32 0] 26)
  have hr := Blk.new (w.alloc (.cells #[.int .u16 (o.mss : Int), .int .i64 o.scale, .bool o.sack, .slice A o.bl.length c, .bool o.time, .int .u32 (o.val : Int), .int .u32 (o.echo : Int)] 26)) 26 #[.int .u16 0, .int .i64 0, .bool false, .slice none 0 0, .bool false, .int .u32 0, .int .u32 0]
  rw [show (w.alloc (.cells #[.int .u16 (o.mss : Int), .int .i64 o.scale, .bool o.sack, .slice A o.bl.length c, .bool o.time, .int .u32 (o.val : Int), .int .u32 (o.echo : Int)] 26)).heap.size = w.heap.size + 1 by simp] at hr
  have hB := Below.alloc (Below.alloc (HB.out) (Nat.le_trans HB.out.size (by simp <;> omega)) (.cells #[.int .u16 (o.mss : Int), .int .i64 o.scale, .bool o.sack, .slice A o.bl.length c, .bool o.time, .int .u32 (o.val : Int), .int .u32 (o.echo : Int)] 26)) (Nat.le_trans HB.out.size (by simp <;> omega)) (.cells #[.int .u16 0, .int .i64 0, .bool false, .slice none 0 0, .bool false, .int .u32 0, .int .u32 0] 26)
  clear HB
  obtain ⟨gr, hger⟩ : ∃ g, g = w.heap.size + 1 := ⟨_, rfl⟩
  rw [← hger] at hr ⊢
  obtain ⟨gx, hgex⟩ : ∃ g, g = w.heap.size := ⟨_, rfl⟩
  rw [← hgex] at hx ⊢
  have hne_x_r : gx ≠ gr := by omega
  have hle_x : w.heap.size ≤ gx := by omega
  have hle_r : w.heap.size ≤ gr := by omega
  clear hgex hger
  generalize (w.alloc _).alloc _ = wn4 at *
  have Hx := Lib.hid hx
  clear hx
  have Hr := Lib.hid hr
  clear hr
  have HB := Lib.hid hB
  clear hB
  obtain ⟨W1, hW1⟩ : ∃ W, W = wn4 := ⟨_, rfl⟩
  rw [← hW1] at Hx Hr HB hv1 ⊢
  clear hW1
  have hx1 : Blk W1 gx 26 (optC o A c) := Hx.out
  have hx1' := Hx.out
  have c0 := hx1'.cell 0
  have c1 := hx1'.cell 1
  have c2 := hx1'.cell 2
  have c3 := hx1'.cell 3
  have c4 := hx1'.cell 4
  have c5 := hx1'.cell 5
  have c6 := hx1'.cell 6
  simp at c0 c1 c2 c3 c4 c5 c6
  have fr := hx1'.frozen
  have Hx1 := Lib.hid hx1
  have Hv1 := Lib.hid hv1
  have hout1 : Out (fun i => rowOf A o.bl.length c = some i) w W1 := Out.of_below HB.out
  have Hout1 := Lib.hid hout1
  clear hx1 hx1' hv1 hout1
  go_upto_region 18 with fail
  clear c0 c1 c2 c3 c4 c5 c6 fr
  obtain ⟨o2, ho2⟩ : ∃ z, z = o := ⟨_, rfl⟩
  have Hrow2 : Hid (rowOf A o2.bl.length c = rowOf A o.bl.length c ∨ ∃ g, w.heap.size ≤ g ∧ rowOf A o2.bl.length c = some g) := Lib.hid (.inl (by rw [ho2]))
  have Hx2 := Hx1
  have Hv2 := Hv1
  have Hout2 := Hout1
  have Hr2 := Hr
  rw [← ho2] at Hx2
  rw [← ho2] at Hv2
  have htk' := Htk.out
  rw [if_pos rfl] at htk'
  clear Htk
  have Htk : Hid (takeI o k B = if true then some o2 else none) := Lib.hid (by rw [htk', ho2]; rfl)
  clear htk' ho2
  obtain ⟨W2, hW2⟩ : ∃ W, W = W1 := ⟨_, rfl⟩
  rw [← hW2] at Hx2 Hv2 Hout2 Hr2 ⊢
  clear hW2 Hx1 Hv1 Hout1
  have hx2' := Hx2.out
  unfold optC at hx2'
  have z0 := hx2'.cell 0
  have z1 := hx2'.cell 1
  have z2 := hx2'.cell 2
  have z3 := hx2'.cell 3
  have z4 := hx2'.cell 4
  have z5 := hx2'.cell 5
  have z6 := hx2'.cell 6
  simp at z0 z1 z2 z3 z4 z5 z6
  have fq := Hr2.out.frozen
  have e0 := Hr2.out.cell 0
  have e1 := Hr2.out.cell 1
  have e2 := Hr2.out.cell 2
  have e3 := Hr2.out.cell 3
  have e4 := Hr2.out.cell 4
  have e5 := Hr2.out.cell 5
  have e6 := Hr2.out.cell 6
  simp at e0 e1 e2 e3 e4 e5 e6
  clear hx2'
  go_wp2_with fail
  generalize hWf : World.setCell _ _ _ = Wf
  have hrF : Blk Wf gr 26 #[.int .u16 (o2.mss : Int), .int .i64 o2.scale, .bool o2.sack, .slice A o2.bl.length c, .bool o2.time, .int .u32 (o2.val : Int), .int .u32 (o2.echo : Int)] := by
    rw [← hWf]
    have := ((((((Hr2.out.set_ 0 (.int .u16 (o2.mss : Int))).set_ 1 (.int .i64 o2.scale)).set_ 2 (.bool o2.sack)).set_ 3 (.slice A o2.bl.length c)).set_ 4 (.bool o2.time)).set_ 5 (.int .u32 (o2.val : Int))).set_ 6 (.int .u32 (o2.echo : Int))
    simpa using this
  have houtF : Out (fun i => rowOf A o.bl.length c = some i) w Wf := by
    rw [← hWf]
    repeat (refine out_new ?_ hle_r _ _)
    exact Hout2.out
  have hvF : Wf.ownsRow base 56 2 (.slice A o2.bl.length c) o2.bl.length (o2.bl.flatMap blkC) := by
    refine Hv2.out.kept (row := some gr) ?_ (.inr (own_blk_ne Hv2.out Hr2.out (by decide)))
    rw [← hWf]
    repeat (refine only_set ?_ _ _)
    exact World.grownBy.refl _ _
  clear hWf z0 z1 z2 z3 z4 z5 z6 e0 e1 e2 e3 e4 e5 e6 fq
  have y0 := hrF.cell 0
  have y1 := hrF.cell 1
  have y2 := hrF.cell 2
  have y3 := hrF.cell 3
  have y4 := hrF.cell 4
  have y5 := hrF.cell 5
  have y6 := hrF.cell 6
  simp at y0 y1 y2 y3 y4 y5 y6
  exact bodyPost_ret (v := .tuple #[.agg (optC o2 A c), .bool true]) (by simp [results, Try.results28, go_sem, optC, y0, y1, y2, y3, y4, y5, y6]) rfl ⟨o2, A, c, true, rfl, hvF, houtF, Hrow2.out, Htk.out⟩
set_option maxRecDepth 100000 in
set_option maxHeartbeats 2000000 in
theorem take_8 (base : Nat) (w : World) (o : Op) (A : Option Addr) (c : Nat) (k : Nat) (S : ByteArray) (B : List UInt8) (hSB : S.data.toList = B) (hl : longB k (B.length + 2) = true) (hBl : B.length ≤ 253)
    (hv : w.ownsRow base 56 2 (.slice A o.bl.length c) o.bl.length (o.bl.flatMap blkC)) (hb : base ≤ w.heap.size) (hn : o.bl.length ≤ 2000) (h8 : k = 8) :
    Calls Try.prog 28 #[.agg (optC o A c), .int .i64 (k : Int), .string S] w (TakePost base w o A c k B) := by
  have hsz : S.size = B.length := by rw [← hSB]; simp
  have u2 : ((k : Int) == 2) = false := by simp; omega
  have u3 : ((k : Int) == 3) = false := by simp; omega
  have u4 : ((k : Int) == 4) = false := by simp; omega
  have u5 : ((k : Int) == 5) = false := by simp; omega
  have u8 : ((k : Int) == 8) = true := by simp; omega
  have hB8 : B.length = 8 := by rw [h8] at hl; exact long8 hl
  have e1 : (S.extract 0 4).data.toList = B.take 4 := by
    rw [ByteArray.data_extract, Array.toList_extract, List.extract_eq_take_drop, hSB]
    simp
  have e2 : (S.extract 4 8).data.toList = B.drop 4 := by
    rw [ByteArray.data_extract, Array.toList_extract, List.extract_eq_take_drop, hSB]
    exact List.take_of_length_le (by rw [List.length_drop]; omega)
  obtain ⟨q1, hq1⟩ : ∃ q, q = numL (B.take 4) := ⟨_, rfl⟩
  obtain ⟨q2, hq2⟩ : ∃ q, q = numL (B.drop 4) := ⟨_, rfl⟩
  have hsz8 : S.size = 8 := by rw [hsz, hB8]
  have hn1 : ∀ W, Calls Try.prog 40 #[.string (S.extract 0 4)] W fun e w' => e = .returned (.int .u32 (q1 : Int)) ∧ W = w' := fun W => by
    have := ref_num (S.extract 0 4) W (by simp [maxLen]; omega)
    rw [e1, ← hq1] at this
    exact this
  have hn2 : ∀ W, Calls Try.prog 40 #[.string (S.extract 4 8)] W fun e w' => e = .returned (.int .u32 (q2 : Int)) ∧ W = w' := fun W => by
    have := ref_num (S.extract 4 8) W (by simp [maxLen]; omega)
    rw [e2, ← hq2] at this
    exact this
  obtain ⟨o2, ho2⟩ : ∃ z, z = ({ o with time := true, val := q1, echo := q2 } : Op) := ⟨_, rfl⟩
  have htk : takeI o k B = if true then some o2 else none := by
    unfold takeI
    rw [if_neg (by omega), if_neg (by omega), if_neg (by omega), if_pos h8, ← hq1, ← hq2, ← ho2]
    rfl
  have HB8 := Lib.hid hB8
  clear hB8
  have Hq1 := Lib.hid hq1
  clear hq1
  have Hq2 := Lib.hid hq2
  clear hq2
  have H8 := Lib.hid h8
  clear h8
  have Ho2 := Lib.hid ho2
  clear ho2
  have Htk := Lib.hid htk
  clear htk
  have E1 := Lib.hid e1
  clear e1
  have E2 := Lib.hid e2
  clear e2
  have Hn1 := Lib.hid hn1
  clear hn1
  have Hn2 := Lib.hid hn2
  clear hn2
  have hb0 : Below w.heap.size w w := Below.refl _ _
  have HB := Lib.hid hb0
  clear hb0
  have hv1 := (hv.alloc (.cells #[.int .u16 (o.mss : Int), .int .i64 o.scale, .bool o.sack, .slice A o.bl.length c, .bool o.time, .int .u32 (o.val : Int), .int .u32 (o.echo : Int)] 26)).alloc (.cells #[.int .u16 0, .int .i64 0, .bool false, .slice none 0 0, .bool false, .int .u32 0, .int .u32 0] 26)
  have HSB := Lib.hid hSB
  clear hSB
  have Hl := Lib.hid hl
  clear hl
  have Hv := Lib.hid hv
  clear hv
  have Hb := Lib.hid hb
  clear hb
  have Hn := Lib.hid hn
  clear hn
  have HBl := Lib.hid hBl
  clear hBl
  have Hsz := Lib.hid hsz
  clear hsz
  unfold optC
  go_enter Try.func28, Try.ntmps28
  go_upto_region 1 with fail
  have hx := Blk.alloc (Blk.new w 26 #[.int .u16 (o.mss : Int), .int .i64 o.scale, .bool o.sack, .slice A o.bl.length c, .bool o.time, .int .u32 (o.val : Int), .int .u32 (o.echo : Int)]) (.cells #[.int .u16 0, .int .i64 0, .bool false, .slice none 0 0, .bool false, .int .u32 0, .int .u32 0] 26)
  have hr := Blk.new (w.alloc (.cells #[.int .u16 (o.mss : Int), .int .i64 o.scale, .bool o.sack, .slice A o.bl.length c, .bool o.time, .int .u32 (o.val : Int), .int .u32 (o.echo : Int)] 26)) 26 #[.int .u16 0, .int .i64 0, .bool false, .slice none 0 0, .bool false, .int .u32 0, .int .u32 0]
  rw [show (w.alloc (.cells #[.int .u16 (o.mss : Int), .int .i64 o.scale, .bool o.sack, .slice A o.bl.length c, .bool o.time, .int .u32 (o.val : Int), .int .u32 (o.echo : Int)] 26)).heap.size = w.heap.size + 1 by simp] at hr
  have hB := Below.alloc (Below.alloc (HB.out) (Nat.le_trans HB.out.size (by simp <;> omega)) (.cells #[.int .u16 (o.mss : Int), .int .i64 o.scale, .bool o.sack, .slice A o.bl.length c, .bool o.time, .int .u32 (o.val : Int), .int .u32 (o.echo : Int)] 26)) (Nat.le_trans HB.out.size (by simp <;> omega)) (.cells #[.int .u16 0, .int .i64 0, .bool false, .slice none 0 0, .bool false, .int .u32 0, .int .u32 0] 26)
  clear HB
  obtain ⟨gr, hger⟩ : ∃ g, g = w.heap.size + 1 := ⟨_, rfl⟩
  rw [← hger] at hr ⊢
  obtain ⟨gx, hgex⟩ : ∃ g, g = w.heap.size := ⟨_, rfl⟩
  rw [← hgex] at hx ⊢
  have hne_x_r : gx ≠ gr := by omega
  have hle_x : w.heap.size ≤ gx := by omega
  have hle_r : w.heap.size ≤ gr := by omega
  clear hgex hger
  generalize (w.alloc _).alloc _ = wn5 at *
  have Hx := Lib.hid hx
  clear hx
  have Hr := Lib.hid hr
  clear hr
  have HB := Lib.hid hB
  clear hB
  obtain ⟨W1, hW1⟩ : ∃ W, W = wn5 := ⟨_, rfl⟩
  rw [← hW1] at Hx Hr HB hv1 ⊢
  clear hW1
  have hx1 : Blk W1 gx 26 (optC o A c) := Hx.out
  have hx1' := Hx.out
  have c0 := hx1'.cell 0
  have c1 := hx1'.cell 1
  have c2 := hx1'.cell 2
  have c3 := hx1'.cell 3
  have c4 := hx1'.cell 4
  have c5 := hx1'.cell 5
  have c6 := hx1'.cell 6
  simp at c0 c1 c2 c3 c4 c5 c6
  have fr := hx1'.frozen
  have Hx1 := Lib.hid hx1
  have Hv1 := Lib.hid hv1
  have hout1 : Out (fun i => rowOf A o.bl.length c = some i) w W1 := Out.of_below HB.out
  have Hout1 := Lib.hid hout1
  clear hx1 hx1' hv1 hout1
  clear Hsz
  go_wp2_with fail
  with_reducible refine (Hn1.out _).mono ?_
  rintro e w' ⟨rfl, rfl⟩
  go_wp2_with fail
  with_reducible refine (Hn2.out _).mono ?_
  rintro e w' ⟨rfl, rfl⟩
  go_upto_region 18 with fail
  generalize hWf : World.setCell _ _ _ = W2
  have hx2 : Blk W2 gx 26 (optC o2 A c) := by
    rw [← hWf]
    have := ((Hx1.out.set_ 4 (.bool true)).set_ 5 (.int .u32 (q1 : Int))).set_ 6 (.int .u32 (q2 : Int))
    rw [Ho2.out]
    simpa [optC] using this
  have hg2 : W1.grownBy W2 (some gx) := by
    rw [← hWf]
    repeat (refine only_set ?_ _ _)
    exact World.grownBy.refl _ _
  have hr2 := Hr.out.grown hg2 (fun e => hne_x_r (Option.some.inj e).symm)
  have hout2 : Out (fun i => rowOf A o.bl.length c = some i) w W2 := by
    rw [← hWf]
    repeat (refine out_new ?_ hle_x _ _)
    exact Hout1.out
  have Hrow2 := Lib.hid (show rowOf A o2.bl.length c = rowOf A o.bl.length c ∨ ∃ g, w.heap.size ≤ g ∧ rowOf A o2.bl.length c = some g from .inl (by rw [Ho2.out]))
  have hv2 : W2.ownsRow base 56 2 (.slice A o2.bl.length c) o2.bl.length (o2.bl.flatMap blkC) := by
    have := Hv1.out.kept hg2 (.inr (own_blk_ne Hv1.out Hx1.out (by decide)))
    rw [Ho2.out]
    exact this
  clear hWf hg2 c0 c1 c2 c3 c4 c5 c6 fr hsz8
  have Hx2 := Lib.hid hx2
  clear hx2
  have Hr2 := Lib.hid hr2
  clear hr2
  have Hout2 := Lib.hid hout2
  clear hout2
  have Hv2 := Lib.hid hv2
  clear hv2
  have hx2' := Hx2.out
  unfold optC at hx2'
  have z0 := hx2'.cell 0
  have z1 := hx2'.cell 1
  have z2 := hx2'.cell 2
  have z3 := hx2'.cell 3
  have z4 := hx2'.cell 4
  have z5 := hx2'.cell 5
  have z6 := hx2'.cell 6
  simp at z0 z1 z2 z3 z4 z5 z6
  have fq := Hr2.out.frozen
  have e0 := Hr2.out.cell 0
  have e1 := Hr2.out.cell 1
  have e2 := Hr2.out.cell 2
  have e3 := Hr2.out.cell 3
  have e4 := Hr2.out.cell 4
  have e5 := Hr2.out.cell 5
  have e6 := Hr2.out.cell 6
  simp at e0 e1 e2 e3 e4 e5 e6
  clear hx2'
  go_wp2_with fail
  generalize hWf : World.setCell _ _ _ = Wf
  have hrF : Blk Wf gr 26 #[.int .u16 (o2.mss : Int), .int .i64 o2.scale, .bool o2.sack, .slice A o2.bl.length c, .bool o2.time, .int .u32 (o2.val : Int), .int .u32 (o2.echo : Int)] := by
    rw [← hWf]
    have := ((((((Hr2.out.set_ 0 (.int .u16 (o2.mss : Int))).set_ 1 (.int .i64 o2.scale)).set_ 2 (.bool o2.sack)).set_ 3 (.slice A o2.bl.length c)).set_ 4 (.bool o2.time)).set_ 5 (.int .u32 (o2.val : Int))).set_ 6 (.int .u32 (o2.echo : Int))
    simpa using this
  have houtF : Out (fun i => rowOf A o.bl.length c = some i) w Wf := by
    rw [← hWf]
    repeat (refine out_new ?_ hle_r _ _)
    exact Hout2.out
  have hvF : Wf.ownsRow base 56 2 (.slice A o2.bl.length c) o2.bl.length (o2.bl.flatMap blkC) := by
    refine Hv2.out.kept (row := some gr) ?_ (.inr (own_blk_ne Hv2.out Hr2.out (by decide)))
    rw [← hWf]
    repeat (refine only_set ?_ _ _)
    exact World.grownBy.refl _ _
  clear hWf z0 z1 z2 z3 z4 z5 z6 e0 e1 e2 e3 e4 e5 e6 fq
  have y0 := hrF.cell 0
  have y1 := hrF.cell 1
  have y2 := hrF.cell 2
  have y3 := hrF.cell 3
  have y4 := hrF.cell 4
  have y5 := hrF.cell 5
  have y6 := hrF.cell 6
  simp at y0 y1 y2 y3 y4 y5 y6
  exact bodyPost_ret (v := .tuple #[.agg (optC o2 A c), .bool true]) (by simp [results, Try.results28, go_sem, optC, y0, y1, y2, y3, y4, y5, y6]) rfl ⟨o2, A, c, true, rfl, hvF, houtF, Hrow2.out, Htk.out⟩
end Go.Proofs.Ytimepplfaaddeaa
