/- Layer 7 (opt): the reference's Decode, of any bytes. -/
import Derived.Test.YtimepplfaaddeaaOptTakeB
import Derived.Test.YtimepplfaaddeaaOptBits
import Derived.Test.YtimepplfaaddeaaFlowT
set_option linter.unusedVariables false
set_option linter.unusedSimpArgs false
namespace Go.Proofs.Ytimepplfaaddeaa
open Go.RowKit Go.BigFrame

def foldT (L : List UInt8) (l : List (Nat × Nat)) (o : Op) : Option Op := l.foldlM (takeP L) o
theorem foldT_snoc (L : List UInt8) (l : List (Nat × Nat)) (p : Nat × Nat) (o : Op) : foldT L (l ++ [p]) o = (foldT L l o).bind fun q => takeP L q p := by
  unfold foldT
  rw [List.foldlM_append]
  cases List.foldlM (takeP L) o l with
  | none => rfl
  | some q => simp
theorem foldT_app (L : List UInt8) (l m : List (Nat × Nat)) (o : Op) : foldT L (l ++ m) o = (foldT L l o).bind fun q => foldT L m q := by
  unfold foldT
  rw [List.foldlM_append]
  rfl
theorem foldT_bl (L : List UInt8) : ∀ (l : List (Nat × Nat)) (o o2 : Op), foldT L l o = some o2 → o2.bl.length ≤ o.bl.length + L.length * l.length := by
  intro l
  induction l with
  | nil =>
    intro o o2 h
    have : some o = some o2 := h
    cases this
    simp
  | cons p l ih =>
    intro o o2 h
    have h1 : (takeP L o p).bind (fun q => foldT L l q) = some o2 := by
      unfold foldT at h
      rw [List.foldlM_cons] at h
      exact h
    cases ht : takeP L o p with
    | none => rw [ht] at h1; cases h1
    | some q =>
      rw [ht] at h1
      have h2 := ih q o2 h1
      have h3 := takeP_bl ht
      simp only [List.length_cons] at *
      rw [Nat.mul_succ]
      omega
theorem own_low {w w' : World} {base size n : Nat} {e : TypeId} {v : Value} {xs : List Value} (h : w.ownsRow base e size v n xs) (hb : Below w.heap.size w w') : w'.ownsRow base e size v n xs :=
  h.kept (only_of_below hb none) (by cases v.ownBlock <;> simp)
def TkR := Op × Option Addr × Nat × Bool
def tkA (r : TkR) : Array Value := optC r.1 r.2.1 r.2.2.1
def tkO (r : TkR) : Value := .bool r.2.2.2
def tkQ (base : Nat) (o : Op) (k : Nat) (B : List UInt8) (r : TkR) (W : World) : Prop := W.ownsRow base 56 2 (.slice r.2.1 r.1.bl.length r.2.2.1) r.1.bl.length (r.1.bl.flatMap blkC) ∧ takeI o k B = if r.2.2.2 then some r.1 else none
theorem allocOpts : ∀ W : World, (Instr.alloc 26 true (.tuple #[])).run Try.prog W = .ok (.pointer (some ⟨W.heap.size, 0, none⟩)) (W.alloc (.cells #[.int .u16 0, .int .i64 0, .bool false, .slice none 0 0, .bool false, .int .u32 0, .int .u32 0] 26)) := fun _ => by kernel_rfl
theorem sizeOpts : ∀ W : World, (sizeOf 26).run Try.prog W = .ok 7 W := fun _ => by kernel_rfl
theorem optsU : (Try.prog.underlying 26).map TypeDesc.isRow = some true := by kernel_rfl
theorem optsI : (Try.prog.info? 26).map (·.size) = some 7 := by kernel_rfl
theorem put7 {cs : Array Value} {a b c d e f g : Value} (h : cs.size = 7) : putFrom cs 0 [a, b, c, d, e, f, g] = #[a, b, c, d, e, f, g] := by
  obtain ⟨l⟩ := cs
  match l, h with
  | [x0, x1, x2, x3, x4, x5, x6], _ => simp [putFrom]
set_option maxRecDepth 100000 in
set_option maxHeartbeats 8000000 in
theorem rdec_in (x : ByteArray) (L : List UInt8) (hx : x.data.toList = L) (hm : L.length ≤ 40) (w : World) :
    Calls Try.prog 12 #[.string x] w (DecPost w L) := by
  have hsz : x.size = L.length := by rw [← hx]; simp
  obtain ⟨N, hN⟩ : ∃ N, N = L.length := ⟨_, rfl⟩
  rw [← hN] at hsz
  have j0 : (N : Int) ≤ 40 := by omega
  have j1 : ¬ (40 : Int) < (N : Int) := by omega
  have hpla := places_any x L hx (by omega)
  have hsame := dec_same L
  unfold rdecR at hsame
  rw [if_neg (by omega)] at hsame
  have hb0 : Below w.heap.size w w := Below.refl _ _
  have HB := Lib.hid hb0
  clear hb0
  have Hx := Lib.hid hx
  clear hx
  have HN := Lib.hid hN
  clear hN
  have Hpla := Lib.hid hpla
  clear hpla
  have Hsame := Lib.hid hsame
  clear hsame
  have Hm := Lib.hid hm
  clear hm
  go_enter Try.func12, Try.ntmps12
  go_upto_region 1 with fail
  have hr := Blk.new w 26 #[.int .u16 0, .int .i64 0, .bool false, .slice none 0 0, .bool false, .int .u32 0, .int .u32 0]
  have hB := HB.out.alloc HB.out.size (.cells #[.int .u16 0, .int .i64 0, .bool false, .slice none 0 0, .bool false, .int .u32 0, .int .u32 0] 26)
  clear HB
  obtain ⟨gr, hge⟩ : ∃ g, g = w.heap.size := ⟨_, rfl⟩
  rw [← hge] at hr ⊢
  have hle_r : w.heap.size ≤ gr := by omega
  clear hge
  generalize w.alloc _ = wn1 at *
  have Hr := Lib.hid hr
  clear hr
  have HB := Lib.hid hB
  clear hB
  obtain ⟨W1, hW1⟩ : ∃ W, W = wn1 := ⟨_, rfl⟩
  rw [← hW1] at Hr HB ⊢
  clear hW1
  go_wp2_with fail
  with_reducible refine (Hpla.out _).mono ?_
  rintro e w2 hpost
  unfold PlacesPost at hpost
  cases hg : goodR L (placesAt L 0) [] with
  | false =>
    rw [hg, if_neg (by decide)] at hpost
    obtain ⟨rfl, hbq⟩ := hpost
    have hd := Hsame.out
    rw [hg, if_neg (by decide)] at hd
    have hr := Hr.out.below hbq Hr.out.lt
    clear Hr
    have Hr := Lib.hid hr
    clear hr
    have hB := HB.out.trans (hbq.mono HB.out.size)
    clear HB
    have HB := Lib.hid hB
    clear hB
    clear hbq Hsame hg Hpla
    have Hd := Lib.hid hd
    clear hd
    have y0 := Hr.out.cell 0
    have y1 := Hr.out.cell 1
    have y2 := Hr.out.cell 2
    have y3 := Hr.out.cell 3
    have y4 := Hr.out.cell 4
    have y5 := Hr.out.cell 5
    have y6 := Hr.out.cell 6
    simp at y0 y1 y2 y3 y4 y5 y6
    have fr := Hr.out.frozen
    go_wp2_with fail
    generalize hWf : World.setCell _ _ _ = Wf
    have hrF : Blk Wf gr 26 #[.int .u16 0, .int .i64 0, .bool false, .slice none 0 0, .bool false, .int .u32 0, .int .u32 0] := by
      rw [← hWf]
      have := ((((((Hr.out.set_ 0 (.int .u16 0)).set_ 1 (.int .i64 0)).set_ 2 (.bool false)).set_ 3 (.slice none 0 0)).set_ 4 (.bool false)).set_ 5 (.int .u32 0)).set_ 6 (.int .u32 0)
      simpa using this
    have hBF : Below w.heap.size w Wf := by
      rw [← hWf]
      repeat (refine Below.setCell ?_ hle_r _)
      exact HB.out
    clear hWf y0 y1 y2 y3 y4 y5 y6 fr
    have y0 := hrF.cell 0
    have y1 := hrF.cell 1
    have y2 := hrF.cell 2
    have y3 := hrF.cell 3
    have y4 := hrF.cell 4
    have y5 := hrF.cell 5
    have y6 := hrF.cell 6
    simp at y0 y1 y2 y3 y4 y5 y6
    exact bodyPost_ret (v := .tuple #[.agg #[.int .u16 0, .int .i64 0, .bool false, .slice none 0 0, .bool false, .int .u32 0, .int .u32 0], .int .i64 70]) (by simp [results, Try.results12, go_sem, y0, y1, y2, y3, y4, y5, y6]) rfl ⟨zeroO, none, 0, 70, rfl, .inl rfl, hBF, Hd.out.symm⟩
  | true =>
    rw [hg, if_pos rfl] at hpost
    obtain ⟨Al, cl, rfl, hbq, hl⟩ := hpost
    have hd := Hsame.out
    rw [hg, if_pos rfl] at hd
    obtain ⟨pl, hpl⟩ : ∃ pl, pl = placesAt L 0 := ⟨_, rfl⟩
    have hplok : ∀ p ∈ pl, OkP L p ∧ p.2 ≠ 0 := by
      intro p hp
      rw [hpl] at hp
      refine ⟨places_ok L _ 0 p hp, fun h0 => ?_⟩
      obtain ⟨l1, l2, he⟩ := List.append_of_mem hp
      rw [he] at hg
      have : ∀ (l1 : List (Nat × Nat)) (met : List Nat), goodR L (l1 ++ p :: l2) met = false := by
        intro l1
        induction l1 with
        | nil => intro met; simp [goodR, h0]
        | cons q l ih => intro met; simp [goodR, ih]
      rw [this] at hg
      cases hg
    have hpll : pl.length ≤ 41 := by
      have := places_len L (L.length - 0 + 1) 0
      rw [hpl]
      unfold placesAt
      have := Hm.out
      omega
    rw [← hpl] at hd hl ⊢
    obtain ⟨n, hn⟩ : ∃ n, n = pl.length := ⟨_, rfl⟩
    rw [← hn] at hl ⊢
    have hr := Hr.out.below hbq Hr.out.lt
    clear Hr
    have Hr := Lib.hid hr
    clear hr
    have hB := HB.out.trans (hbq.mono HB.out.size)
    clear HB
    have HB := Lib.hid hB
    clear hB
    clear hbq Hsame hg Hpla
    have Hd := Lib.hid hd
    clear hd
    have Hl := Lib.hid hl
    clear hl
    have Hplok := Lib.hid hplok
    clear hplok
    have Hpll := Lib.hid hpll
    clear hpll
    have Hn := Lib.hid hn
    clear hn
    have Hpl := Lib.hid hpl
    clear hpl
    go_wp2_with fail
    with_reducible refine (rnone_any _).mono ?_
    rintro e w3 ⟨rfl, hbq⟩
    have hl3 := own_low Hl.out hbq
    clear Hl
    have hr := Hr.out.below hbq Hr.out.lt
    clear Hr
    have Hr := Lib.hid hr
    clear hr
    have hB := HB.out.trans (hbq.mono HB.out.size)
    clear HB
    have HB := Lib.hid hB
    clear hB
    clear hbq
    go_upto_region 7 with fail
    have hl4 := hl3.alloc (.cells #[.int .u16 0, .int .i64 (-1), .bool false, .slice none 0 0, .bool false, .int .u32 0, .int .u32 0] 26)
    clear hl3
    have hw3 := HB.out.size
    have ho := Blk.new w3 26 #[.int .u16 0, .int .i64 (-1), .bool false, .slice none 0 0, .bool false, .int .u32 0, .int .u32 0]
    have hr := Blk.alloc Hr.out (.cells #[.int .u16 0, .int .i64 (-1), .bool false, .slice none 0 0, .bool false, .int .u32 0, .int .u32 0] 26)
    clear Hr
    have hB := HB.out.alloc HB.out.size (.cells #[.int .u16 0, .int .i64 (-1), .bool false, .slice none 0 0, .bool false, .int .u32 0, .int .u32 0] 26)
    clear HB
    obtain ⟨go, hge⟩ : ∃ g, g = w3.heap.size := ⟨_, rfl⟩
    rw [← hge] at ho ⊢
    have hle_o : w3.heap.size ≤ go := by omega
    clear hge
    generalize w3.alloc _ = wn2 at *
    have Hr := Lib.hid hr
    clear hr
    have Ho := Lib.hid ho
    clear ho
    have HB := Lib.hid hB
    clear hB
    obtain ⟨W4, hW4⟩ : ∃ W, W = wn2 := ⟨_, rfl⟩
    rw [← hW4] at Hr HB Ho hl4 ⊢
    clear hW4
    obtain ⟨Bl, hBl⟩ : ∃ B, B = W1.heap.size := ⟨_, rfl⟩
    rw [← hBl] at hl4
    clear hBl
    have ho4 : Blk W4 go 26 (optC noneO none 0) := Ho.out
    have hro : go ≠ gr := fun e => by
      have h1 := Ho.out
      have h2 := Hr.out
      rw [e] at h1
      unfold Blk at h1 h2
      rw [h1] at h2
      injection h2 with h2
      injection h2 with h2 _
      have := congrArg (fun a : Array Value => a[1]?) h2
      simp at this
    have hown0 : W4.ownsRow w.heap.size 56 2 (.slice none 0 0) 0 [] := World.ownsRow_nil _ _ _ _
    have hwo : w.heap.size ≤ go := Nat.le_trans hw3 hle_o
    have hn41 : (n : Int) ≤ 41 := by have := Hpll.out; have := Hn.out; omega
    clear hw3
    have Hl4 := Lib.hid hl4
    clear hl4
    have Ho4 := Lib.hid ho4
    clear ho4
    have Hown0 := Lib.hid hown0
    clear hown0
    have Hro := Lib.hid hro
    clear hro
    go_wp2_with fail
    go_loopw [7] (fun i wr => ∃ (j : Nat) (o : Op) (A : Option Addr) (c : Nat), i = .int .i64 (j : Int) ∧ j ≤ n ∧ foldT L (pl.take j) noneO = some o ∧ Blk wr go 26 (optC o A c) ∧ wr.ownsRow w.heap.size 56 2 (.slice A o.bl.length c) o.bl.length (o.bl.flatMap blkC) ∧
        wr.ownsRow Bl 3 1 (.slice Al n cl) n (pl.map fun p => .int .i64 (p.1 : Int)) ∧ Blk wr gr 26 #[.int .u16 0, .int .i64 0, .bool false, .slice none 0 0, .bool false, .int .u32 0, .int .u32 0] ∧ Below w.heap.size w wr)
      (fun i _ => n - (intOf i).toNat)
    case atStart => exact ⟨0, noneO, none, 0, rfl, Nat.zero_le _, rfl, Ho4.out, Hown0.out, Hl4.out, Hr.out, HB.out⟩
    case round =>
      obtain ⟨j, o, A, c, rfl, hj, hf, ho, hv, hl, hr, hb⟩ := hrel
      by_cases hjn : j < n
      · have i1 : (j : Int) < (n : Int) := by omega
        obtain ⟨p, hp⟩ : ∃ p, pl[j]? = some p := ⟨_, List.getElem?_eq_getElem (by have := Hn.out; omega)⟩
        have hpm : p ∈ pl := List.mem_of_getElem? hp
        obtain ⟨⟨q1, q2, q3, q4⟩, q5⟩ := Hplok.out p hpm
        obtain ⟨at_, c2⟩ := p
        dsimp only at q1 q2 q3 q4 q5
        obtain ⟨r1, r2, r3, r4, r5⟩ := stepN_pos (L := L) (i := at_) (by rw [← q4]; exact q5)
        rw [← q4] at r3 r4 r5
        obtain ⟨k, hk⟩ : ∃ k, k = byteN L at_ := ⟨_, rfl⟩
        rw [← hk, ← r4] at r2
        have hix := fun W => index_at x at_ (by rw [Hx.out]; exact q1) W
        have hix2 := fun W => index_at x (at_ + 1) (by rw [Hx.out]; exact r1) W
        rw [Hx.out, ← hk] at hix
        rw [Hx.out, ← r4, show ((at_ + 1 : Nat) : Int) = (at_ : Int) + 1 by omega] at hix2
        have k256 : k < 256 := by rw [hk]; exact byteN_lt _ _
        have c256 : c2 < 256 := by rw [r4]; exact byteN_lt _ _
        obtain ⟨S, hS⟩ : ∃ S, S = x.extract (at_ + 2) (at_ + c2) := ⟨_, rfl⟩
        have hSd : S.data.toList = bodyL L (at_, c2) := by
          rw [hS, ByteArray.data_extract]
          unfold bodyL
          simp only [Array.toList_extract, List.extract_eq_take_drop, Hx.out]
          rw [show at_ + c2 - (at_ + 2) = c2 - 2 by omega]
        have hBlen : (bodyL L (at_, c2)).length = c2 - 2 := by
          unfold bodyL
          rw [List.length_take, List.length_drop]
          omega
        have i2 : (at_ : Int) + 1 ≤ (N : Int) := by have := HN.out; omega
        have i3 : (at_ : Int) + 2 ≤ (at_ : Int) + (c2 : Int) := by omega
        have i4 : (at_ : Int) + (c2 : Int) ≤ (N : Int) := by have := HN.out; omega
        have i5 : (0 : Int) ≤ (at_ : Int) + 2 := by omega
        have hn2000 : o.bl.length ≤ 2000 := by
          have h1 := foldT_bl L _ _ _ hf
          have h2 : L.length * (pl.take j).length ≤ 40 * 41 := Nat.mul_le_mul Hm.out (Nat.le_trans (List.length_take_le _ _) (by have := Hpll.out; have := Hn.out; omega))
          simp only [noneO, List.length_nil] at h1
          omega
        obtain ⟨row, hrw⟩ : ∃ row, (Value.slice A o.bl.length c).ownBlock = row := ⟨_, rfl⟩
        obtain ⟨gl, capl, hAl, _, hlt⟩ := hl.form (by omega)
        have hAl' : Al = some ⟨gl, 0, none⟩ := by injection hAl
        subst hAl'
        have t1 := own_blk_ne hv ho (by decide)
        rw [hrw] at t1
        have t2 := own_blk_ne hv hr (by decide)
        rw [hrw] at t2
        have t3 : row ≠ some gl := by
          intro e
          rw [← hrw] at e
          obtain ⟨_, cs, hcs⟩ := own_cells hv e
          obtain ⟨_, cs2, hcs2⟩ := own_cells hl (show (Value.slice (some ⟨gl, 0, none⟩) n cl).ownBlock = some gl by simp [Value.ownBlock])
          rw [hcs] at hcs2
          injection hcs2 with e2
          injection e2 with _ e2
          exact absurd e2 (by decide)
        have cl0 : wr.cell? ⟨gl, j, none⟩ = some (.int .i64 (at_ : Int)) := by
          have := hl.cells (g := gl) rfl j (.int .i64 (at_ : Int)) (by rw [List.getElem?_map, hp]; rfl)
          have had : (⟨gl, 0, none⟩ : Addr).add j = ⟨gl, j, none⟩ := by unfold Addr.add; split <;> simp_all
          rwa [had] at this
        have hS0 : Out (fun i => row = some i) wr wr.drew := Out.of_below (Below.drew (Below.refl _ _))
        have ne : Nonempty (Cls (fun W => Out (fun i => row = some i) wr W)) := ⟨⟨_, hS0⟩⟩
        have qb : ∀ y : Cls (fun W => Out (fun i => row = some i) wr W), Blk y.w go 26 (optC o A c) := fun y => (y.h.block go ho.lt t1).trans ho
        have qc : ∀ y : Cls (fun W => Out (fun i => row = some i) wr W), y.w.cell? ⟨gl, j, none⟩ = some (.int .i64 (at_ : Int)) := fun y => (World.cell?_of_block (y.h.block gl hlt t3)).trans cl0
        have hSb : ∀ w w', Out (fun i => row = some i) wr w → Below w.heap.size w w' → Out (fun i => row = some i) wr w' := fun w w' h hb => Out.trans h (Out.of_below (O := fun _ => False) hb) (fun _ _ e => e.elim)
        have hSn : ∀ (w w' : World) (b : Nat), Out (fun i => row = some i) wr w → wr.heap.size ≤ b → b < w.heap.size → w.grownBy w' (some b) → Out (fun i => row = some i) wr w' := fun w w' b h h1 h2 hg => ⟨hg.os.trans h.os, hg.tape.trans h.tape, hg.output.trans h.output, Nat.le_trans h.size hg.size, fun i hi hn => (hg.block i (Nat.lt_of_lt_of_le hi h.size) (fun e => by injection e with e; omega)).trans (h.block i hi hn)⟩
        have hrl : ∀ q, row = some q → q < wr.heap.size := fun q hq => (hv.lt q (hrw.trans hq)).2
        have cf : ∀ (vals : Array Value) (w : World), (callFunc 28 vals).run Try.prog w = .ok (.enter 28 vals) w := fun _ _ => by kernel_rfl
        have hU0 : ∀ q ∈ ([(28, fun W => W.ownsRow w.heap.size 56 2 (.slice A o.bl.length c) o.bl.length (o.bl.flatMap blkC))] : List (Nat × (World → Prop))), q.2 wr.drew := by
          intro q hq
          obtain rfl := List.mem_singleton.1 hq
          exact own_low hv (Below.drew (Below.refl _ _))
        have hUs : ∀ q ∈ ([(28, fun W => W.ownsRow w.heap.size 56 2 (.slice A o.bl.length c) o.bl.length (o.bl.flatMap blkC))] : List (Nat × (World → Prop))), ∀ i w w', i ≠ q.1 → RVar 28 33 row wr.heap.size 26 7 i w w' → q.2 w → q.2 w' := by
          intro q hq i w w' hi hr hw
          obtain rfl := List.mem_singleton.1 hq
          exact own_var hi (by decide) hr hw
        have hQ : ∀ (r : TkR) (i : Nat) (w1 w2 : World), i ≠ 28 → RVar 28 33 row wr.heap.size 26 7 i w1 w2 → tkQ w.heap.size o k (bodyL L (at_, c2)) r w1 → tkQ w.heap.size o k (bodyL L (at_, c2)) r w2 := fun r i w1 w2 hi hr h => ⟨own_var hi (by decide) hr h.1, h.2⟩
        have hcall : ∀ W, Out (fun i => row = some i) wr W → untilU [(28, fun W => W.ownsRow w.heap.size 56 2 (.slice A o.bl.length c) o.bl.length (o.bl.flatMap blkC))] 28 W → Calls Try.prog 28 #[.agg (optC o A c), .int .i64 (k : Int), .string S] W fun e w'' => ∃ r, e = .returned (tupR tkA tkO r) ∧ tkQ w.heap.size o k (bodyL L (at_, c2)) r w'' ∧ Out (fun i => row = some i) wr w'' ∧ RVar 28 33 row wr.heap.size 26 7 28 W w'' := by
          intro W hW hut
          have hrowW := hut _ List.mem_cons_self rfl
          refine (take_any w.heap.size W o A c k S _ hSd (by rw [hBlen, show c2 - 2 + 2 = c2 by omega]; exact r2) (by rw [hBlen]; omega) hrowW (Nat.le_trans hb.size hW.size) hn2000).mono ?_
          rintro e w'' ⟨o2, A2, c3, okk, rfl, h1, h2, _, h4⟩
          have h2' : Out (fun i => row = some i) W w'' := h2.mono (fun i _ e => by rw [← hrw]; exact e)
          refine ⟨(o2, A2, c3, okk), rfl, ⟨h1, h4⟩, Out.trans hW h2' (fun _ _ e => e), .inr (.inl ⟨rfl, h2'.os, h2'.tape, h2'.output, h2'.size, fun i hi hne => h2'.block i hi (fun e => hne e.symm)⟩)⟩
        have hput : ∀ (r : TkR) (cs : Array Value), cs.size = 7 → putFrom cs 0 (tkA r).toList = tkA r := fun r cs h => put7 h
        have h1c : ∀ (r : TkR), ∀ v ∈ (tkA r).toList, v.oneCell' = true := by
          intro r v hv
          simp only [tkA, optC, List.mem_cons, List.not_mem_nil, or_false] at hv
          rcases hv with rfl | rfl | rfl | rfl | rfl | rfl | rfl <;> rfl
        have Hf := Lib.hid hf
        clear hf
        have Ho := Lib.hid ho
        clear ho
        have Hv := Lib.hid hv
        clear hv
        have Hl := Lib.hid hl
        clear hl
        have Hr := Lib.hid hr
        clear hr
        have Hb := Lib.hid hb
        clear hb
        have Hp := Lib.hid hp
        clear hp
        have Hpm := Lib.hid hpm
        clear hpm
        have Q1 := Lib.hid q1
        clear q1
        have Q2 := Lib.hid q2
        clear q2
        have Q3 := Lib.hid q3
        clear q3
        have Q4 := Lib.hid q4
        clear q4
        have Q5 := Lib.hid q5
        clear q5
        have R1 := Lib.hid r1
        clear r1
        have R2 := Lib.hid r2
        clear r2
        have R3 := Lib.hid r3
        clear r3
        have R4 := Lib.hid r4
        clear r4
        have R5 := Lib.hid r5
        clear r5
        have Hk := Lib.hid hk
        clear hk
        have HSd := Lib.hid hSd
        clear hSd
        have HBlen := Lib.hid hBlen
        clear hBlen
        have Hn2000 := Lib.hid hn2000
        clear hn2000
        have Hrw := Lib.hid hrw
        clear hrw
        have Hlt := Lib.hid hlt
        clear hlt
        have T1 := Lib.hid t1
        clear t1
        have T2 := Lib.hid t2
        clear t2
        have T3 := Lib.hid t3
        clear t3
        have HS0 := Lib.hid hS0
        clear hS0
        have HSb := Lib.hid hSb
        clear hSb
        have HSn := Lib.hid hSn
        clear hSn
        have Hrl := Lib.hid hrl
        clear hrl
        have Cf := Lib.hid cf
        clear cf
        have HU0 := Lib.hid hU0
        clear hU0
        have HUs := Lib.hid hUs
        clear hUs
        have HQ := Lib.hid hQ
        clear hQ
        have Hcall := Lib.hid hcall
        clear hcall
        have Hput := Lib.hid hput
        clear hput
        have H1c := Lib.hid h1c
        clear h1c
        have Hjn := Lib.hid hjn
        clear hjn
        have HAl := Lib.hid hAl
        clear hAl
        have Qb := Lib.hid qb
        clear qb
        go_upto_region 10 with fail
        refine wp_region_flowu 35 (fun W => Out (fun i => row = some i) wr W) (RVar 28 33 row wr.heap.size 26 7) [(28, fun W => W.ownsRow w.heap.size 56 2 (.slice A o.bl.length c) o.bl.length (o.bl.flatMap blkC))] (by kernel_rfl) (by kernel_rfl) (by kernel_rfl) RVar.refl HUs.out HU0.out HS0.out ?_
        simp only [List.take_succ_cons, List.take_zero, List.drop_succ_cons, List.drop_zero]
        refine flowu_load go _ Qb.out optsU optsI rfl RVar.refl rfl rfl rfl wr ?_
        intro K hK; go_big_quiet_op; go_big_quiet_on
        repeat (refine flowu_quiet RVar.refl rfl rfl rfl rfl ?_; intro K hK; go_big_quiet_op; go_big_quiet_on)
        refine flowt_call tkA tkO (tkQ w.heap.size o k (bodyL L (at_, c2))) rfl HQ.out Cf.out #[.agg (optC o A c), .int .i64 (k : Int), .string S] ?_ rfl Hcall.out rfl rfl wr ?_
        focus (rw [hS]; simp only [List.map_toArray, List.map_cons, List.map_nil]; rfl)
        intro K hK; go_big_quiet_op; go_big_quiet_on
        refine flowt_move tkA tkO _ (fun _ => rfl) 0 rfl rfl rfl (by simp) RVar.refl rfl rfl rfl rfl wr ?_
        intro K hK; go_big_quiet_op; go_big_quiet_on
        refine flowt_first tkA tkO 0 rfl rfl rfl (by simp) RVar.refl rfl rfl rfl rfl wr ?_
        intro K hK; go_big_quiet_op; go_big_quiet_on
        refine flowt_second tkA tkO 1 rfl rfl rfl (by simp) RVar.refl rfl rfl rfl rfl wr ?_
        intro K hK; go_big_quiet_op; go_big_quiet_on
        refine flowt_alloc _ allocOpts rfl Hrl.out HSb.out (fun w h => h.size) rfl rfl wr ?_
        intro K hK; go_big_quiet_op; go_big_quiet_on
        refine flowt_store tkA tkO rfl 0 2 rfl rfl rfl (by simp) rfl rfl rfl (by simp) rfl Hrl.out sizeOpts (fun _ => rfl) H1c.out Hput.out HSn.out rfl rfl ?_
        refine flowt_assign tkA tkO (fun _ => rfl) 2 rfl rfl rfl (by simp) RVar.refl rfl rfl rfl rfl wr ?_
        intro K hK; go_big_quiet_op; go_big_quiet_on
        refine flowu_nil ?_
        intro W5 f hW5 hF5
        obtain ⟨⟨o2, A2, c3, okk⟩, gn, ⟨hv5, htk⟩, v1, v2, v3, v4, v5, v6, hgn, hk5⟩ := flowt_end tkA tkO _ (hF5 _ (.tail _ (.tail _ (.tail _ (.tail _ (.tail _ (.tail _ (.head _)))))))) (hF5 _ (.tail _ (.tail _ (.tail _ (.tail _ (.tail _ (.head _))))))) (hF5 _ (.tail _ (.tail _ (.tail _ (.tail _ (.head _)))))) (hF5 _ (.tail _ (.tail _ (.tail _ (.head _))))) (hF5 _ (.tail _ (.head _))) (hF5 _ (.head _))
        clear hF5
        simp only [fillW, Act.put, List.setIfInBounds_toArray, List.set_cons_succ, List.set_cons_zero]
        rw [v1, v2, v3, v4, v5, v6]
        clear v1 v2 v3 v4 v5 v6
        dsimp only [tkO, tkA, tupR] at *
        have ho5 : Blk W5 go 26 (optC o A c) := (hW5.block go Ho.out.lt T1.out).trans Ho.out
        have hr5 := (hW5.block gr Hr.out.lt T2.out).trans Hr.out
        have hr5 : Blk W5 gr 26 #[.int .u16 0, .int .i64 0, .bool false, .slice none 0 0, .bool false, .int .u32 0, .int .u32 0] := hr5
        have hg5 : wr.grownBy W5 row := ⟨hW5.os, hW5.tape, hW5.output, hW5.size, fun i hi hn => hW5.block i hi (fun e => hn e.symm)⟩
        have hl5 := Hl.out.kept hg5 (.inr (fun e => T3.out (by rw [← e]; simp [Value.ownBlock])))
        have hb5 : Below w.heap.size w W5 := Hb.out.grown hg5 Hb.out.size (fun q hq => by
          have := (Hv.out.lt q (Hrw.out.trans hq)).1
          omega)
        have htake : pl.take (j + 1) = pl.take j ++ [(at_, c2)] := by rw [List.take_add_one, Hp.out]; rfl
        have hf5 : foldT L (pl.take (j + 1)) noneO = if okk = true then some o2 else none := by
          rw [htake, foldT_snoc, Hf.out, Option.bind_some, takeP_I]
          show takeI o (byteN L at_) _ = _
          rw [← Hk.out]
          exact htk
        have hnr : gn ≠ gr := fun e => by have := Hr.out.lt; omega
        have hno : gn ≠ go := fun e => by have := Ho.out.lt; omega
        clear hW5 hg5 htk htake ne qc hix hix2 hgn
        cases okk with
        | false =>
          rw [if_neg (by decide)] at hf5
          have hdd : decR L = (zeroO, 70) := by
            have h1 : foldT L pl noneO = none := by
              rw [← List.take_append_drop (j + 1) pl, foldT_app, hf5]
              rfl
            rw [Hd.out]
            unfold foldT at h1
            rw [h1]
          clear hf5
          have Ho5 := Lib.hid ho5
          clear ho5
          have Hr5 := Lib.hid hr5
          clear hr5
          have Hl5 := Lib.hid hl5
          clear hl5
          have Hb5 := Lib.hid hb5
          clear hb5
          have Hv5 := Lib.hid hv5
          clear hv5
          have Hk5 := Lib.hid hk5
          clear hk5
          have Hnr := Lib.hid hnr
          clear hnr
          have Hno := Lib.hid hno
          clear hno
          have Hdd := Lib.hid hdd
          clear hdd
          have y0 := Hr5.out.cell 0
          have y1 := Hr5.out.cell 1
          have y2 := Hr5.out.cell 2
          have y3 := Hr5.out.cell 3
          have y4 := Hr5.out.cell 4
          have y5 := Hr5.out.cell 5
          have y6 := Hr5.out.cell 6
          simp at y0 y1 y2 y3 y4 y5 y6
          have fr := Hr5.out.frozen
          go_wp2_with fail
          generalize hWf : World.setCell _ _ _ = Wf
          have hrF : Blk Wf gr 26 #[.int .u16 0, .int .i64 0, .bool false, .slice none 0 0, .bool false, .int .u32 0, .int .u32 0] := by
            rw [← hWf]
            have := ((((((Hr5.out.set_ 0 (.int .u16 0)).set_ 1 (.int .i64 0)).set_ 2 (.bool false)).set_ 3 (.slice none 0 0)).set_ 4 (.bool false)).set_ 5 (.int .u32 0)).set_ 6 (.int .u32 0)
            simpa using this
          have hBF : Below w.heap.size w Wf := by
            rw [← hWf]
            repeat (refine Below.setCell ?_ hle_r _)
            exact Hb5.out
          clear hWf y0 y1 y2 y3 y4 y5 y6 fr
          have y0 := hrF.cell 0
          have y1 := hrF.cell 1
          have y2 := hrF.cell 2
          have y3 := hrF.cell 3
          have y4 := hrF.cell 4
          have y5 := hrF.cell 5
          have y6 := hrF.cell 6
          simp at y0 y1 y2 y3 y4 y5 y6
          exact bodyPost_ret (v := .tuple #[.agg #[.int .u16 0, .int .i64 0, .bool false, .slice none 0 0, .bool false, .int .u32 0, .int .u32 0], .int .i64 70]) (by simp [results, Try.results12, go_sem, y0, y1, y2, y3, y4, y5, y6]) rfl ⟨zeroO, none, 0, 70, rfl, .inl rfl, hBF, Hdd.out.symm⟩
        | true =>
          rw [if_pos rfl] at hf5
          have Ho5 := Lib.hid ho5
          clear ho5
          have Hr5 := Lib.hid hr5
          clear hr5
          have Hl5 := Lib.hid hl5
          clear hl5
          have Hb5 := Lib.hid hb5
          clear hb5
          have Hv5 := Lib.hid hv5
          clear hv5
          have Hf5 := Lib.hid hf5
          clear hf5
          have Hnr := Lib.hid hnr
          clear hnr
          have Hno := Lib.hid hno
          clear hno
          unfold optC at hk5
          have y0 := hk5.cell 0
          have y1 := hk5.cell 1
          have y2 := hk5.cell 2
          have y3 := hk5.cell 3
          have y4 := hk5.cell 4
          have y5 := hk5.cell 5
          have y6 := hk5.cell 6
          simp at y0 y1 y2 y3 y4 y5 y6
          have fr := Ho5.out.frozen
          have ho5' := Ho5.out
          unfold optC at ho5'
          have z0 := ho5'.cell 0
          have z1 := ho5'.cell 1
          have z2 := ho5'.cell 2
          have z3 := ho5'.cell 3
          have z4 := ho5'.cell 4
          have z5 := ho5'.cell 5
          have z6 := ho5'.cell 6
          simp at z0 z1 z2 z3 z4 z5 z6
          clear ho5'
          go_upto_region 9 with fail
          generalize hWf : World.setCell _ _ _ = W6
          have ho6 : Blk W6 go 26 (optC o2 A2 c3) := by
            rw [← hWf]
            have := ((((((Ho5.out.set_ 0 (.int .u16 (o2.mss : Int))).set_ 1 (.int .i64 o2.scale)).set_ 2 (.bool o2.sack)).set_ 3 (.slice A2 o2.bl.length c3)).set_ 4 (.bool o2.time)).set_ 5 (.int .u32 (o2.val : Int))).set_ 6 (.int .u32 (o2.echo : Int))
            simpa [optC] using this
          have hg6 : W5.grownBy W6 (some go) := by
            rw [← hWf]
            repeat (refine only_set ?_ _ _)
            exact World.grownBy.refl _ _
          have hr6 := Hr5.out.grown hg6 (fun e => Hro.out (Option.some.inj e).symm)
          have hl6 := Hl5.out.kept hg6 (.inr (own_blk_ne Hl5.out Ho5.out (by decide)))
          have hv6 := Hv5.out.kept hg6 (.inr (own_blk_ne Hv5.out Ho5.out (by decide)))
          have hb6 : Below w.heap.size w W6 := Hb5.out.grown hg6 Hb5.out.size (fun q hq => by injection hq with hq; omega)
          clear hWf hg6 y0 y1 y2 y3 y4 y5 y6 z0 z1 z2 z3 z4 z5 z6 fr hk5
          have Ho6 := Lib.hid ho6
          clear ho6
          have Hr6 := Lib.hid hr6
          clear hr6
          have Hl6 := Lib.hid hl6
          clear hl6
          have Hv6 := Lib.hid hv6
          clear hv6
          have Hb6 := Lib.hid hb6
          clear hb6
          go_wp2_with fail
          go_roundw
          case rel => exact ⟨j + 1, o2, A2, c3, by go_num, by have := Hjn.out; omega, Hf5.out, Ho6.out, Hv6.out, Hl6.out, Hr6.out, Hb6.out⟩
          case measure => simp [intOf]; have := Hjn.out; omega
      · have i1 : ¬ (j : Int) < (n : Int) := by omega
        have hdd : decR L = (o, 0) := by
          rw [List.take_of_length_le (by have := Hn.out; omega)] at hf
          rw [Hd.out]
          unfold foldT at hf
          rw [hf]
        clear hf hl
        have ho' := ho
        unfold optC at ho'
        have z0 := ho'.cell 0
        have z1 := ho'.cell 1
        have z2 := ho'.cell 2
        have z3 := ho'.cell 3
        have z4 := ho'.cell 4
        have z5 := ho'.cell 5
        have z6 := ho'.cell 6
        simp at z0 z1 z2 z3 z4 z5 z6
        have y0 := hr.cell 0
        have y1 := hr.cell 1
        have y2 := hr.cell 2
        have y3 := hr.cell 3
        have y4 := hr.cell 4
        have y5 := hr.cell 5
        have y6 := hr.cell 6
        simp at y0 y1 y2 y3 y4 y5 y6
        have fr := hr.frozen
        clear ho'
        have Ho := Lib.hid ho
        clear ho
        have Hr := Lib.hid hr
        clear hr
        have Hv := Lib.hid hv
        clear hv
        have Hb := Lib.hid hb
        clear hb
        have Hdd := Lib.hid hdd
        clear hdd
        go_wp2_with fail
        generalize hWf : World.setCell _ _ _ = Wf
        have hrF : Blk Wf gr 26 #[.int .u16 (o.mss : Int), .int .i64 o.scale, .bool o.sack, .slice A o.bl.length c, .bool o.time, .int .u32 (o.val : Int), .int .u32 (o.echo : Int)] := by
          rw [← hWf]
          have := ((((((Hr.out.set_ 0 (.int .u16 (o.mss : Int))).set_ 1 (.int .i64 o.scale)).set_ 2 (.bool o.sack)).set_ 3 (.slice A o.bl.length c)).set_ 4 (.bool o.time)).set_ 5 (.int .u32 (o.val : Int))).set_ 6 (.int .u32 (o.echo : Int))
          simpa using this
        have hg6 : wr.grownBy Wf (some gr) := by
          rw [← hWf]
          repeat (refine only_set ?_ _ _)
          exact World.grownBy.refl _ _
        have hvF := Hv.out.kept hg6 (.inr (own_blk_ne Hv.out Hr.out (by decide)))
        have hBF : Below w.heap.size w Wf := Hb.out.grown hg6 Hb.out.size (fun q hq => by injection hq with hq; omega)
        clear hWf hg6 y0 y1 y2 y3 y4 y5 y6 z0 z1 z2 z3 z4 z5 z6 fr
        obtain ⟨A2, c2, hAc, hbl2⟩ := own_blrC hvF
        injection hAc with e1 _ e3
        subst e1 e3
        have y0 := hrF.cell 0
        have y1 := hrF.cell 1
        have y2 := hrF.cell 2
        have y3 := hrF.cell 3
        have y4 := hrF.cell 4
        have y5 := hrF.cell 5
        have y6 := hrF.cell 6
        simp at y0 y1 y2 y3 y4 y5 y6
        exact bodyPost_ret (v := .tuple #[.agg (optC o A c), .int .i64 0]) (by simp [results, Try.results12, go_sem, optC, y0, y1, y2, y3, y4, y5, y6]) rfl ⟨o, A, c, 0, rfl, hbl2, hBF, Hdd.out.symm⟩
set_option maxHeartbeats 2000000 in
theorem rdec_long (x : ByteArray) (L : List UInt8) (hx : x.data.toList = L) (hm : 40 < L.length) (w : World) :
    Calls Try.prog 12 #[.string x] w (DecPost w L) := by
  have hsz : x.size = L.length := by rw [← hx]; simp
  have j1 : (40 : Int) < (L.length : Int) := by omega
  have hr : decR L = (zeroO, 4) := by unfold decR; rw [if_pos hm]
  have hb0 : Below w.heap.size w w := Below.refl _ _
  have HB := Lib.hid hb0
  clear hb0
  have Hr := Lib.hid hr
  clear hr
  go_enter Try.func12, Try.ntmps12
  go_upto_region 1 with fail
  have ho := Blk.new w 26 #[.int .u16 0, .int .i64 0, .bool false, .slice none 0 0, .bool false, .int .u32 0, .int .u32 0]
  have hB := HB.out.alloc HB.out.size (.cells #[.int .u16 0, .int .i64 0, .bool false, .slice none 0 0, .bool false, .int .u32 0, .int .u32 0] 26)
  clear HB
  obtain ⟨go, hge⟩ : ∃ g, g = w.heap.size := ⟨_, rfl⟩
  rw [← hge] at ho ⊢
  have hle_o : w.heap.size ≤ go := by omega
  clear hge
  generalize w.alloc _ = wn3 at *
  have Ho := Lib.hid ho
  clear ho
  have HB := Lib.hid hB
  clear hB
  have y0 := Ho.out.cell 0
  have y1 := Ho.out.cell 1
  have y2 := Ho.out.cell 2
  have y3 := Ho.out.cell 3
  have y4 := Ho.out.cell 4
  have y5 := Ho.out.cell 5
  have y6 := Ho.out.cell 6
  simp at y0 y1 y2 y3 y4 y5 y6
  have fr := Ho.out.frozen
  go_wp2_with fail
  generalize hWf : World.setCell _ _ _ = Wf
  have hrF : Blk Wf go 26 #[.int .u16 0, .int .i64 0, .bool false, .slice none 0 0, .bool false, .int .u32 0, .int .u32 0] := by
    rw [← hWf]
    have := ((((((Ho.out.set_ 0 (.int .u16 0)).set_ 1 (.int .i64 0)).set_ 2 (.bool false)).set_ 3 (.slice none 0 0)).set_ 4 (.bool false)).set_ 5 (.int .u32 0)).set_ 6 (.int .u32 0)
    simpa using this
  have hBF : Below w.heap.size w Wf := by
    rw [← hWf]
    repeat (refine Below.setCell ?_ hle_o _)
    exact HB.out
  clear hWf y0 y1 y2 y3 y4 y5 y6 fr
  have y0 := hrF.cell 0
  have y1 := hrF.cell 1
  have y2 := hrF.cell 2
  have y3 := hrF.cell 3
  have y4 := hrF.cell 4
  have y5 := hrF.cell 5
  have y6 := hrF.cell 6
  simp at y0 y1 y2 y3 y4 y5 y6
  exact bodyPost_ret (v := .tuple #[.agg #[.int .u16 0, .int .i64 0, .bool false, .slice none 0 0, .bool false, .int .u32 0, .int .u32 0], .int .i64 4]) (by simp [results, Try.results12, go_sem, y0, y1, y2, y3, y4, y5, y6]) rfl ⟨zeroO, none, 0, 4, rfl, .inl rfl, hBF, Hr.out.symm⟩
/-- the reference's Decode reads what the program's does -/
theorem rdec_any (x : ByteArray) (w : World) : Calls Try.prog 12 #[.string x] w (DecPost w x.data.toList) := by
  by_cases h : x.data.toList.length ≤ 40
  · exact rdec_in x _ rfl h w
  · exact rdec_long x _ rfl (by omega) w
end Go.Proofs.Ytimepplfaaddeaa
