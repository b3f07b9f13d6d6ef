/- The statement TableOne: each pair leads to one entry at most, that of which it is a pair; no number is given twice; there are never more entries than most; for every most, every script. -/
import Derived.Test.YtlikngepcbmhdaaTabO
import Derived.Test.YtlikngepcbmhdaaTabQ
import Derived.Test.YtlikngepcbmhdaaTabW
import Derived.Test.YtlikngepcbmhdaaStep12
import Derived.Deep.CutBlock
set_option linter.unusedVariables false
set_option linter.unusedSimpArgs false
namespace Go.Proofs.Ytlikngepcbmhdaa.tableOne
open Go.ChangeShapes Go.WideShapes Go.ChangeAt Go.RowKit Go.Maps
open Go.ChangeMaps (open_string shut_string)

/-- what the law's own map has, behind j entries (and one more pair, perhaps two) -/
def Seen (M : Lit → Option Value) (l : List PE) (j : Nat) (more : Pr → Prop) : Prop :=
  (∀ kl v, M kl = some v → v = .int .i64 1) ∧ ∀ p, p.wf → M (pairL p) ≠ none → more p ∨ ∃ x ∈ l.take j, x.near = p ∨ x.bound = true ∧ x.far = p
theorem Seen.upd {M : Lit → Option Value} {l : List PE} {j : Nat} {more more' : Pr → Prop} (h : Seen M l j more) {p : Pr} (hp : p.wf) (h1 : ∀ q, more q → more' q) (h2 : more' p) : Seen (updM M (pairL p) (some (.int .i64 1))) l j more' := by
  refine ⟨fun kl v hv => ?_, fun q hq hne => ?_⟩
  · by_cases e : kl = pairL p
    · rw [e, updM_same] at hv
      injection hv with hv
      exact hv.symm
    · rw [updM_other _ _ e] at hv
      exact h.1 kl v hv
  · by_cases e : q = p
    · rw [e]; exact .inl h2
    · rw [updM_other _ _ (fun e2 => e (pairL_inj hq hp e2))] at hne
      exact (h.2 q hq hne).imp (h1 q) id
theorem Seen.next {M : Lit → Option Value} {l : List PE} {j : Nat} {more : Pr → Prop} (h : Seen M l j more) (hj : j < l.length) (h1 : ∀ q, more q → l[j].near = q ∨ l[j].bound = true ∧ l[j].far = q) : Seen M l (j + 1) (fun _ => False) := by
  refine ⟨h.1, fun q hq hne => .inr ?_⟩
  have e : l.take (j + 1) = l.take j ++ [l[j]] := (List.take_append_getElem hj).symm
  rw [e]
  rcases h.2 q hq hne with h2 | ⟨x, hx, h2⟩
  · exact ⟨l[j], List.mem_append_right _ (List.mem_singleton.2 rfl), h1 q h2⟩
  · exact ⟨x, List.mem_append_left _ hx, h2⟩
section
variable {s : Tab} {l : List PE} {w W W' : World} {t mS j : Nat} {A : Option Addr} {M : Lit → Option Value} {more : Pr → Prop}
theorem by_near (h : Rel s l) (ht : TabAt TI W t s) {x : PE} (hx : x ∈ l) : ∃ en, s.E x.id = some en ∧ x.of en ∧ 1 ≤ x.id ∧ x.id ≤ s.last ∧ x.near.wf ∧ x.far.wf ∧ s.by_ x.near = x.id ∧ (x.bound = true → s.by_ x.far = x.id ∧ x.near ≠ x.far) := by
  obtain ⟨en, he, ho⟩ := h.from_ x hx
  obtain ⟨q1, q2, _, q3, q4⟩ := ht.ents _ _ he
  obtain ⟨r1, r2⟩ := ht.led _ _ he
  obtain ⟨o1, o2, o3, o4⟩ := id ho
  rw [o2] at q3 r1 r2
  rw [o3] at q4 r2
  rw [o4] at r2
  exact ⟨en, he, ho, q1, q2, q3, q4, r1, r2⟩
theorem seen_new (h : Rel s l) (ht : TabAt TI W t s) (hj : j < l.length) (hs : Seen M l j more) {p : Pr} (hp : p.wf) (hq : l[j].near = p ∨ l[j].bound = true ∧ l[j].far = p) (hm : ¬ more p) : M (pairL p) = none := by
  by_cases hn : M (pairL p) = none
  · exact hn
  · exfalso
    rcases hs.2 p hp hn with h1 | ⟨x, hx, h1⟩
    · exact hm h1
    · have hxl := List.mem_of_mem_take hx
      have hby : ∀ y ∈ l, (y.near = p ∨ y.bound = true ∧ y.far = p) → s.by_ p = y.id := fun y hy hh => by
        obtain ⟨_, _, _, _, _, _, _, b1, b2⟩ := by_near h ht hy
        rcases hh with hh | ⟨hb, hh⟩
        · rw [← hh]; exact b1
        · rw [← hh]; exact (b2 hb).1
      have e1 := hby x hxl h1
      have e2 := hby l[j] (List.getElem_mem hj) hq
      obtain ⟨i, hi, rfl⟩ := List.mem_iff_getElem.1 hx
      rw [List.length_take] at hi
      have hij : i < j := by omega
      rw [List.getElem_take] at e1
      have := List.pairwise_iff_getElem.1 h.sorted i j (by omega) hj hij
      omega
theorem blkB (w : World) (o : Obj) (t : TypeId) (cs : Array Value) : Blk ((w.alloc o).alloc (.cells cs t)) (w.heap.size + 1) t cs := by
  have := Blk.new (w.alloc o) t cs
  rwa [show (w.alloc o).heap.size = w.heap.size + 1 by simp] at this
structure InL (w : World) (t mS : Nat) (A : Option Addr) (s : Tab) (l : List PE) (j d : Nat) (more : Pr → Prop) (W : World) : Prop where
  has : Has TI w W t s
  rel : Rel s l
  ids : IdsAt W l A
  map : ∃ n M, n ≤ 2 * j + d ∧ MapIs Try.prog 34 W mS n M ∧ Seen M l j more
  apart : ∀ b, Own t s b → b ≠ mS
  apartA : ∀ g, A = some ⟨g, 0, none⟩ → g ≠ mS ∧ w.heap.size ≤ g
  old : w.heap.size ≤ mS
variable {d : Nat}
theorem InL.step (h : InL w t mS A s l j d more W) (hb : Below W.heap.size W W') : InL w t mS A s l j d more W' := by
  obtain ⟨n, M, h1, h2, h3⟩ := h.map
  exact ⟨h.has.step hb, h.rel, h.ids.below hb, ⟨n, M, h1, h2.below hb h2.lt, h3⟩, h.apart, h.apartA, h.old⟩
theorem InL.wrote (h : InL w t mS A s l j d more W) (hg : W.grownBy W' (some mS)) {n : Nat} {M' : Lit → Option Value} {d' : Nat} {more' : Pr → Prop} (h1 : n ≤ 2 * j + d') (h2 : MapIs Try.prog 34 W' mS n M') (h3 : Seen M' l j more') : InL w t mS A s l j d' more' W' := by
  refine ⟨⟨h.has.tab.keep fun i hi ho => hg.block i hi (fun e => h.apart i ho (Option.some.inj e)), h.has.own, h.has.below.grown hg h.has.below.size (fun j hj => by cases hj; exact h.old)⟩, h.rel, h.ids.grown hg (fun g hg e => (h.apartA g hg).1 (Option.some.inj e)), ⟨n, M', h1, h2, h3⟩, h.apart, h.apartA, h.old⟩
theorem o_pairs {x : PE} (h : InL w t mS A s l j d more W) (hx : x ∈ l) :
    Calls Try.prog 23 #[.pointer (some ⟨t, 0, none⟩), .int .u64 (x.id : Int)] W fun e W' => e = .returned (.tuple #[.agg #[.int .u32 x.near.a, .int .u16 x.near.b, .int .u32 x.near.c, .int .u16 x.near.d], .agg #[.int .u32 x.far.a, .int .u16 x.far.b, .int .u32 x.far.c, .int .u16 x.far.d], .bool x.bound]) ∧ Below W.heap.size W W' := by
  obtain ⟨en, he, ho, q1, q2, q3, q4, _⟩ := by_near h.rel h.has.tab hx
  have := h.has.tab.last_le
  refine (pairs_i h.has.tab (by omega) he).mono ?_
  rintro e W' ⟨rfl, hb⟩
  refine ⟨?_, hb⟩
  rw [ho.2.1, ho.2.2.1, ho.2.2.2]
  rfl
theorem o_near {x : PE} (h : InL w t mS A s l j d more W) (hx : x ∈ l) :
    Calls Try.prog 19 #[.pointer (some ⟨t, 0, none⟩), .agg #[.int .u32 x.near.a, .int .u16 x.near.b, .int .u32 x.near.c, .int .u16 x.near.d]] W fun e W' => e = .returned (.tuple #[.int .u64 (x.id : Int), .int .u8 1]) ∧ Below W.heap.size W W' := by
  obtain ⟨en, he, ho, q1, q2, q3, q4, b1, b2⟩ := by_near h.rel h.has.tab hx
  refine (find_i W t s x.near en x.id h.has.tab q3 b1.symm (by omega) he).mono ?_
  rintro e W' ⟨rfl, hb⟩
  rw [if_pos ho.2.1]
  exact ⟨rfl, hb⟩
theorem o_far {x : PE} (h : InL w t mS A s l j d more W) (hx : x ∈ l) (hxb : x.bound = true) :
    Calls Try.prog 19 #[.pointer (some ⟨t, 0, none⟩), .agg #[.int .u32 x.far.a, .int .u16 x.far.b, .int .u32 x.far.c, .int .u16 x.far.d]] W fun e W' => e = .returned (.tuple #[.int .u64 (x.id : Int), .int .u8 2]) ∧ Below W.heap.size W W' := by
  obtain ⟨en, he, ho, q1, q2, q3, q4, b1, b2⟩ := by_near h.rel h.has.tab hx
  obtain ⟨b3, b4⟩ := b2 hxb
  refine (find_i W t s x.far en x.id h.has.tab q4 b3.symm (by omega) he).mono ?_
  rintro e W' ⟨rfl, hb⟩
  rw [if_neg (by rw [ho.2.1]; exact b4)]
  exact ⟨rfl, hb⟩
end
set_option maxRecDepth 100000 in
set_option maxHeartbeats 4000000 in
theorem walk (a0 : Int) (a1 : Option Addr) (len1 cap1 : Nat) (w : World) (w0 : (Lit.int .u8 a0).wf = true) (w1 : Steps12 w a1 len1) :
    Calls Try.prog 5 #[.int .u8 a0, .slice a1 len1 cap1] w fun e w' => e = .returned (.bool true) ∧ Below w.heap.size w w' := by
  obtain ⟨l0, g0⟩ := bounds_u8 w0
  have hlm := w1.1
  unfold maxLen at hlm
  have W1 := Lib.hid w1
  clear w0 w1
  obtain ⟨most, rfl⟩ : ∃ n : Nat, a0 = (n : Int) := ⟨a0.toNat, by omega⟩
  by_cases hl : 300 < len1
  · have hlz : (len1 : Int) > 300 := by omega
    have ca := works12 w
    go_enter Try.func5, Try.ntmps5
    go_wp2_with (go_at_call 12; with_reducible refine ca.mono ?_; rintro e w3 ⟨rfl, hb⟩)
    go_ret
    exact ⟨rfl, hb⟩
  · have hlz : ¬ (len1 : Int) > 300 := by omega
    have c0 := o_new w most (most : Int) rfl (by omega)
    have k2 : ∀ W : World, (Instr.makeMap 61 none).run Try.prog W = .ok (.map (some W.heap.size)) (W.alloc (.map #[] 0)) := fun _ => by kernel_rfl
    go_enter Try.func5, Try.ntmps5
    go_wp2_with (go_at_call 7; with_reducible refine c0.mono ?_; rintro e v0 ⟨t, rfl, h0⟩)
    clear c0
    have HO := Lib.hid h0
    clear h0
    go_loopw [7, 8] (fun la i wr => ∃ k last : Nat, la = .int .u64 last ∧ i = .int .i64 k ∧ k ≤ len1 ∧ Hid (S12 w t most k last wr)) (fun _ i _ => len1 - (intOf i).toNat)
    case atStart => exact ⟨0, 0, rfl, rfl, Nat.zero_le _, Lib.hid HO.out⟩
    case round =>
      clear HO
      obtain ⟨k, last, rfl, rfl, hk, HI⟩ := hrel
      by_cases hlt : k < len1
      · have hltz : (k : Int) < (len1 : Int) := by omega
        have hkm : k < 300 := by omega
        have hlast : last ≤ k := by obtain ⟨s, l, _, _, _, _, _, h6⟩ := HI.out; exact h6
        have hrows := W1.out.below HI.out.below
        obtain ⟨xb, xo, x, rfl, hxl, hwf, hcell⟩ := hrows.2 k hlt
        obtain ⟨d, p, n, m, v⟩ := x
        obtain ⟨pw, nw, mw, dw, vw⟩ := hwf
        simp only at pw nw mw dw vw
        have q0 : wr.cell? ⟨xb, xo + k * 8, none⟩ = some (.int .i64 d) := hcell 0 (by omega)
        have q1 : wr.cell? ⟨xb, xo + k * 8 + 1, none⟩ = some (.int .u32 p.a) := hcell 1 (by omega)
        have q2 : wr.cell? ⟨xb, xo + k * 8 + 2, none⟩ = some (.int .u16 p.b) := hcell 2 (by omega)
        have q3 : wr.cell? ⟨xb, xo + k * 8 + 3, none⟩ = some (.int .u32 p.c) := hcell 3 (by omega)
        have q4 : wr.cell? ⟨xb, xo + k * 8 + 4, none⟩ = some (.int .u16 p.d) := hcell 4 (by omega)
        have q5 : wr.cell? ⟨xb, xo + k * 8 + 5, none⟩ = some (.int .u64 (n : Int)) := hcell 5 (by omega)
        have q6 : wr.cell? ⟨xb, xo + k * 8 + 6, none⟩ = some (.int .u64 (m : Int)) := hcell 6 (by omega)
        have q7 : wr.cell? ⟨xb, xo + k * 8 + 7, none⟩ = some (.int .i64 v) := hcell 7 (by omega)
        have hrel1 := HI.out.step ((Below.refl _ _).alloc (Nat.le_refl _) (.cells #[.int .i64 d, .int .u32 p.a, .int .u16 p.b, .int .u32 p.c, .int .u16 p.d, .int .u64 (n : Int), .int .u64 (m : Int), .int .i64 v] 46))
        have HR := Lib.hid hrel1
        clear hrel1 hrows hcell
        have Pw := Lib.hid pw
        clear pw
        have Nw := Lib.hid nw
        clear nw
        have Mw := Lib.hid mw
        clear mw
        have Dw := Lib.hid dw
        clear dw
        have Vw := Lib.hid vw
        clear vw
        have Hlast := Lib.hid hlast
        clear hlast
        have Hkm := Lib.hid hkm
        clear hkm
        go_upto_block 2 with fail
        clear q0 q1 q2 q3 q4 q5 q6 q7
        go_cut [7, 10, 11] from 40 to 180 (fun v7 v10 v11 wx => ∃ last' : Nat, v7 = .int .u64 last' ∧ Hid (S12 w t most (k + 1) last' wx))
        case first =>
          obtain ⟨pa, pb, pc, pd⟩ := p
          by_cases hd0 : d = 0
          · subst hd0
            have c1 := o_put HR.out Hkm.out Pw.out v
            go_wp2_with (go_at_call 8; with_reducible refine c1.mono ?_; rintro e w2 (⟨rfl, h2⟩ | ⟨er, rfl, hne, h2⟩))
            · have H2 := Lib.hid h2
              have e1 : ¬ ((last : Int) + 1 ≤ (last : Int)) := by omega
              clear h2 c1
              go_wp2
              go_meet
              case rel => exact ⟨last + 1, by go_num, H2⟩
            · have H2 := Lib.hid h2
              have e1 : (er == 0) = false := by simp [hne]
              have e2 : (0 : Int) ≤ last := by omega
              clear h2 c1 hne
              go_wp2
              go_meet
              case rel => exact ⟨last, by go_num, H2⟩
          · by_cases hd1 : d = 1
            · subst hd1
              have c1 := o_bind HR.out Pw.out Nw.out
              go_wp2_with (go_at_call 14; with_reducible refine c1.mono ?_; rintro e w2 ⟨er, rfl, h2⟩)
              have H2 := Lib.hid h2
              clear h2 c1
              go_wp2
              go_meet
              case rel => exact ⟨last, rfl, H2⟩
            · by_cases hd2 : d = 2
              · subst hd2
                have c1 := o_set HR.out v Nw.out
                go_wp2_with (go_at_call 16; with_reducible refine c1.mono ?_; rintro e w2 ⟨er, rfl, h2⟩)
                have H2 := Lib.hid h2
                clear h2 c1
                go_wp2
                go_meet
                case rel => exact ⟨last, rfl, H2⟩
              · by_cases hd3 : d = 3
                · subst hd3
                  have hbl := blkB wr (.cells #[.int .i64 3, .int .u32 pa, .int .u16 pb, .int .u32 pc, .int .u16 pd, .int .u64 (n : Int), .int .u64 (m : Int), .int .i64 v] 46) 26 #[.int .u64 (n : Int)]
                  have c1 := o_drop (HR.out.step ((Below.refl _ _).alloc (Nat.le_refl _) _)) Nw.out hbl
                  clear hbl
                  go_wp2_with (go_at_call 10; with_reducible refine c1.mono ?_; rintro e w2 ⟨er, rfl, h2⟩)
                  have H2 := Lib.hid h2
                  clear h2 c1
                  go_wp2
                  go_meet
                  case rel => exact ⟨last, rfl, H2⟩
                · have H2 := Lib.hid HR.out.more
                  go_wp2
                  go_meet
                  case rel => exact ⟨last, rfl, H2⟩
        case rest =>
          obtain ⟨last', rfl, H2⟩ := hcut
          clear HR HI Pw Nw Mw Dw Vw Hlast
          obtain ⟨s, l, h1, h2, h3, h4, h5, h6⟩ := H2.out
          have hB : Below w.heap.size w wc := H2.out.below
          have hll := h1.tab.last_le
          have hnl := h1.tab.n_le
          have hlen := h2.len
          have hn3 : ¬ (l.length : Int) > (most : Int) := by omega
          have hl3 : l.length ≤ 300 := by omega
          have c1 := o_all h1 h2 (by omega)
          have c2 := fun W' (hH : Has TI w W' t s) => len_i W' t s hH.tab
          rw [← hlen] at c2
          have HH := Lib.hid (And.intro h1 (And.intro h2 (And.intro h3 (And.intro h4 (And.intro h5 h6)))))
          clear h1 h2 h3 h4 h5 h6 hll hnl hlen H2
          have HB := Lib.hid hB
          clear hB
          have C2 := Lib.hid c2
          clear c2
          go_wp2_with (first
            | (go_at_call 21; with_reducible refine c1.mono ?_; rintro e w2 ⟨A, cap, rfl, hA, hA2, hb2, hH2⟩; have HA := Lib.hid (And.intro hA (And.intro hA2 (And.intro hb2 hH2))); clear hA hA2 hb2 hH2)
            | (go_at_call 11; with_reducible refine (C2.out _ HA.out.2.2.2).mono ?_; rintro e w3 ⟨rfl, hw⟩; rw [← hw]; clear hw))
          clear c1 C2
          have hIn : InL w t w2.heap.size A s l 0 0 (fun _ => False) (w2.alloc (.map #[] 0)) := by
            obtain ⟨q1, q2, q3, q4⟩ := HA.out
            have q5 := q4.alloc (.map #[] 0)
            refine ⟨q5, HH.out.2.1, q1.below ((Below.refl _ _).alloc (Nat.le_refl _) _), ⟨0, _, Nat.le_refl _, MapIs.made _ _ _, ⟨fun kl v hv => (by cases hv), fun p _ hne => absurd rfl hne⟩⟩, ?_, ?_, q4.below.size⟩
            · intro b hb e
              have := q4.tab.lt hb
              omega
            · intro g hg
              obtain ⟨r1, r2⟩ := q2 g hg
              have := HB.out.size
              exact ⟨by omega, by omega⟩
          have HIn := Lib.hid hIn
          clear hIn HA
          generalize w2.heap.size = mS at *
          generalize w2.alloc _ = wz at *
          go_loopw [14] (fun i wr => ∃ j : Nat, i = .int .i64 j ∧ j ≤ l.length ∧ Hid (InL w t mS A s l j 0 (fun _ => False) wr)) (fun i _ => l.length - (intOf i).toNat)
          case atStart => exact ⟨0, rfl, Nat.zero_le _, HIn⟩
          case round =>
            clear HIn
            obtain ⟨j, rfl, hj, HI⟩ := hrel
            by_cases hjl : j < l.length
            · have hjz : (j : Int) < (l.length : Int) := by omega
              have hx := List.getElem_mem hjl
              obtain ⟨g, rfl, hg, hcell⟩ := HI.out.ids.cell hjl
              have c1 := o_pairs HI.out hx
              obtain ⟨x, hxe⟩ : ∃ x, x = l[j] := ⟨_, rfl⟩
              rw [← hxe] at hcell c1 hx
              have Hxe := Lib.hid hxe
              clear hxe
              have Hx := Lib.hid hx
              clear hx
              go_upto_region 31 with (go_at_call 23; with_reducible refine c1.mono ?_; rintro e w3 ⟨rfl, hb3⟩)
              have hI2 := HI.out.step ((hb3.alloc hb3.size (.cells #[.int .u32 x.near.a, .int .u16 x.near.b, .int .u32 x.near.c, .int .u16 x.near.d] 34)).alloc (Nat.le_trans hb3.size (by simp)) (.cells #[.int .u32 x.far.a, .int .u16 x.far.b, .int .u32 x.far.c, .int .u16 x.far.d] 34))
              have hbn := (Blk.new w3 34 #[.int .u32 x.near.a, .int .u16 x.near.b, .int .u32 x.near.c, .int .u16 x.near.d]).alloc (.cells #[.int .u32 x.far.a, .int .u16 x.far.b, .int .u32 x.far.c, .int .u16 x.far.d] 34)
              have hbf := blkB w3 (.cells #[.int .u32 x.near.a, .int .u16 x.near.b, .int .u32 x.near.c, .int .u16 x.near.d] 34) 34 #[.int .u32 x.far.a, .int .u16 x.far.b, .int .u32 x.far.c, .int .u16 x.far.d]
              obtain ⟨gn, en⟩ : ∃ gn, gn = w3.heap.size := ⟨_, rfl⟩
              obtain ⟨gf, ef⟩ : ∃ gf, gf = w3.heap.size + 1 := ⟨_, rfl⟩
              rw [← ef] at hbf ⊢
              rw [← en] at hbn ⊢
              have hmS : mS < w3.heap.size := by obtain ⟨_, _, _, q, _⟩ := HI.out.map; have := q.lt; have := hb3.size; omega
              have n1 : gn ≠ mS := by omega
              have n2 : gf ≠ mS := by omega
              have hg1 : g ≠ mS ∧ g < w3.heap.size := ⟨(HI.out.apartA g rfl).1, by have := hb3.size; omega⟩
              clear en ef
              generalize (w3.alloc _).alloc _ = w4 at *
              have c2 := o_near hI2 Hx.out
              have HI2 := Lib.hid hI2
              have Hbn := Lib.hid hbn
              have Hbf := Lib.hid hbf
              have z0 := hbn.cell 0
              have z1 := hbn.cell 1
              have z2 := hbn.cell 2
              have z3 := hbn.cell 3
              simp only [List.getElem?_toArray, List.getElem?_cons_zero, List.getElem?_cons_succ] at z0 z1 z2 z3
              clear hI2 hbn hbf c1 hcell
              have N1 := Lib.hid n1
              clear n1
              have N2 := Lib.hid n2
              clear n2
              have Hg1 := Lib.hid hg1
              clear hg1
              have HmS := Lib.hid hmS
              clear hmS
              have Hb3 := Lib.hid hb3
              clear hb3
              have Hg := Lib.hid hg
              clear hg
              go_upto_region 32 with (go_at_call 19; with_reducible refine c2.mono ?_; rintro e w5 ⟨rfl, hb5⟩)
              clear z0 z1 z2 z3 c2
              have hI5 := HI2.out.step hb5
              have hbn5 := Hbn.out.below hb5 Hbn.out.lt
              have hbf5 := Hbf.out.below hb5 Hbf.out.lt
              obtain ⟨en, he, ho, i1, i2, pwn, pwf, by1, by2⟩ := by_near hI5.rel hI5.has.tab Hx.out
              obtain ⟨nM, M, hnM, hM, hSeen⟩ := hI5.map
              have hnone := seen_new hI5.rel hI5.has.tab hjl hSeen pwn (.inl (by rw [← Hxe.out])) (fun h => h)
              obtain ⟨st, Wa, Wb, r1, r2, r3, r4, hM2, ga, gb⟩ := seen_run hM pwn hnone (by unfold maxLen; omega)
              have hI6 := hI5.wrote gb (d' := 1) (by omega) hM2 (hSeen.upd pwn (fun _ h => h.elim) (more' := fun q => q = x.near) rfl)
              have hbnA := hbn5.of_eq (ga.block gn hbn5.lt (fun e => N1.out (Option.some.inj e)))
              have hbf6 := hbf5.of_eq (gb.block gf hbf5.lt (fun e => N2.out (Option.some.inj e)))
              have d1 : ∀ W : World, W.drewN 1 = W.drew := fun _ => rfl
              replace r1 := r1 1
              replace r2 := r2 1
              replace r3 := r3 1
              replace r4 := r4 1
              simp only [prV, d1, goInt] at r1 r2 r3 r4
              clear d1
              have z0 := hbn5.cell 0
              have z1 := hbn5.cell 1
              have z2 := hbn5.cell 2
              have z3 := hbn5.cell 3
              have y0 := hbnA.cell 0
              have y1 := hbnA.cell 1
              have y2 := hbnA.cell 2
              have y3 := hbnA.cell 3
              simp only [List.getElem?_toArray, List.getElem?_cons_zero, List.getElem?_cons_succ] at z0 z1 z2 z3 y0 y1 y2 y3
              have HI6 := Lib.hid (And.intro hI6 (And.intro hbf6 (And.intro pwf by2)))
              clear hI5 hbn5 hbf5 he ho i1 i2 pwn pwf by1 by2 hnM hM hSeen hnone hM2 ga gb hI6 hbnA hbf6 HI2 Hbn Hbf hb5
              go_region
              clear r1 r2 r3 r4 z0 z1 z2 z3 y0 y1 y2 y3
              have hI7 := HI6.out.1.step (Below.drew (Below.refl _ _))
              have hbf7 := HI6.out.2.1.drew
              have hmore := HI6.out.2.2
              obtain ⟨g', eg, hg7, hcell7⟩ := hI7.ids.cell hjl
              injection eg with eg
              injection eg with eg
              subst eg
              rw [← Hxe.out] at hcell7
              clear HI6
              generalize Wb.drew = w7 at *
              have z0 := hbf7.cell 0
              have z1 := hbf7.cell 1
              have z2 := hbf7.cell 2
              have z3 := hbf7.cell 3
              simp only [List.getElem?_toArray, List.getElem?_cons_zero, List.getElem?_cons_succ] at z0 z1 z2 z3
              cases hxb : x.bound with
              | false =>
                have hEnd : InL w t mS (some ⟨g, 0, none⟩) s l (j + 1) 0 (fun _ => False) w7 := by
                  obtain ⟨nM, M, h1, h2, h3⟩ := hI7.map
                  exact ⟨hI7.has, hI7.rel, hI7.ids, ⟨nM, M, by omega, h2, h3.next hjl (fun q e => .inl (by rw [← Hxe.out]; exact e.symm))⟩, hI7.apart, hI7.apartA, hI7.old⟩
                have HE := Lib.hid hEnd
                clear hEnd hI7 hbf7 hmore
                go_wp2
                go_roundw
                case rel => exact ⟨j + 1, by go_num, hjl, HE⟩
                case measure => simp [intOf]; omega
              | true =>
                have c3 := o_far hI7 Hx.out hxb
                obtain ⟨pwf, by2⟩ := hmore
                have hne := (by2 hxb).2
                have HI7 := Lib.hid (And.intro hI7 (And.intro hbf7 (And.intro pwf hne)))
                clear hI7 hbf7 by2 pwf hne
                go_upto_region 37 with (go_at_call 19; with_reducible refine c3.mono ?_; rintro e w8 ⟨rfl, hb8⟩)
                clear z0 z1 z2 z3 c3 hcell7 hg7
                have hI8 := HI7.out.1.step hb8
                have hbf8 := HI7.out.2.1.below hb8 HI7.out.2.1.lt
                obtain ⟨nM, M, hnM, hM, hSeen⟩ := hI8.map
                have hnone := seen_new hI8.rel hI8.has.tab hjl hSeen HI7.out.2.2.1 (.inr ⟨by rw [← Hxe.out]; exact hxb, by rw [← Hxe.out]⟩) (fun h => HI7.out.2.2.2 h.symm)
                obtain ⟨st2, Wc, Wd, r1, r2, r3, r4, hM2, ga, gb⟩ := seen_run hM HI7.out.2.2.1 hnone (by unfold maxLen; omega)
                have hI9 := hI8.wrote gb (d' := 2) (by omega) hM2 (hSeen.upd HI7.out.2.2.1 (fun _ h => Or.inl h) (more' := fun q => q = x.near ∨ q = x.far) (.inr rfl))
                have hbfA := hbf8.of_eq (ga.block gf hbf8.lt (fun e => N2.out (Option.some.inj e)))
                have d1 : ∀ W : World, W.drewN 1 = W.drew := fun _ => rfl
                replace r1 := r1 1
                replace r2 := r2 1
                replace r3 := r3 1
                replace r4 := r4 1
                simp only [prV, d1, goInt] at r1 r2 r3 r4
                clear d1
                have z0 := hbf8.cell 0
                have z1 := hbf8.cell 1
                have z2 := hbf8.cell 2
                have z3 := hbf8.cell 3
                have y0 := hbfA.cell 0
                have y1 := hbfA.cell 1
                have y2 := hbfA.cell 2
                have y3 := hbfA.cell 3
                simp only [List.getElem?_toArray, List.getElem?_cons_zero, List.getElem?_cons_succ] at z0 z1 z2 z3 y0 y1 y2 y3
                have hI9' := hI9.step (Below.drew (Below.refl _ _))
                obtain ⟨g', eg, hg9, hcell9⟩ := hI9'.ids.cell hjl
                injection eg with eg
                injection eg with eg
                subst eg
                rw [← Hxe.out] at hcell9
                have hEnd : InL w t mS (some ⟨g, 0, none⟩) s l (j + 1) 0 (fun _ => False) Wd.drew := by
                  obtain ⟨nM, M, h1, h2, h3⟩ := hI9'.map
                  refine ⟨hI9'.has, hI9'.rel, hI9'.ids, ⟨nM, M, by omega, h2, h3.next hjl (fun q e => ?_)⟩, hI9'.apart, hI9'.apartA, hI9'.old⟩
                  rw [← Hxe.out]
                  rcases e with e | e
                  · exact .inl e.symm
                  · exact .inr ⟨hxb, e.symm⟩
                have HE := Lib.hid hEnd
                have HC := Lib.hid (And.intro hg9 hcell9)
                clear hI8 hbf8 hnM hM hSeen hnone hM2 ga gb hI9 hbfA hI9' hg9 hcell9 HI7 hb8 hEnd
                go_region
                clear r1 r2 r3 r4 z0 z1 z2 z3 y0 y1 y2 y3
                obtain ⟨hg9, hcell9⟩ := HC.out
                generalize Wd.drew = w9 at *
                go_wp2
                go_roundw
                case rel => exact ⟨j + 1, by go_num, hjl, HE⟩
                case measure => simp [intOf]; omega
            · have hjz : ¬ (j : Int) < (l.length : Int) := by omega
              obtain ⟨nM, M, hnM, hM, hSeen⟩ := HI.out.map
              obtain ⟨D0, hown, hsz, hmm⟩ := hM
              have K : Keyed Try.prog 34 := lawPair
              have HX := Lib.hid (And.intro HI.out (And.intro hSeen hmm))
              clear hnM hSeen hmm HI
              go_wp2_with (at_range; refine wpList_range_own _ rfl _ 61 rfl 34 3 K Try.underlying61 _ mS nM _ rfl hown ?_; intro x0 hrg0 hg0 hs0)
              have HW : Hid (Below wr.heap.size wr x0) := Lib.hid ⟨hg0.os, hg0.tape, hg0.output, hg0.size, fun i hi => hg0.block i hi (by simp)⟩
              clear hg0 hs0 hown
              obtain ⟨W, hWr⟩ : ∃ W, W = wr := ⟨_, rfl⟩
              rw [← hWr] at HX HW hrg0
              rw [← hWr]
              clear hWr
              go_loopw [] (fun y => ∃ (left : Lit → Bool) (cnt : Nat), y.ranges Try.prog 34 asHeld mS W.heap.size nM D0 left cnt ∧ Hid (Below W.heap.size W y)) (fun y => y.rangeLeft mS W.heap.size)
              case atStart => exact ⟨_, _, hrg0, HW⟩
              case round =>
                clear HW hrg0
                obtain ⟨left, cnt, hrg, HC⟩ := hrel
                go_wp2_with (at_next; refine wpList_next_ranges _ rfl _ rfl 34 K asHeld (id : Value → Value) (id : Value → Value) (fun key kl hk => ⟨key, rfl⟩) (fun v _ _ => ⟨v, rfl⟩) mS W.heap.size nM _ _ _ rfl hrg ?_ ?_)
                · intro hc0 hl0
                  have hOw := HX.out.1.step HC.out
                  obtain ⟨e1, e2, e3, e4, e5, e6⟩ := HH.out
                  have HR : Hid (S12 w t most (k + 1) last' wr) := Lib.hid ⟨s, l, hOw.has, e2, e3, e4, e5, e6⟩
                  clear hrg hOw e1 e2 e3 e4 e5 e6
                  go_wp2
                  go_roundw
                  case rel => exact ⟨k + 1, last', rfl, by go_num, hlt, HR⟩
                  case measure => simp [intOf]; omega
                · intro x c kl yd yp w3 cnt2 hkey hlk hv hat hrg2 hlt2 hg2 hs2 hen
                  have hcv : c = .int .i64 1 := by
                    simp only [asHeld, id, Option.some.injEq, Prod.mk.injEq] at hv
                    rcases HX.out.2.2 kl (K.key hkey) with ⟨_, q2⟩ | ⟨u, q1, _, q3⟩
                    · have := has_true_of_atKey hat
                      rw [q2] at this; cases this
                    · have q4 := (q3 (.held c)).symm.trans (hat (.held c))
                      rw [← hv.1] at q4
                      injection q4 with q4
                      rw [← q4]
                      exact HX.out.2.1.1 kl u q1
                  subst hcv
                  have hB2 : Below W.heap.size W w3 := HC.out.trans ⟨hg2.os, hg2.tape, hg2.output, hg2.size, fun i hi => hg2.block i (Nat.lt_of_lt_of_le hi HC.out.size) (by intro e; injection e with e; omega)⟩
                  have HB2 := Lib.hid hB2
                  have hen2 : (Instr.entry (.pointer (some ⟨W.heap.size, 0, none⟩))).run Try.prog w3 = .ok (.tuple #[x, .int .i64 1]) w3 := hen
                  have hm1 : w3.rangeLeft mS W.heap.size < wr.rangeLeft mS W.heap.size := by rw [hrg2.left_eq, hrg.left_eq]; exact hlt2
                  clear hkey hv hat hg2 hs2 hen hB2 hlk
                  have HR := Lib.hid hrg2
                  have Hm1 := Lib.hid hm1
                  clear hm1
                  clear hrg hrg2
                  try simp only [id]
                  go_wp2
                  go_roundw
                  case rel => exact ⟨_, cnt2, HR.out, HB2⟩
                  case measure => exact Hm1.out
      · have hltz : ¬ (k : Int) < (len1 : Int) := by omega
        have ca := works12 wr
        go_wp2_with (go_at_call 12; with_reducible refine ca.mono ?_; rintro e w3 ⟨rfl, hb⟩)
        go_ret
        exact ⟨rfl, HI.out.below.trans (hb.mono HI.out.below.size)⟩
theorem own : ownKnob Try.prog.godebug = none := by kernel_rfl
theorem laidOut : laidOutB Try.prog = true := by kernel_rfl
set_option maxRecDepth 100000 in
theorem lifted (os : Os) (started : os.Started) (H : Type) (enc : TypeId × Value → H) :
    ReturnsInHanded {} Try.checked os 5 .any (Rows.tableOneSpec.pre6 enc Try.prog Try.f5 Rows.tableOneRow.domain false) (Rows.tableOneSpec.post enc Try.prog Try.f5 false true false false) := by
  refine returnsInHanded_of_change (C := Try.checked) own started (by kernel_rfl) Try.func5
    (ChangeSpec.witness6 (enc := enc) (C := Try.checked) false ⟨#[], #[.int .u8 0, .slice none 0 0], []⟩ 8 (by kernel_rfl) (by kernel_rfl) (by kernel_rfl) (by kernel_rfl)) ?_
  intro W base args ds gs before hval0 hW hcnd _
  have hval : ∀ (j : Nat) t v, Try.f5.params[j]? = some t → args[j]? = some v → Value.okWide Try.prog W .any base t v := hval0
  have hW' := hW
  obtain ⟨p, q, hA0, hV, rfl, hfz, hnd⟩ := hW
  have hA : DataW.TrodAll enc Try.prog W 0 (fun _ => true) true Try.f5.params.toList args.toList ds p := hA0
  rw [Try.params5] at hA hval
  obtain ⟨v0, vs0, d0, ds0, p0, q0, hargs, rfl, rfl, h0, r0⟩ := trodAll_cons hA
  obtain ⟨v1, vs1, d1, ds1, p1, q1, rfl, rfl, rfl, h1, r1⟩ := trodAll_cons r0
  obtain ⟨rfl, rfl, rfl⟩ := trodAll_nil r1
  obtain rfl : args = #[v0, v1] := by cases args; simp_all
  obtain ⟨rfl, rfl⟩ := trodVars_none hV
  obtain ⟨a0, rfl, rfl, rfl, w0⟩ := open_int Try.underlying5 (hval 0 5 v0 rfl rfl) h0
  obtain ⟨a1, len1, cap1, rfl⟩ := okWide_slice Try.underlying40 (hval 1 40 v1 rfl rfl)
  have k1 := h1
  have lt1 : ∀ x ∈ p1, x.block < W.heap.size := by obtain ⟨m, hm⟩ := k1; exact DataW.trod_lt m _ _ _ hm
  have w1 := steps_rows h1
  clear hA0 hval0
  refine (walk a0 a1 len1 cap1 W w0 w1).mono fun e W' ⟨he, bel⟩ => ?_
  subst he
  exact ⟨_, rfl, _, _, _, [], _, [], hW', trodAll_mk1 (shut_bool Try.underlying4 _), (trodAll_cons_mk (shut_int Try.underlying5 w0) (trodAll_cons_mk (Below.trod laidOut (by kernel_rfl) (of_decide_eq_true (by kernel_rfl)) k1 bel lt1) trodAll_mk0)), rfl, bel.frame _, fun h => by cases h⟩

theorem over : Rows.tableOneRow.holds Try.pinned (OpenSpec.ofChange Rows.tableOneSpec) :=
  OpenClaim.holds_of_wide 5 Try.f5 rfl rfl rfl rfl rfl rfl rfl ⟨rfl, rfl, rfl, rfl, rfl⟩ rfl rfl rfl rfl rfl (by kernel_rfl) Try.func5 (by kernel_rfl)
    (of_decide_eq_true (by kernel_rfl)) (by unfold Func.isWrapper; first | (rw [if_pos (by decide +kernel)]; kernel_rfl) | (rw [if_neg (by decide +kernel)]; exact ⟨rfl, rfl⟩))
    (fun os started H enc _ => lifted os started H enc)

/-- THE STATEMENT -/
theorem proved : Rows.TableOneSaid := over
#print axioms proved
end Go.Proofs.Ytlikngepcbmhdaa.tableOne
