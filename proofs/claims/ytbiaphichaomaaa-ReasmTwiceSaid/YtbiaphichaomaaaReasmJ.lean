/- Layer 16 (reasm): joined. -/
import Derived.Test.YtbiaphichaomaaaReasmP
import Derived.Test.YtbiaphichaomaaaWords
import Derived.Lib.MinMax
import Derived.Lib.Hide
import Derived.Deep.DeepCutAuto
import Derived.LoopTactic
set_option linter.unusedVariables false
set_option linter.unusedSimpArgs false
namespace Go.Proofs.Ytbiaphichaomaaa
open Go.RowKit Go.BigFrame

def partCells (p : Sp) : List Value := [.int .u64 (p.1 : Int), .int .u64 (p.2 : Int)]
theorem partCells_len (l : List Sp) : (l.flatMap partCells).length = l.length * 2 := by
  induction l with
  | nil => rfl
  | cons p l ih => rw [List.flatMap_cons, List.length_append, ih]; simp [partCells]; omega
theorem partCells_at (l : List Sp) (k : Nat) (p : Sp) (h : l[k]? = some p) : (l.flatMap partCells)[k * 2]? = some (.int .u64 (p.1 : Int)) ∧ (l.flatMap partCells)[k * 2 + 1]? = some (.int .u64 (p.2 : Int)) := by
  induction l generalizing k with
  | nil => simp at h
  | cons q l ih =>
    rw [List.flatMap_cons]
    cases k with
    | zero => simp at h; subst h; simp [partCells]
    | succ k =>
      have := ih k (by simpa using h)
      rw [show (k + 1) * 2 = k * 2 + 2 by omega]
      simpa [partCells] using this
theorem infoPart : (Try.prog.info? 45).map (fun i => (i.zero, i.size, i.bytes)) = some (some (.agg #[.int .u64 0, .int .u64 0]), 2, 16) := by kernel_rfl
/-- one step of the loop: the list so far, whether the span was put, the span -/
def jstep (s : List Sp × Bool × Sp) (q : Sp) : List Sp × Bool × Sp :=
  if q.2 < s.2.2.1 then (s.1 ++ [q], s.2.1, s.2.2)
  else if s.2.2.2 < q.1 then ((if s.2.1 then s.1 else s.1 ++ [s.2.2]) ++ [q], true, s.2.2)
  else (s.1, s.2.1, (min s.2.2.1 q.1, max s.2.2.2 q.2))
def jend (s : List Sp × Bool × Sp) : List Sp := if s.2.1 then s.1 else s.1 ++ [s.2.2]
theorem jfold_put : ∀ (l : List Sp) (out : List Sp) (p : Sp), (∀ q ∈ l, p.2 < q.1 ∧ ¬ q.2 < p.1) → l.foldl jstep (out, true, p) = (out ++ l, true, p)
  | [], out, p, _ => by simp
  | q :: l, out, p, h => by
    have hq := h q List.mem_cons_self
    rw [List.foldl_cons]
    have : jstep (out, true, p) q = (out ++ [q], true, p) := by
      unfold jstep
      simp only
      rw [if_neg hq.2, if_pos hq.1]
      rfl
    rw [this, jfold_put l _ p (fun r hr => h r (List.mem_cons_of_mem _ hr))]
    simp
theorem jfold : ∀ (l : List Sp) (out : List Sp) (p : Sp), Norm l → p.1 < p.2 → jend (l.foldl jstep (out, false, p)) = out ++ joinS l p
  | [], out, p, _, _ => by simp [jend, joinS]
  | q :: l, out, p, hl, hp => by
    rw [List.foldl_cons]
    unfold joinS
    by_cases h1 : q.2 < p.1
    · have : jstep (out, false, p) q = (out ++ [q], false, p) := by unfold jstep; simp only; rw [if_pos h1]
      rw [this, jfold l _ p hl.2.2 hp, if_pos h1]
      simp
    · by_cases h2 : p.2 < q.1
      · have : jstep (out, false, p) q = (out ++ [p] ++ [q], true, p) := by unfold jstep; simp only; rw [if_neg h1, if_pos h2]; rfl
        rw [this, if_neg h1, if_pos h2, jfold_put l _ p (fun r hr => by
          have := hl.2.1 r hr
          have := hl.2.2.lt r hr
          have := hl.1
          omega)]
        simp [jend]
      · have : jstep (out, false, p) q = (out, false, (min p.1 q.1, max p.2 q.2)) := by unfold jstep; simp only; rw [if_neg h1, if_neg h2]
        rw [this, if_neg h1, if_neg h2, jfold l _ _ hl.2.2 (by simp only; omega)]
theorem jfold_len : ∀ (l : List Sp) (s : List Sp × Bool × Sp), (l.foldl jstep s).1.length ≤ s.1.length + 2 * l.length
  | [], s => by simp
  | q :: l, s => by
    rw [List.foldl_cons]
    have h1 := jfold_len l (jstep s q)
    have h2 : (jstep s q).1.length ≤ s.1.length + 2 := by
      unfold jstep
      split
      · simp
      · split
        · split <;> simp
        · simp
    simp only [List.length_cons]
    omega
theorem reads2 {w : World} {g : Nat} {t : TypeId} {a b : Value} {B : Nat} (h : Blk w g t #[a, b]) (hB : g < B) : Reads w B 2 (some ⟨g, 0, none⟩) 1 [a, b] := by
  refine ⟨rfl, fun _ => ⟨_, rfl, hB, fun j u hj => ?_⟩⟩
  have : (⟨g, 0, none⟩ : Addr).add j = ⟨g, j, none⟩ := by unfold Addr.add; split <;> simp_all
  rw [this, h.cell j, ← hj]
  simp
/-- a row of Parts that is read -/
def PRow (w : World) (A : Option Addr) (l : List Sp) : Prop :=
  l = [] ∨ ∃ rb off, A = some ⟨rb, off, none⟩ ∧ rb < w.heap.size ∧ ∀ (j : Nat) (p : Sp), l[j]? = some p → w.cell? ⟨rb, off + j * 2, none⟩ = some (.int .u64 (p.1 : Int)) ∧ w.cell? ⟨rb, off + j * 2 + 1, none⟩ = some (.int .u64 (p.2 : Int))
theorem PRow.below {w w' : World} {A : Option Addr} {l : List Sp} (h : PRow w A l) (hb : Below w.heap.size w w') : PRow w' A l := by
  rcases h with rfl | ⟨rb, off, rfl, h1, h2⟩
  · exact .inl rfl
  · exact .inr ⟨rb, off, rfl, Nat.lt_of_lt_of_le h1 hb.size, fun j p hj => ⟨(hb.cell (p := ⟨rb, off + j * 2, none⟩) h1).trans (h2 j p hj).1, (hb.cell (p := ⟨rb, off + j * 2 + 1, none⟩) h1).trans (h2 j p hj).2⟩⟩
/-- a row of Parts of the call's own -/
def OwnP (w : World) (v : Value) (l : List Sp) (w' : World) : Prop := w'.ownsRow w.heap.size 45 2 v l.length (l.flatMap partCells)
structure JRel (w : World) (gp : Nat) (s : List Sp × Bool × Sp) (v : Value) (wr : World) : Prop where
  own : OwnP w v s.1 wr
  blk : Blk wr gp 45 #[.int .u64 (s.2.2.1 : Int), .int .u64 (s.2.2.2 : Int)]
  ne : v.ownBlock ≠ some gp
  below : Below w.heap.size w wr
theorem JRel.app {w wr : World} {gp : Nat} {s : List Sp × Bool × Sp} {v v' : Value} {W W' : World} {q : Sp} (h : JRel w gp s v wr) (hgp : gp < wr.heap.size) (hb : Below wr.heap.size wr W) (hg : W.grownBy W' v.ownBlock) (hat : v'.ownBlock = v.ownBlock ∨ v'.ownBlock = some W.heap.size)
    (ho : W'.ownsRow w.heap.size 45 2 v' (s.1.length + 1) (s.1.flatMap partCells ++ [.int .u64 (q.1 : Int), .int .u64 (q.2 : Int)])) (put : Bool) : JRel w gp (s.1 ++ [q], put, s.2.2) v' W' where
  own := by
    unfold OwnP
    rw [List.flatMap_append, List.length_append]
    exact ho
  blk := (h.blk.below hb hgp).grown hg (fun e => h.ne e.symm)
  ne := by
    rcases hat with e | e
    · rw [e]; exact h.ne
    · rw [e]; intro e2; injection e2 with e2; have := hb.size; omega
  below := (h.below.trans (hb.mono h.below.size)).grown hg (Nat.le_trans h.below.size hb.size) (fun k hk => (h.own.lt k hk).1)
set_option maxHeartbeats 4000000 in
theorem joined_any (A : Option Addr) (n c : Nat) (l : List Sp) (p : Sp) (w : World) (hl : PRow w A l) (hn : l.length = n) (hn2 : n ≤ 100) :
    Calls Try.prog 14 #[.slice A n c, .agg #[.int .u64 (p.1 : Int), .int .u64 (p.2 : Int)]] w fun e w' => ∃ v, e = .returned v ∧ OwnP w v (jend (l.foldl jstep ([], false, p))) w' ∧ Below w.heap.size w w' := by
  obtain ⟨i0, hi, h0, h1, h2⟩ := info_parts infoPart
  have Hi := Lib.hid hi
  clear hi
  have H0 := Lib.hid h0
  clear h0
  have H1 := Lib.hid h1
  clear h1
  have H2 := Lib.hid h2
  clear h2
  have Hl := Lib.hid hl
  clear hl
  have Hn := Lib.hid hn
  clear hn
  go_enter Try.func14, Try.ntmps14
  go_upto_region 3 with fail
  have hr0 : JRel w w.heap.size ([], false, p) (.slice none 0 0) (w.alloc (.cells #[.int .u64 (p.1 : Int), .int .u64 (p.2 : Int)] 45)) := ⟨World.ownsRow_nil _ _ _ _, Blk.new _ _ _, by simp [Value.ownBlock], (Below.refl _ _).alloc (Nat.le_refl _) _⟩
  have hr1 : ∃ gp, gp = w.heap.size := ⟨_, rfl⟩
  obtain ⟨gp, hgp⟩ := hr1
  rw [← hgp] at hr0 ⊢
  have Hr0 := Lib.hid hr0
  clear hr0
  have Hgp := Lib.hid hgp
  clear hgp
  generalize w.alloc _ = w0 at *
  go_wp2
  go_step3
  go_wp2
  go_step3
  go_wp2_with fail
  have hv0 : ∃ v0 : Value, v0 = .slice none 0 0 := ⟨_, rfl⟩
  go_loopw [4, 5, 10] (fun v b i wr => ∃ k : Nat, i = .int .i64 (k : Int) ∧ k ≤ n ∧ b = .bool ((l.take k).foldl jstep ([], false, p)).2.1 ∧ JRel w gp ((l.take k).foldl jstep ([], false, p)) v wr) (fun _ _ i _ => n - (intOf i).toNat)
  case atStart => exact ⟨0, rfl, Nat.zero_le _, rfl, Hr0.out⟩
  case round =>
    clear Hr0
    obtain ⟨k, rfl, hkn, rfl, hJ⟩ := hrel
    obtain ⟨A0, c0, hv, _⟩ := own_slice hJ.own
    subst hv
    have hlen := jfold_len (l.take k) ([], false, p)
    by_cases hk : k < n
    · obtain ⟨q, hq⟩ : ∃ q, l[k]? = some q := ⟨l[k]'(by rw [Hn.out]; exact hk), List.getElem?_eq_getElem _⟩
      have hst : (l.take (k + 1)).foldl jstep ([], false, p) = jstep ((l.take k).foldl jstep ([], false, p)) q := by
        rw [List.take_add_one, hq, List.foldl_append]
        rfl
      have hol : ((l.take k).foldl jstep ([], false, p)).1.length ≤ 200 := by
        have : (l.take k).length ≤ k := List.length_take_le _ _
        simp only [List.length_nil] at hlen
        omega
      clear hlen
      obtain ⟨⟨out, put, pp⟩, hse⟩ : ∃ s, s = (l.take k).foldl jstep ([], false, p) := ⟨_, rfl⟩
      rw [← hse] at hJ hst hol ⊢
      clear hse
      simp only at hJ hst hol ⊢
      have j1 : (k : Int) < (n : Int) := by omega
      rcases Hl.out.below (hJ.below.mono (Nat.le_refl _)) with h | ⟨rb, off, hA, hrb, hcc⟩
      · rw [h] at hq; simp at hq
      obtain ⟨e0, e1⟩ := hcc k q hq
      subst hA
      clear hcc
      have d0 := hJ.blk.cell 0
      have d1 := hJ.blk.cell 1
      have hgpl := hJ.blk.lt
      simp at d0 d1
      have hws := hJ.below.size
      have hown : wr.ownsRow w.heap.size 45 2 (.slice A0 out.length c0) out.length (out.flatMap partCells) := hJ.own
      by_cases c1 : q.2 < pp.1
      · have c2 : (q.2 : Int) < (pp.1 : Int) := by omega
        have hown2 := (hown.alloc (.cells #[.int .u64 (q.1 : Int), .int .u64 (q.2 : Int)] 45)).alloc (.cells #[.int .u64 (q.1 : Int), .int .u64 (q.2 : Int)] 45)
        have hrd : Reads ((wr.alloc (.cells #[.int .u64 (q.1 : Int), .int .u64 (q.2 : Int)] 45)).alloc (.cells #[.int .u64 (q.1 : Int), .int .u64 (q.2 : Int)] 45)) (wr.heap.size + 2) 2 (some ⟨wr.heap.size + 1, 0, none⟩) 1 [.int .u64 (q.1 : Int), .int .u64 (q.2 : Int)] := by
          have := Blk.new (wr.alloc (.cells #[.int .u64 (q.1 : Int), .int .u64 (q.2 : Int)] 45)) 45 #[.int .u64 (q.1 : Int), .int .u64 (q.2 : Int)]
          rw [World.size_alloc] at this
          exact reads2 this (by omega)
        have hb2 : Below wr.heap.size wr ((wr.alloc (.cells #[.int .u64 (q.1 : Int), .int .u64 (q.2 : Int)] 45)).alloc (.cells #[.int .u64 (q.1 : Int), .int .u64 (q.2 : Int)] 45)) := ((Below.refl _ _).alloc (Nat.le_refl _) _).alloc (by simp) _
        clear hown
        have Hown2 := Lib.hid hown2
        clear hown2
        have Hrd := Lib.hid hrd
        clear hrd
        have Hb2 := Lib.hid hb2
        clear hb2
        have HJ := Lib.hid hJ
        clear hJ
        have Hq := Lib.hid hq
        clear hq
        have Hst := Lib.hid hst
        clear hst
        go_wp2_with (at_builtin; refine wpList_append_any _ rfl _ _ _ rfl w.heap.size 45 i0 _ 2 16 Try.underlying34 Hi.out H0.out H1.out H2.out rfl (by decide) _ _ _ rfl Hown2.out _ _ 1 1 _ rfl Hrd.out (by intro u hu; simp at hu; rcases hu with rfl | rfl <;> rfl) (by simp only [maxLen]; omega) (by omega) (by simp <;> omega) ?_; intro a1 wa1 howna hga hata)
        have hnew := JRel.app HJ.out hgpl Hb2.out hga hata (by exact howna) put
        have hfin : jstep (out, put, pp) q = (out ++ [q], put, pp) := by unfold jstep; simp only; rw [if_pos c1]
        rw [← hfin, ← Hst.out] at hnew
        have hput : put = ((l.take (k + 1)).foldl jstep ([], false, p)).2.1 := by rw [Hst.out, hfin]
        have Hnew := Lib.hid hnew
        clear hnew
        have Hput := Lib.hid hput
        clear hput
        clear hfin howna hga hata
        go_roundw
        case rel => exact ⟨k + 1, by go_num, by omega, by rw [← Hput.out], Hnew.out⟩
        case measure => simp [intOf]; omega
      · have c2 : ¬ (q.2 : Int) < (pp.1 : Int) := by omega
        by_cases c3 : pp.2 < q.1
        · have c4 : (pp.2 : Int) < (q.1 : Int) := by omega
          cases put with
          | true =>
            have hown2 := (hown.alloc (.cells #[.int .u64 (q.1 : Int), .int .u64 (q.2 : Int)] 45)).alloc (.cells #[.int .u64 (q.1 : Int), .int .u64 (q.2 : Int)] 45)
            have hrd : Reads ((wr.alloc (.cells #[.int .u64 (q.1 : Int), .int .u64 (q.2 : Int)] 45)).alloc (.cells #[.int .u64 (q.1 : Int), .int .u64 (q.2 : Int)] 45)) (wr.heap.size + 2) 2 (some ⟨wr.heap.size + 1, 0, none⟩) 1 [.int .u64 (q.1 : Int), .int .u64 (q.2 : Int)] := by
              have := Blk.new (wr.alloc (.cells #[.int .u64 (q.1 : Int), .int .u64 (q.2 : Int)] 45)) 45 #[.int .u64 (q.1 : Int), .int .u64 (q.2 : Int)]
              rw [World.size_alloc] at this
              exact reads2 this (by omega)
            have hb2 : Below wr.heap.size wr ((wr.alloc (.cells #[.int .u64 (q.1 : Int), .int .u64 (q.2 : Int)] 45)).alloc (.cells #[.int .u64 (q.1 : Int), .int .u64 (q.2 : Int)] 45)) := ((Below.refl _ _).alloc (Nat.le_refl _) _).alloc (by simp) _
            clear hown
            have Hown2 := Lib.hid hown2
            clear hown2
            have Hrd := Lib.hid hrd
            clear hrd
            have Hb2 := Lib.hid hb2
            clear hb2
            have HJ := Lib.hid hJ
            clear hJ
            have Hq := Lib.hid hq
            clear hq
            have Hst := Lib.hid hst
            clear hst
            go_wp2_with (at_builtin; refine wpList_append_any _ rfl _ _ _ rfl w.heap.size 45 i0 _ 2 16 Try.underlying34 Hi.out H0.out H1.out H2.out rfl (by decide) _ _ _ rfl Hown2.out _ _ 1 1 _ rfl Hrd.out (by intro u hu; simp at hu; rcases hu with rfl | rfl <;> rfl) (by simp only [maxLen]; omega) (by omega) (by simp <;> omega) ?_; intro a1 wa1 howna hga hata)
            have hnew := JRel.app HJ.out hgpl Hb2.out hga hata (by exact howna) true
            have hfin : jstep (out, true, pp) q = (out ++ [q], true, pp) := by unfold jstep; simp only; rw [if_neg c1, if_pos c3]; rfl
            rw [← hfin, ← Hst.out] at hnew
            have hput : true = ((l.take (k + 1)).foldl jstep ([], false, p)).2.1 := by rw [Hst.out, hfin]
            have Hnew := Lib.hid hnew
            clear hnew
            have Hput := Lib.hid hput
            clear hput
            clear hfin howna hga hata
            go_roundw
            case rel => exact ⟨k + 1, by go_num, by omega, by rw [← Hput.out], Hnew.out⟩
            case measure => simp [intOf]; omega
          | false =>
            have hown2 := (hown.alloc (.cells #[.int .u64 (q.1 : Int), .int .u64 (q.2 : Int)] 45)).alloc (.cells #[.int .u64 (pp.1 : Int), .int .u64 (pp.2 : Int)] 45)
            have hrd : Reads ((wr.alloc (.cells #[.int .u64 (q.1 : Int), .int .u64 (q.2 : Int)] 45)).alloc (.cells #[.int .u64 (pp.1 : Int), .int .u64 (pp.2 : Int)] 45)) (wr.heap.size + 2) 2 (some ⟨wr.heap.size + 1, 0, none⟩) 1 [.int .u64 (pp.1 : Int), .int .u64 (pp.2 : Int)] := by
              have := Blk.new (wr.alloc (.cells #[.int .u64 (q.1 : Int), .int .u64 (q.2 : Int)] 45)) 45 #[.int .u64 (pp.1 : Int), .int .u64 (pp.2 : Int)]
              rw [World.size_alloc] at this
              exact reads2 this (by omega)
            have hb2 : Below wr.heap.size wr ((wr.alloc (.cells #[.int .u64 (q.1 : Int), .int .u64 (q.2 : Int)] 45)).alloc (.cells #[.int .u64 (pp.1 : Int), .int .u64 (pp.2 : Int)] 45)) := ((Below.refl _ _).alloc (Nat.le_refl _) _).alloc (by simp) _
            have hlt := fun g hg => (hown.lt g hg).2
            have hqb : Blk ((wr.alloc (.cells #[.int .u64 (q.1 : Int), .int .u64 (q.2 : Int)] 45)).alloc (.cells #[.int .u64 (pp.1 : Int), .int .u64 (pp.2 : Int)] 45)) wr.heap.size 45 #[.int .u64 (q.1 : Int), .int .u64 (q.2 : Int)] := (Blk.new wr 45 #[.int .u64 (q.1 : Int), .int .u64 (q.2 : Int)]).alloc _
            clear hown
            have Hown2 := Lib.hid hown2
            clear hown2
            have Hrd := Lib.hid hrd
            clear hrd
            have Hb2 := Lib.hid hb2
            clear hb2
            have HJ := Lib.hid hJ
            clear hJ
            have Hq := Lib.hid hq
            clear hq
            have Hst := Lib.hid hst
            clear hst
            have Hlt := Lib.hid hlt
            clear hlt
            have Hqb := Lib.hid hqb
            clear hqb
            go_upto_region 10 with (at_builtin; refine wpList_append_any _ rfl _ _ _ rfl w.heap.size 45 i0 _ 2 16 Try.underlying34 Hi.out H0.out H1.out H2.out rfl (by decide) _ _ _ rfl Hown2.out _ _ 1 1 _ rfl Hrd.out (by intro u hu; simp at hu; rcases hu with rfl | rfl <;> rfl) (by simp only [maxLen]; omega) (by omega) (by simp <;> omega) ?_; intro a1 wa1 howna hga hata)
            have hnew := JRel.app HJ.out hgpl Hb2.out hga hata (by exact howna) true
            have hq1 := Hqb.out.grown hga (fun e => by have := Hlt.out _ e.symm; omega)
            have g0 := hq1.cell 0
            have g1 := hq1.cell 1
            simp at g0 g1
            have hla := hq1.lt
            have hown3 : (wa1.alloc (.cells #[.int .u64 (q.1 : Int), .int .u64 (q.2 : Int)] 45)).ownsRow w.heap.size 45 2 a1 (out ++ [pp]).length ((out ++ [pp]).flatMap partCells) := hnew.own.alloc _
            have hrd3 : Reads (wa1.alloc (.cells #[.int .u64 (q.1 : Int), .int .u64 (q.2 : Int)] 45)) (wa1.heap.size + 1) 2 (some ⟨wa1.heap.size, 0, none⟩) 1 [.int .u64 (q.1 : Int), .int .u64 (q.2 : Int)] := reads2 (Blk.new wa1 45 #[.int .u64 (q.1 : Int), .int .u64 (q.2 : Int)]) (by omega)
            have hb3 : Below wa1.heap.size wa1 (wa1.alloc (.cells #[.int .u64 (q.1 : Int), .int .u64 (q.2 : Int)] 45)) := (Below.refl _ _).alloc (Nat.le_refl _) _
            have hol3 : (out ++ [pp]).length ≤ 300 := by simp only [List.length_append, List.length_singleton]; omega
            have hws3 := hnew.below.size
            have hgp3 := hnew.blk.lt
            clear hq1 howna hga hata Hown2 Hrd Hb2 HJ Hqb
            have Hown3 := Lib.hid hown3
            clear hown3
            have Hrd3 := Lib.hid hrd3
            clear hrd3
            have Hb3 := Lib.hid hb3
            clear hb3
            have Hnew := Lib.hid hnew
            clear hnew
            go_wp2_with (at_builtin; refine wpList_append_any _ rfl _ _ _ rfl w.heap.size 45 i0 _ 2 16 Try.underlying34 Hi.out H0.out H1.out H2.out rfl (by decide) _ _ _ rfl Hown3.out _ _ 1 1 _ rfl Hrd3.out (by intro u hu; simp at hu; rcases hu with rfl | rfl <;> rfl) (by simp only [maxLen]; omega) (by omega) (by simp <;> omega) ?_; intro b1 wb1 hownb hgb hatb)
            have hnew2 := JRel.app Hnew.out hgp3 Hb3.out hgb hatb (by exact hownb) true
            have hfin : jstep (out, false, pp) q = (out ++ [pp] ++ [q], true, pp) := by unfold jstep; simp only; rw [if_neg c1, if_pos c3]; rfl
            simp only at hnew2
            rw [← hfin, ← Hst.out] at hnew2
            have hput : true = ((l.take (k + 1)).foldl jstep ([], false, p)).2.1 := by rw [Hst.out, hfin]
            clear Hnew
            have Hnew := Lib.hid hnew2
            have Hput := Lib.hid hput
            clear hput
            clear hfin hownb hgb hatb hnew2
            go_roundw
            case rel => exact ⟨k + 1, by go_num, by omega, by rw [← Hput.out], Hnew.out⟩
            case measure => simp [intOf]; omega
        · have c4 : ¬ (pp.2 : Int) < (q.1 : Int) := by omega
          have f0 := hJ.blk.frozen 0
          have f1 := hJ.blk.frozen 1
          have hfin : jstep (out, put, pp) q = (out, put, (min pp.1 q.1, max pp.2 q.2)) := by unfold jstep; simp only; rw [if_neg c1, if_neg c3]
          have hput : put = ((l.take (k + 1)).foldl jstep ([], false, p)).2.1 := by rw [hst, hfin]
          have hnew : JRel w gp ((l.take (k + 1)).foldl jstep ([], false, p)) (.slice A0 out.length c0) (((wr.setCell ⟨gp, 0, none⟩ (.int .u64 (min (pp.1 : Int) (q.1 : Int)))).setCell ⟨gp, 1, none⟩ (.int .u64 (max (pp.2 : Int) (q.2 : Int)))).alloc (.cells #[.int .u64 (q.1 : Int), .int .u64 (q.2 : Int)] 45)) := by
            rw [hst, hfin]
            have hm1 : min (pp.1 : Int) (q.1 : Int) = ((min pp.1 q.1 : Nat) : Int) := by omega
            have hm2 : max (pp.2 : Int) (q.2 : Int) = ((max pp.2 q.2 : Nat) : Int) := by omega
            rw [hm1, hm2]
            have hg : wr.grownBy (((wr.setCell ⟨gp, 0, none⟩ (.int .u64 ((min pp.1 q.1 : Nat) : Int))).setCell ⟨gp, 1, none⟩ (.int .u64 ((max pp.2 q.2 : Nat) : Int))).alloc (.cells #[.int .u64 (q.1 : Int), .int .u64 (q.2 : Int)] 45)) (some gp) := only_alloc (only_set (only_set (World.grownBy.refl _ _) _ _) _ _) _
            exact ⟨hown.kept hg (.inr hJ.ne), by simpa using ((hJ.blk.set_ 0 (.int .u64 ((min pp.1 q.1 : Nat) : Int))).set_ 1 (.int .u64 ((max pp.2 q.2 : Nat) : Int))).alloc (.cells #[.int .u64 (q.1 : Int), .int .u64 (q.2 : Int)] 45), hJ.ne, below_only hJ.below hg (by rw [Hgp.out]; exact Nat.le_refl _) hJ.below.size⟩
          clear hfin hown
          have Hnew := Lib.hid hnew
          clear hnew
          have Hput := Lib.hid hput
          clear hput
          have Hq := Lib.hid hq
          clear hq
          have Hst := Lib.hid hst
          clear hst
          have HJ := Lib.hid hJ
          clear hJ
          go_wp2_with fail
          go_roundw
          case rel => exact ⟨k + 1, by go_num, by omega, by rw [← Hput.out], Hnew.out⟩
          case measure => simp [intOf]; omega
    · have hke : k = n := by omega
      subst hke
      have hlk : l.take k = l := List.take_of_length_le (by rw [Hn.out]; omega)
      rw [hlk] at hJ hlen ⊢
      have hol : (l.foldl jstep ([], false, p)).1.length ≤ 200 := by
        rw [Hn.out] at hlen
        simp only [List.length_nil] at hlen
        omega
      obtain ⟨⟨out, put, pp⟩, hse⟩ : ∃ s, s = l.foldl jstep ([], false, p) := ⟨_, rfl⟩
      rw [← hse] at hJ hol ⊢
      clear hlen
      simp only at hJ hol ⊢
      have hown : wr.ownsRow w.heap.size 45 2 (.slice A0 out.length c0) out.length (out.flatMap partCells) := hJ.own
      have j1 : ¬ (k : Int) < (k : Int) := by omega
      have d0 := hJ.blk.cell 0
      have d1 := hJ.blk.cell 1
      have hgpl := hJ.blk.lt
      have hws := hJ.below.size
      simp at d0 d1
      cases put with
      | true =>
        have hfin : jend (out, true, pp) = out := rfl
        have Hse := Lib.hid hse
        clear hse
        have Hown := Lib.hid hown
        clear hown
        have HJ := Lib.hid hJ
        clear hJ
        have Hfin := Lib.hid hfin
        clear hfin
        go_wp2_with fail
        go_ret
        exact ⟨_, rfl, by rw [← Hse.out, Hfin.out]; exact Hown.out, HJ.out.below⟩
      | false =>
        have hfin : jend (out, false, pp) = out ++ [pp] := rfl
        have hown2 := hown.alloc (.cells #[.int .u64 (pp.1 : Int), .int .u64 (pp.2 : Int)] 45)
        have hrd : Reads (wr.alloc (.cells #[.int .u64 (pp.1 : Int), .int .u64 (pp.2 : Int)] 45)) (wr.heap.size + 1) 2 (some ⟨wr.heap.size, 0, none⟩) 1 [.int .u64 (pp.1 : Int), .int .u64 (pp.2 : Int)] := reads2 (Blk.new wr 45 #[.int .u64 (pp.1 : Int), .int .u64 (pp.2 : Int)]) (by omega)
        have hb2 : Below wr.heap.size wr (wr.alloc (.cells #[.int .u64 (pp.1 : Int), .int .u64 (pp.2 : Int)] 45)) := (Below.refl _ _).alloc (Nat.le_refl _) _
        clear hown
        have Hse := Lib.hid hse
        clear hse
        have HJ := Lib.hid hJ
        clear hJ
        have Hfin := Lib.hid hfin
        clear hfin
        have Hown2 := Lib.hid hown2
        clear hown2
        have Hrd := Lib.hid hrd
        clear hrd
        have Hb2 := Lib.hid hb2
        clear hb2
        go_wp2_with (at_builtin; refine wpList_append_any _ rfl _ _ _ rfl w.heap.size 45 i0 _ 2 16 Try.underlying34 Hi.out H0.out H1.out H2.out rfl (by decide) _ _ _ rfl Hown2.out _ _ 1 1 _ rfl Hrd.out (by intro u hu; simp at hu; rcases hu with rfl | rfl <;> rfl) (by simp only [maxLen]; omega) (by omega) (by simp <;> omega) ?_; intro a1 wa1 howna hga hata)
        have hnew := JRel.app HJ.out hgpl Hb2.out hga hata (by exact howna) true
        clear howna hga hata
        have Hnew := Lib.hid hnew
        clear hnew
        go_ret
        exact ⟨_, rfl, by rw [← Hse.out, Hfin.out]; exact Hnew.out.own, Hnew.out.below⟩
end Go.Proofs.Ytbiaphichaomaaa
