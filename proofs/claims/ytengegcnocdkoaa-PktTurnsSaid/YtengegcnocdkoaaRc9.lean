/- Contracts and plain lemmas: PktHigh, SumTurnsP, Nest, Structs, PRefTurns, OptRaw, OptMay, PktMay, OptPlain, OptLong. -/
import Derived.ChangeArms
import Derived.Deep.Slices
import Derived.Deep.Fields
import Derived.ChangeSame
import Derived.Lib.MinMax
import Derived.Deep.DeepCutAuto
import Derived.Laws.BitsAllLaws
import Derived.Laws.BitsLemmas
import Derived.Carry
import Derived.Maps.Own
import Derived.RangeFuncRecord
import Derived.Test.YtengegcnocdkoaaRc3
import Derived.Test.YtengegcnocdkoaaRc1
import Derived.Test.YtengegcnocdkoaaRc8
import Derived.Test.YtengegcnocdkoaaRc5
set_option linter.unusedVariables false
set_option linter.unusedSimpArgs false
set_option linter.unusedSectionVars false
section
namespace Go.Proofs.Ytengegcnocdkoaa.P
open Go.RowKit
set_option maxHeartbeats 2000000 in
theorem high16 (x : Nat) (w : World) (hx : x < 65536) :
    Calls Try.prog 49 #[.int .u16 (x : Int), .int .i64 2] w fun e w' => e = .returned (.string ⟨(be2 x).toArray⟩) ∧ Below w.heap.size w w' := by
  have hmk : ∀ W : World, (Instr.makeSlice 51 (.int .i64 2) (.int .i64 2)).run Try.prog W = .ok (.slice (some ⟨W.heap.size, 0, none⟩) 2 2) (W.alloc (.cells #[.int .u8 0, .int .u8 0] 5)) := fun _ => by kernel_rfl
  go_enter Try.func49, Try.ntmps49
  go_wp2
  clear hmk
  have h0 := Blk.new w 5 #[.int .u8 0, .int .u8 0]
  have hb0 : Below w.heap.size w (w.alloc (.cells #[.int .u8 0, .int .u8 0] 5)) := (Below.refl _ _).alloc (Nat.le_refl _) _
  obtain ⟨g, hg⟩ : ∃ g, g = w.heap.size := ⟨_, rfl⟩
  rw [← hg] at h0 ⊢
  have hgl : w.heap.size ≤ g := by omega
  clear hg
  go_loopw [11] (fun i wr => Below w.heap.size w wr ∧ ((i = .int .i64 0 ∧ Blk wr g 5 #[.int .u8 0, .int .u8 0]) ∨ (i = .int .i64 1 ∧ Blk wr g 5 #[.int .u8 0, u8v (UInt8.ofNat x)]) ∨ (i = .int .i64 2 ∧ Blk wr g 5 #[u8v (UInt8.ofNat (x / 256)), u8v (UInt8.ofNat x)]))) (fun i _ => 2 - (intOf i).toNat)
  case atStart => exact ⟨hb0, .inl ⟨rfl, h0⟩⟩
  case round =>
    obtain ⟨hb, hrel⟩ := hrel
    clear h0 hb0
    rcases hrel with ⟨rfl, h⟩ | ⟨rfl, h⟩ | ⟨rfl, h⟩
    · have f1 := h.frozen 1
      have c1 := h.cell 1 ; simp at c1
      go_wp2
      go_roundw
      case rel => exact ⟨hb.setCell (by simp; omega) _, .inr (.inl ⟨rfl, by have := h.set_ 1 (u8v (UInt8.ofNat x)); simpa [u8v, u8b] using this⟩)⟩
      case measure => simp [intOf]
    · have f1 := h.frozen 0
      have c0 := h.cell 0 ; simp at c0
      go_wp2
      go_roundw
      case rel => exact ⟨hb.setCell (by simp; omega) _, .inr (.inr (⟨rfl, by
        have := h.set_ 0 (u8v (UInt8.ofNat (x / 256)))
        have ht : (x : Int) / 256 % 256 = (x : Int) / 256 := by omega
        simpa [u8v, u8b, ht] using this⟩))⟩
      case measure => simp [intOf]
    · have hbk := run_bytes_back wr ⟨g, 0, none⟩ 2 2 (be2 x) rfl (by
        intro j hj
        rw [add_plain, Nat.zero_add, h.cell j]
        match j, hj with
        | 0, _ => rfl
        | 1, _ => rfl)
      clear h
      go_wp2
      go_ret
      exact ⟨rfl, hb⟩
set_option maxHeartbeats 2000000 in
theorem high32 (x : Nat) (w : World) (hx : x < 4294967296) :
    Calls Try.prog 48 #[.int .u32 (x : Int), .int .i64 4] w fun e w' => e = .returned (.string ⟨(be4 x).toArray⟩) ∧ Below w.heap.size w w' := by
  have hmk : ∀ W : World, (Instr.makeSlice 51 (.int .i64 4) (.int .i64 4)).run Try.prog W = .ok (.slice (some ⟨W.heap.size, 0, none⟩) 4 4) (W.alloc (.cells #[.int .u8 0, .int .u8 0, .int .u8 0, .int .u8 0] 5)) := fun _ => by kernel_rfl
  go_enter Try.func48, Try.ntmps48
  go_wp2
  clear hmk
  have h0 := Blk.new w 5 #[.int .u8 0, .int .u8 0, .int .u8 0, .int .u8 0]
  have hb0 : Below w.heap.size w (w.alloc (.cells #[.int .u8 0, .int .u8 0, .int .u8 0, .int .u8 0] 5)) := (Below.refl _ _).alloc (Nat.le_refl _) _
  obtain ⟨g, hg⟩ : ∃ g, g = w.heap.size := ⟨_, rfl⟩
  rw [← hg] at h0 ⊢
  have hgl : w.heap.size ≤ g := by omega
  clear hg
  go_loopw [11] (fun i wr => Below w.heap.size w wr ∧ ((i = .int .i64 0 ∧ Blk wr g 5 #[.int .u8 0, .int .u8 0, .int .u8 0, .int .u8 0]) ∨ (i = .int .i64 1 ∧ Blk wr g 5 #[.int .u8 0, .int .u8 0, .int .u8 0, u8v (UInt8.ofNat x)]) ∨ (i = .int .i64 2 ∧ Blk wr g 5 #[.int .u8 0, .int .u8 0, u8v (UInt8.ofNat (x / 256)), u8v (UInt8.ofNat x)]) ∨ (i = .int .i64 3 ∧ Blk wr g 5 #[.int .u8 0, u8v (UInt8.ofNat (x / 65536)), u8v (UInt8.ofNat (x / 256)), u8v (UInt8.ofNat x)]) ∨ (i = .int .i64 4 ∧ Blk wr g 5 #[u8v (UInt8.ofNat (x / 16777216)), u8v (UInt8.ofNat (x / 65536)), u8v (UInt8.ofNat (x / 256)), u8v (UInt8.ofNat x)]))) (fun i _ => 4 - (intOf i).toNat)
  case atStart => exact ⟨hb0, .inl ⟨rfl, h0⟩⟩
  case round =>
    obtain ⟨hb, hrel⟩ := hrel
    clear h0 hb0
    rcases hrel with ⟨rfl, h⟩ | ⟨rfl, h⟩ | ⟨rfl, h⟩ | ⟨rfl, h⟩ | ⟨rfl, h⟩
    · have f1 := h.frozen 3
      have c3 := h.cell 3 ; simp at c3
      go_wp2
      go_roundw
      case rel => exact ⟨hb.setCell (by simp; omega) _, .inr (.inl ⟨rfl, by have := h.set_ 3 (u8v (UInt8.ofNat x)); simpa [u8v, u8b] using this⟩)⟩
      case measure => simp [intOf]
    · have f1 := h.frozen 2
      have c2 := h.cell 2 ; simp at c2
      go_wp2
      go_roundw
      case rel => exact ⟨hb.setCell (by simp; omega) _, .inr (.inr (.inl ⟨rfl, by have := h.set_ 2 (u8v (UInt8.ofNat (x / 256))); simpa [u8v, u8b] using this⟩))⟩
      case measure => simp [intOf]
    · have f1 := h.frozen 1
      have c1 := h.cell 1 ; simp at c1
      go_wp2
      go_roundw
      case rel => exact ⟨hb.setCell (by simp; omega) _, .inr (.inr (.inr (.inl ⟨rfl, by have := h.set_ 1 (u8v (UInt8.ofNat (x / 65536))); simpa [u8v, u8b] using this⟩)))⟩
      case measure => simp [intOf]
    · have f1 := h.frozen 0
      have c0 := h.cell 0 ; simp at c0
      go_wp2
      go_roundw
      case rel => exact ⟨hb.setCell (by simp; omega) _, .inr (.inr (.inr (.inr (⟨rfl, by
        have := h.set_ 0 (u8v (UInt8.ofNat (x / 16777216)))
        have ht : (x : Int) / 16777216 % 256 = (x : Int) / 16777216 := by omega
        simpa [u8v, u8b, ht] using this⟩))))⟩
      case measure => simp [intOf]
    · have hbk := run_bytes_back wr ⟨g, 0, none⟩ 4 4 (be4 x) rfl (by
        intro j hj
        rw [add_plain, Nat.zero_add, h.cell j]
        match j, hj with
        | 0, _ => rfl
        | 1, _ => rfl
        | 2, _ => rfl
        | 3, _ => rfl)
      clear h
      go_wp2
      go_ret
      exact ⟨rfl, hb⟩
end Go.Proofs.Ytengegcnocdkoaa.P
end
section
namespace Go.Proofs.Ytengegcnocdkoaa
theorem wordsL_append : ∀ (a b : List UInt8), a.length % 2 = 0 → wordsL (a ++ b) = wordsL a ++ wordsL b
  | [], b, _ => rfl
  | [x], b, h => absurd h (by simp)
  | x :: y :: t, b, h => by
    have := wordsL_append t b (by simp only [List.length_cons] at h; omega)
    simp only [List.cons_append, wordsL, this]
end Go.Proofs.Ytengegcnocdkoaa
end
section
namespace Go.Proofs.Ytengegcnocdkoaa
open Go.RowKit Go.ChangeShapes Go.WideShapes
section
variable {H : Type} {enc : TypeId × Value → H} {P : Program} {w : World} {base : Nat} {spare : Nat → Bool} {held : Bool}
/-- a list of cells reads as a value of type t -/
def ReadsAs (enc : TypeId × Value → H) (P : Program) (w : World) (base : Nat) (spare : Nat → Bool) (held : Bool) (t : TypeId) (cs : List Value) : Prop := ∃ n y, DataW.trod enc P w base spare held n t cs = some y
theorem ReadsAs.of {t : TypeId} {v : Value} {d : DataW H} {p : List MemPlace} (h : DataW.Trod enc P w base spare held t v d p) : ReadsAs enc P w base spare held t v.cells.toList := by
  obtain ⟨n, hn⟩ := h
  exact ⟨n, _, hn⟩
theorem ReadsAs.part {t : TypeId} {fs : Array Field} {cs : List Value} (h : ReadsAs enc P w base spare held t cs) (ht : P.underlying t = some (.struct fs)) (i : Nat) {f : Field} (hi : fs[i]? = some f) {k : Nat} (hk : P.cellsOf f.type = k) {ds : List Value} (hd : (cs.drop f.offset).take k = ds) :
    ReadsAs enc P w base spare held f.type ds := by
  obtain ⟨n, y, hn⟩ := h
  obtain ⟨xs, m, _, _, _, hlen, hg⟩ := DataW.trod_struct ht hn
  have h1 := hg i f hi
  rw [hk, hd] at h1
  have hlt : i < xs.length := by
    have := (Array.getElem?_eq_some_iff.1 hi).1
    omega
  exact ⟨m, xs[i], by rw [h1]; exact List.getElem?_eq_getElem hlt⟩
theorem ReadsAs.int {t : TypeId} {k : IntKind} {c : Value} (h : ReadsAs enc P w base spare held t [c]) (ht : P.underlying t = some (.int k)) : ∃ a, c = .int k a ∧ (Lit.int k a).wf = true := by
  obtain ⟨n, y, hn⟩ := h
  obtain ⟨a, e, _, hw⟩ := DataW.trod_int ht hn
  injection e with e
  exact ⟨a, e, hw⟩
theorem ReadsAs.bool {t : TypeId} {c : Value} (h : ReadsAs enc P w base spare held t [c]) (ht : P.underlying t = some .bool) : ∃ b, c = .bool b := by
  obtain ⟨n, y, hn⟩ := h
  obtain ⟨b, e, _⟩ := DataW.trod_bool ht hn
  injection e with e
  exact ⟨b, e⟩
theorem ReadsAs.string {t : TypeId} {c : Value} (h : ReadsAs enc P w base spare held t [c]) (ht : P.underlying t = some .string) : ∃ s : ByteArray, c = .string s ∧ s.size ≤ maxLen := by
  obtain ⟨n, y, hn⟩ := h
  obtain ⟨s, e, _, hw⟩ := DataW.trod_string ht hn
  injection e with e
  exact ⟨s, e, hw⟩
end
end Go.Proofs.Ytengegcnocdkoaa
end
section
namespace Go.Proofs.Ytengegcnocdkoaa
open Go.RowKit Go.ChangeShapes Go.WideShapes Go.Deep
section
variable {H : Type} {enc : TypeId × Value → H} {P : Program} {w : World} {base : Nat} {spare : Nat → Bool} {held : Bool}
theorem open_slice_fields {t e : TypeId} {fs : Array Field} {fuel : Nat} {cs : List Value} {x : DataW H × List MemPlace} (ht : P.underlying t = some (.slice e)) (he : P.underlying e = some (.struct fs))
    (hone : oneCellFields P fs = true) (hC : P.cellsOf e = fs.size) (h : DataW.trod enc P w base spare held fuel t cs = some x) :
    (cs = [.slice none 0 0] ∧ x = (.nil, [])) ∨
    ∃ (a : Addr) (len cap m : Nat) (D : Nat → DataW H) (Pl : Nat → List MemPlace), cs = [.slice (some a) len cap] ∧ base ≤ a.block ∧ len ≤ cap ∧ cap ≤ maxLen ∧ m = (if spare a.block then cap else len) ∧
      x = (.slice ((List.range len).map D) ((List.range (m - len)).map fun j => D (len + j)), MemPlace.row a (m * fs.size) ++ (List.range m).flatMap Pl) ∧
      ∀ i, i < m → ∃ (ys : List (DataW H × List MemPlace)) (n : Nat), D i = .agg (ys.map (·.1)) ∧ Pl i = ys.flatMap (·.2) ∧ ys.length = fs.size ∧
        ∀ (j : Nat) (f : Field), fs[j]? = some f → ∃ (v : Value) (y : DataW H × List MemPlace), w.cell? (a.add (i * fs.size + j)) = some v ∧ ys[j]? = some y ∧ DataW.trod enc P w base spare held n f.type [v] = some y := by
  rcases open_slice ht h with h0 | ⟨a, len, cap, m, n, D, Pl, hcs, hb, hl, hm, hmm, hx, hi⟩
  · exact .inl h0
  · refine .inr ⟨a, len, cap, m, D, Pl, hcs, hb, hl, hm, hmm, by rw [hC] at hx; exact hx, fun i him => ?_⟩
    obtain ⟨cs', hc, ht'⟩ := hi i him
    rw [hC] at hc
    obtain ⟨ys, n', hn', hy, hlen, hyl, hf⟩ := DataW.trod_struct he ht'
    obtain ⟨_, hcl, hat⟩ := World.cells?_some hc
    simp only [Prod.mk.injEq] at hy
    refine ⟨ys, n', hy.1, hy.2, hyl, fun j f hj => ?_⟩
    obtain ⟨ho, hk⟩ := hone_of hone j f hj
    have hjl : j < fs.size := (Array.getElem?_eq_some_iff.1 hj).1
    have hcell := hat j hjl
    have hv : cs'[j]? = some (cs'[j]'(by omega)) := List.getElem?_eq_getElem (by omega)
    have h1 := hf j f hj
    rw [ho, hk] at h1
    have hone' : (cs'.drop j).take 1 = [cs'[j]'(by omega)] := by
      rw [List.drop_eq_getElem_cons (by omega)]
      rfl
    rw [hone'] at h1
    have hys : ys[j]? = some (ys[j]'(by omega)) := List.getElem?_eq_getElem (by omega)
    refine ⟨_, _, ?_, hys, h1.trans hys⟩
    rw [← Go.Deep.add_add, hcell, hv]
end
/-- a field's kind: an integer kind, a bool (true), a string (false) -/
def fieldOk : Sum IntKind Bool → Value → Prop
  | .inl k, v => ∃ n, v = .int k n ∧ (Lit.int k n).wf = true
  | .inr true, v => ∃ b, v = .bool b
  | .inr false, v => ∃ s, v = .string s ∧ s.size ≤ maxLen
/-- a slice of structs of one-cell fields: for every element and every field the cell, and what it holds -/
def StrRows (w : World) (ks : List (Sum IntKind Bool)) (a : Option Addr) (len : Nat) : Prop :=
  len ≤ maxLen ∧ ∀ i, i < len → ∃ b off, a = some ⟨b, off, none⟩ ∧ b < w.heap.size ∧ ∀ j k, ks[j]? = some k → ∃ v, w.cell? ⟨b, off + i * ks.length + j, none⟩ = some v ∧ fieldOk k v
def kindDesc : Sum IntKind Bool → TypeDesc → Bool
  | .inl k, .int k' => decide (k = k')
  | .inr true, .bool => true
  | .inr false, .string => true
  | _, _ => false
def kindsOk (P : Program) (ks : List (Sum IntKind Bool)) (fs : List Field) : Bool :=
  (ks.length == fs.length) && (ks.zip fs).all fun kf => match P.underlying kf.2.type with
    | some d => kindDesc kf.1 d
    | none => false
section
variable {H : Type} {enc : TypeId × Value → H} {P : Program} {w : World} {base : Nat} {spare : Nat → Bool} {held : Bool}
theorem field_ok {k : Sum IntKind Bool} {t : TypeId} {v : Value} {n : Nat} {y : DataW H × List MemPlace} (hk : (match P.underlying t with | some d => kindDesc k d | none => false) = true)
    (h : DataW.trod enc P w base spare held n t [v] = some y) : fieldOk k v := by
  cases hu : P.underlying t with
  | none => rw [hu] at hk; simp at hk
  | some d =>
    rw [hu] at hk
    simp only at hk
    cases k with
    | inl k => cases d with
      | int k' =>
        simp only [kindDesc, decide_eq_true_eq] at hk
        subst hk
        obtain ⟨m, hv, _, hw⟩ := DataW.trod_int hu h
        exact ⟨m, by simpa using hv, hw⟩
      | _ => simp [kindDesc] at hk
    | inr b => cases b with
      | true => cases d with
        | bool =>
          obtain ⟨m, hv, _⟩ := DataW.trod_bool hu h
          exact ⟨m, by simpa using hv⟩
        | _ => simp [kindDesc] at hk
      | false => cases d with
        | string =>
          obtain ⟨m, hv, _, hw⟩ := DataW.trod_string hu h
          exact ⟨m, by simpa using hv, hw⟩
        | _ => simp [kindDesc] at hk
theorem str_rows {t e : TypeId} {fs : Array Field} {ks : List (Sum IntKind Bool)} {a : Option Addr} {len cap : Nat} {d : DataW H} {p : List MemPlace} (ht : P.underlying t = some (.slice e)) (he : P.underlying e = some (.struct fs))
    (hone : oneCellFields P fs = true) (hC : P.cellsOf e = fs.size) (hks : kindsOk P ks fs.toList = true) (h0 : 0 < fs.size) (h : DataW.Trod enc P w base (fun _ => true) held t (.slice a len cap) d p) : StrRows w ks a len := by
  obtain ⟨fuel, hf⟩ := h
  unfold kindsOk at hks
  rw [Bool.and_eq_true, beq_iff_eq, List.all_eq_true] at hks
  obtain ⟨hl, hall⟩ := hks
  have hls : ks.length = fs.size := by simpa using hl
  rcases open_slice_fields ht he hone hC hf with ⟨hcs, _⟩ | ⟨x, l, c, m, D, Pl, hcs, _, hle, hm, hmm, _, hi⟩
  · simp [Value.cells] at hcs
    obtain ⟨rfl, rfl, rfl⟩ := hcs
    exact ⟨Nat.zero_le _, fun i hi => absurd hi (by omega)⟩
  · simp [Value.cells] at hcs
    obtain ⟨rfl, rfl, rfl⟩ := hcs
    simp only [if_true] at hmm
    refine ⟨Nat.le_trans hle hm, fun i hil => ?_⟩
    obtain ⟨ys, n, _, _, hyl, hfd⟩ := hi i (by omega)
    obtain ⟨b, off, spot⟩ := x
    have hspot : spot = none := by
      obtain ⟨_, _, _, _, _, hfd0⟩ := hi 0 (by omega)
      obtain ⟨v, y, hc, _, _⟩ := hfd0 0 fs[0] (by simp [h0])
      have := World.cell?_spot hc
      simpa [Addr.add] using this
    subst hspot
    have plain : ∀ n, (⟨b, off, none⟩ : Addr).add n = ⟨b, off + n, none⟩ := fun n => by unfold Addr.add; split <;> simp_all
    refine ⟨b, off, rfl, ?_, fun j k hk => ?_⟩
    · obtain ⟨v, y, hc, _, _⟩ := hfd 0 fs[0] (by simp [h0])
      have := cell_lt hc
      rwa [block_of_add] at this
    · have hjl : j < ks.length := (List.getElem?_eq_some_iff.1 hk).1
      obtain ⟨v, y, hc, _, hy⟩ := hfd j fs[j] (by simp [← hls, hjl])
      refine ⟨v, ?_, ?_⟩
      · rw [plain] at hc; rw [Nat.add_assoc, hls]; exact hc
      · have := hall (k, fs[j]) (by
          rw [List.mem_iff_getElem?]
          refine ⟨j, ?_⟩
          rw [List.getElem?_zip_eq_some]
          exact ⟨hk, by simp [← hls, hjl]⟩)
        exact field_ok this hy
end
end Go.Proofs.Ytengegcnocdkoaa
end
section
namespace Go.Proofs.Ytengegcnocdkoaa
open Go.RowKit
set_option maxHeartbeats 2000000 in
theorem ref_turns (s : Nat) (x y : ByteArray) (hs : s < 65536) (hx : x.size ≤ 1099511627776) (hy : y.size ≤ 1099511627776) (w : World) :
    Calls Try.prog 53 #[.int .u16 (s : Int), .string x, .string y] w fun e w' =>
      e = .returned (.int .u16 ((turnsL s ((wordsL (x.data.toList.take (min x.size y.size))).zip (wordsL (y.data.toList.take (min x.size y.size)))) : Nat) : Int)) ∧ ∃ n, w' = w.drewN n := by
  obtain ⟨n, hn⟩ : ∃ n, n = min x.size y.size := ⟨_, rfl⟩
  have hnx : n ≤ x.size := by omega
  have hny : n ≤ y.size := by omega
  have hmin : min (x.size : Int) (y.size : Int) = (n : Int) := by omega
  have HN := Lib.hid hn
  have HM := Lib.hid hmin
  clear hmin hn
  go_enter Try.func53, Try.ntmps53
  go_wp2_with fail
  first | rw [HM.out] | rw [← HN.out]
  go_loopw [8, 0] (fun i q wr => ∃ k st : Nat, k ≤ n + 1 ∧ i = .int .i64 (k : Int) ∧ q = .int .u16 (st : Int) ∧ st ≤ 65535 ∧ Hid (turnsL st ((wordsL ((x.data.toList.take n).drop k)).zip (wordsL ((y.data.toList.take n).drop k))) = turnsL s ((wordsL (x.data.toList.take n)).zip (wordsL (y.data.toList.take n)))) ∧ ∃ m, wr = w.drewN m) (fun i _ _ => n + 1 - (intOf i).toNat)
  case atStart => exact ⟨0, s, by omega, rfl, rfl, by omega, Lib.hid rfl, 0, rfl⟩
  case round =>
    obtain ⟨k, st, hk, rfl, rfl, hst, HS, m, rfl⟩ := hrel
    by_cases h : k < n
    · have hlx : k < (x.data.toList.take n).length := by simp; omega
      have hly : k < (y.data.toList.take n).length := by simp; omega
      have ex : (x.extract 0 n).data.toList = x.data.toList.take n := by rw [ByteArray.data_extract]; simp
      have ey : (y.extract 0 n).data.toList = y.data.toList.take n := by rw [ByteArray.data_extract]; simp
      have hsx : (x.extract 0 n).size = n := by simp; omega
      have hsy : (y.extract 0 n).size = n := by simp; omega
      have cx := fun w => ref_word (x.extract 0 n) k w (by omega) (by unfold maxLen; omega)
      have cy := fun w => ref_word (y.extract 0 n) k w (by omega) (by unfold maxLen; omega)
      rw [ex] at cx
      rw [ey] at cy
      have bx := wordAt_lt (x.data.toList.take n) k
      have by_ := wordAt_lt (y.data.toList.take n) k
      have hstep : (wordsL ((x.data.toList.take n).drop k)).zip (wordsL ((y.data.toList.take n).drop k)) = (wordAt (x.data.toList.take n) k, wordAt (y.data.toList.take n) k) :: (wordsL ((x.data.toList.take n).drop (k + 2))).zip (wordsL ((y.data.toList.take n).drop (k + 2))) := by
        rw [wordsL_step ((x.data.toList.take n).drop k) (by simp; omega), wordsL_step ((y.data.toList.take n).drop k) (by simp; omega), List.zip_cons_cons, List.drop_drop, List.drop_drop]
        rfl
      have hT := HS.out
      rw [hstep] at hT
      have hT2 : turnsL (turnL st (wordAt (x.data.toList.take n) k) (wordAt (y.data.toList.take n) k)) ((wordsL ((x.data.toList.take n).drop (k + 2))).zip (wordsL ((y.data.toList.take n).drop (k + 2)))) = turnsL s ((wordsL (x.data.toList.take n)).zip (wordsL (y.data.toList.take n))) := hT
      have HT := Lib.hid hT2
      generalize wordAt (x.data.toList.take n) k = p at *
      generalize wordAt (y.data.toList.take n) k = r at *
      have ct := fun w => ref_turn st p r w (by omega) bx by_
      have hle := turnL_le st p r
      generalize turnL st p r = t at *
      have CX := Lib.hid cx
      have CY := Lib.hid cy
      have CT := Lib.hid ct
      clear cx cy ct hT hT2 hstep ex ey hlx hly hsx hsy
      go_wp2
      obtain ⟨W, hW⟩ : ∃ W, W = w.drewN m := ⟨_, rfl⟩
      rw [← hW]
      have HW := Lib.hid hW
      clear hW
      have i1 : (n : Int) ≤ (x.size : Int) := by omega
      have i2 : (n : Int) ≤ (y.size : Int) := by omega
      have i3 : (0 : Int) ≤ (n : Int) := by omega
      go_quiet (first | (go_at_call 90; (with_reducible exact quiet_left (CX.out _))) | (go_at_call 90; (with_reducible exact quiet_left (CY.out _))) | (go_at_call 89; (with_reducible exact quiet_left (CT.out _))))
      go_wp2
      go_roundw
      case rel => exact ⟨k + 2, t, by omega, by go_num, rfl, hle, HT, _, by rw [HW.out]; exact World.drewN_drewN ..⟩
      case measure => simp [intOf]; omega
    · have he : (wordsL ((x.data.toList.take n).drop k)).zip (wordsL ((y.data.toList.take n).drop k)) = [] := by
        rw [List.drop_of_length_le (by simp; omega)]
        rfl
      have hT := HS.out
      rw [he] at hT
      have HT := Lib.hid (show st = _ from hT)
      clear he hT
      go_wp2
      go_ret
      exact ⟨ret_nat (by rw [HT.out, HN.out]), _, rfl⟩
end Go.Proofs.Ytengegcnocdkoaa
end
section
namespace Go.Proofs.Ytengegcnocdkoaa
open Go.RowKit Go.BigFrame
/-- the blocks of options, in memory -/
def BlR (w : World) (A : Option Addr) (l : List (Int × Int)) : Prop :=
  l = [] ∨ ∃ rb off, A = some ⟨rb, off, none⟩ ∧ rb < w.heap.size ∧ ∀ j p, l[j]? = some p → w.cell? ⟨rb, off + j * 2, none⟩ = some (.int .u32 p.1) ∧ w.cell? ⟨rb, off + j * 2 + 1, none⟩ = some (.int .u32 p.2)
theorem BlR.below {w w' : World} {A : Option Addr} {l : List (Int × Int)} (h : BlR w A l) (hb : Below w.heap.size w w') : BlR w' A l := by
  rcases h with rfl | ⟨rb, off, rfl, h1, h2⟩
  · exact .inl rfl
  · exact .inr ⟨rb, off, rfl, Nat.lt_of_lt_of_le h1 hb.size, fun j p hj => ⟨(hb.cell (p := ⟨rb, off + j * 2, none⟩) h1).trans (h2 j p hj).1, (hb.cell (p := ⟨rb, off + j * 2 + 1, none⟩) h1).trans (h2 j p hj).2⟩⟩
/-- options -/
structure Op where
  mss : Nat
  scale : Int
  sack : Bool
  bl : List (Int × Int)
  time : Bool
  val : Nat
  echo : Nat
structure Op.ok (o : Op) : Prop where
  mss : o.mss < 65536
  scale : -1 ≤ o.scale ∧ o.scale ≤ 14
  val : o.val < 4294967296
  echo : o.echo < 4294967296
  bl : ∀ p ∈ o.bl, (0 ≤ p.1 ∧ p.1 ≤ 4294967295) ∧ 0 ≤ p.2 ∧ p.2 ≤ 4294967295
def mssL (o : Op) : List UInt8 := if o.mss = 0 then [] else [2, 4] ++ be2 o.mss
def scaleL (o : Op) : List UInt8 := if o.scale < 0 then [] else [1, 3, 3, UInt8.ofNat o.scale.toNat]
def sackL (o : Op) : List UInt8 := if o.sack then [1, 1, 4, 2] else []
def timeL (o : Op) : List UInt8 := if o.time then [1, 1, 8, 10] ++ (be4 o.val ++ be4 o.echo) else []
def bheadL (n : Nat) : List UInt8 := if n = 0 then [] else [1, 1, 5, UInt8.ofNat (2 + 8 * n)]
def blksL (l : List (Int × Int)) : List UInt8 := l.flatMap fun p => be4 p.1.toNat ++ be4 p.2.toNat
def rawL (o : Op) : List UInt8 := mssL o ++ scaleL o ++ sackL o ++ timeL o ++ bheadL o.bl.length ++ blksL o.bl
def optN (o : Op) (A : Option Addr) (n c : Nat) : Array Value := #[.int .u16 (o.mss : Int), .int .i64 o.scale, .bool o.sack, .slice A n c, .bool o.time, .int .u32 (o.val : Int), .int .u32 (o.echo : Int)]
def optC (o : Op) (A : Option Addr) (c : Nat) : Array Value := #[.int .u16 (o.mss : Int), .int .i64 o.scale, .bool o.sack, .slice A o.bl.length c, .bool o.time, .int .u32 (o.val : Int), .int .u32 (o.echo : Int)]
theorem cat_str (a b : List UInt8) : (⟨a.toArray⟩ : ByteArray) ++ ⟨b.toArray⟩ = ⟨(a ++ b).toArray⟩ := by
  apply ByteArray.ext
  rw [ByteArray.data_append]
  simp
theorem new_str {W : World} {u : Value} (l : List UInt8) (cs : Array Value) (n : Nat) (hn : n = l.length) (hc : cs = (l.map u8v).toArray) (h : newRow 5 cs n [u] W) : (convert 51 9 u).run Try.prog W = .ok (.string ⟨l.toArray⟩) W := by
  obtain ⟨g, e, hk⟩ := h
  have e := (List.cons.inj e).1
  subst e hn hc
  refine run_bytes_back W ⟨g, 0, none⟩ _ _ l rfl ?_
  intro j hj
  rw [add_plain, Nat.zero_add, hk.cell j]
  simp [List.getElem?_eq_getElem hj, u8v]
/-- the class of worlds in which options lie -/
def OptS (W1 : World) (g : Nat) (cs : Array Value) (W : World) : Prop := Below W1.heap.size W1 W ∧ Blk W g 28 cs
theorem OptS.below {W1 : World} {g : Nat} {cs : Array Value} (w w' : World) (h : OptS W1 g cs w) (hb : Below w.heap.size w w') : OptS W1 g cs w' := ⟨h.1.trans (hb.mono h.1.size), h.2.below hb h.2.lt⟩
theorem OptS.drew {W1 : World} {g : Nat} {cs : Array Value} {w : World} (h : OptS W1 g cs w) : OptS W1 g cs w.drew := ⟨h.1.drew, h.2.drew⟩
theorem flow_str2 (a b : List UInt8) : (⟨#[]⟩ : ByteArray) ++ (⟨a.toArray⟩ ++ ⟨b.toArray⟩) = ⟨(a ++ b).toArray⟩ := by
  rw [show (⟨#[]⟩ : ByteArray) = ⟨([] : List UInt8).toArray⟩ from rfl, cat_str, cat_str, List.nil_append]
theorem conv_new (W : World) (l : List UInt8) (n : Nat) (cs : Array Value) (hn : n = l.length) (hc : cs = (l.map u8v).toArray) : (convert 51 9 (.slice (some ⟨W.heap.size, 0, none⟩) n n)).run Try.prog (W.alloc (.cells cs 5)) = .ok (.string ⟨l.toArray⟩) (W.alloc (.cells cs 5)) :=
  new_str l cs n hn hc ⟨_, rfl, Blk.new _ _ _⟩
theorem high32_new {S : World → Prop} (hS : ∀ w w', S w → Below w.heap.size w w' → S w') (xs : List Nat) (n : Nat) (N : Nat) (cs : Array Value) (hx : ∀ x ∈ xs, x < 4294967296) (hcs : cs = (xs.map fun (x : Nat) => Value.int .u32 (x : Int)).toArray) (hlen : xs.length ≤ 1000) (hp : xs ≠ []) (hN : N = xs.length) (x : Cls S) (u : Value) (h : newRow 22 cs N [u] x.w) :
    Calls Try.prog 86 #[.int .i64 4, u] x.w fun e w'' => e = .returned (.string ⟨(xs.flatMap be4).toArray⟩) ∧ S w'' ∧ Below x.w.heap.size x.w w'' := by
  obtain ⟨g', e, hk⟩ := h
  injection e with e
  subst e hN
  refine (ohigh32 x.w g' xs cs hx hcs hk hlen hp).mono ?_
  rintro e w'' ⟨rfl, hb⟩
  exact ⟨rfl, hS _ _ x.h hb, hb⟩
def RawRel (W1 : World) (g : Nat) (o : Op) (A : Option Addr) (n c : Nat) (L : List UInt8) (k : Nat) (s : Value) (wr : World) : Prop := k ≤ n ∧ s = .string ⟨(L ++ blksL (o.bl.take k)).toArray⟩ ∧ OptS W1 g (optN o A n c) wr
theorem blkB_ (w : World) (o : Obj) (t : TypeId) (cs : Array Value) : Blk ((w.alloc o).alloc (.cells cs t)) (w.heap.size + 1) t cs := by
  have := Blk.new (w.alloc o) t cs
  rwa [World.size_alloc] at this
theorem blks_len : ∀ l : List (Int × Int), (blksL l).length = 8 * l.length
  | [] => rfl
  | p :: r => by
    have h1 : blksL (p :: r) = (be4 p.1.toNat ++ be4 p.2.toNat) ++ blksL r := rfl
    rw [h1, List.length_append, blks_len r, List.length_cons]
    simp [be4]
    omega
set_option maxRecDepth 100000 in
set_option maxHeartbeats 4000000 in
theorem raw_any (w : World) (o : Op) (A : Option Addr) (c : Nat) (ho : o.ok) (hr : BlR w A o.bl) (hn : o.bl.length ≤ 4) :
    Calls Try.prog 58 #[.agg (optC o A c)] w fun e w' => e = .returned (.string ⟨(rawL o).toArray⟩) ∧ Below w.heap.size w w' := by
  obtain ⟨n, hne⟩ : ∃ n, n = o.bl.length := ⟨_, rfl⟩
  unfold optC
  rw [← hne]
  have i1 : (n : Int) ≤ 4 := by omega
  have i2 : (0 : Int) ≤ (n : Int) := by omega
  have hb0 : Below w.heap.size w (w.alloc (.cells (optN o A n c) 28)) := (Below.refl _ _).alloc (Nat.le_refl _) _
  have hS0 : OptS (w.alloc (.cells (optN o A n c) 28)) w.heap.size (optN o A n c) (w.alloc (.cells (optN o A n c) 28)) := ⟨Below.refl _ _, Blk.new _ _ _⟩
  have hR0 := hr.below hb0
  unfold optN at hS0 hb0 hR0
  have HO := Lib.hid ho
  have HN := Lib.hid hne
  clear ho hr hne hn
  go_enter Try.func58, Try.ntmps58
  go_upto_region 1 with fail
  obtain ⟨g, hg⟩ : ∃ g, g = w.heap.size := ⟨_, rfl⟩
  generalize hW1 : w.alloc _ = W1 at *
  rw [← hg] at hS0 ⊢
  clear hg hW1
  have hS0 : OptS W1 g (optN o A n c) W1 := hS0
  have HB := Lib.hid hb0
  have HS := Lib.hid hS0
  have HR := Lib.hid hR0
  have c0 := hS0.2.cell 0
  simp [optN] at c0
  clear hb0 hS0 hR0
  obtain ⟨m, hm⟩ : ∃ m : Int, m = (o.mss : Int) := ⟨_, rfl⟩
  obtain ⟨sc, hsc⟩ : ∃ sc : Int, sc = o.scale := ⟨_, rfl⟩
  obtain ⟨sk, hsk⟩ : ∃ sk, sk = o.sack := ⟨_, rfl⟩
  obtain ⟨tm, htm⟩ : ∃ tm, tm = o.time := ⟨_, rfl⟩
  obtain ⟨vl, hvl⟩ : ∃ vl : Int, vl = (o.val : Int) := ⟨_, rfl⟩
  obtain ⟨ec, hec⟩ : ∃ ec : Int, ec = (o.echo : Int) := ⟨_, rfl⟩
  have i3 : sc ≤ 14 := by rw [hsc]; exact HO.out.scale.2
  rw [← hm, ← hsc, ← hsk, ← htm, ← hvl, ← hec]
  rw [← hm] at c0
  have Hm := Lib.hid hm
  clear hm
  have Hsc := Lib.hid hsc
  clear hsc
  have Hsk := Lib.hid hsk
  clear hsk
  have Htm := Lib.hid htm
  clear htm
  have Hvl := Lib.hid hvl
  clear hvl
  have Hec := Lib.hid hec
  clear hec
  go_upto_if 7 with fail
  go_cut [2] from 8 to 16 (fun s wx => s = .string ⟨(mssL o).toArray⟩ ∧ OptS W1 g (optN o A n c) wx)
  case first =>
    by_cases h : m = 0
    · have h1 : (m != 0) = false := by simp [h]
      have hm0 : mssL o = [] := by unfold mssL; rw [if_pos (by have := Hm.out; omega)]
      have Hm0 := Lib.hid hm0
      clear h hm0
      go_wp2_with fail
      go_meet
      case rel => exact ⟨by rw [Hm0.out], HS.out⟩
    · have h1 : (m != 0) = true := by simp [h]
      have hm0 : mssL o = [2, 4] ++ be2 o.mss := by unfold mssL; rw [if_neg (by have := Hm.out; omega)]
      have ne : Nonempty (Cls (OptS W1 g (optN o A n c))) := ⟨⟨W1, HS.out⟩⟩
      have k0 : ∀ y : Cls (OptS W1 g (optN o A n c)), y.w.cell? ⟨g, 0, none⟩ = some (.int .u16 m) := fun y => by rw [y.h.2.cell 0, Hm.out]; rfl
      have cf : ∀ (vals : Array Value) (w : World), (callFunc 91 vals).run Try.prog w = .ok (.enter 91 vals) w := fun _ _ => by kernel_rfl
      have r1 : ∀ W : World, (Instr.buildSlice 51 2 #[(0, .int .u8 2), (1, .int .u8 4)]).run Try.prog W = .ok (.slice (some ⟨W.heap.size, 0, none⟩) 2 2) (W.alloc (.cells #[.int .u8 2, .int .u8 4] 5)) := fun _ => by kernel_rfl
      have r2 : ∀ W : World, (Instr.buildSlice 120 1 #[(0, .int .u16 m)]).run Try.prog W = .ok (.slice (some ⟨W.heap.size, 0, none⟩) 1 1) (W.alloc (.cells #[.int .u16 m] 23)) := fun _ => by kernel_rfl
      have q1 : ∀ u W, newRow 5 #[.int .u8 2, .int .u8 4] 2 [u] W → (convert 51 9 u).run Try.prog W = .ok (.string ⟨#[2, 4]⟩) W := fun u W h => new_str [2, 4] _ 2 rfl rfl h
      have hcl : ∀ (x : Cls (OptS W1 g (optN o A n c))) (u : Value), newRow 23 #[.int .u16 m] 1 [u] x.w → Calls Try.prog 91 #[.int .i64 2, u] x.w fun e w'' => e = .returned (.string ⟨(be2 o.mss).toArray⟩) ∧ OptS W1 g (optN o A n c) w'' ∧ Below x.w.heap.size x.w w'' := by
        rintro x u ⟨g', e, hk⟩
        injection e with e
        subst e
        refine (ohigh16 x.w g' [o.mss] _ (by intro y hy; simp at hy; subst hy; exact HO.out.mss) (by rw [Hm.out]; rfl) hk (by simp) (by simp)).mono ?_
        rintro e w'' ⟨rfl, hb⟩
        exact ⟨by simp, OptS.below _ _ x.h hb, hb⟩
      have z2 : (be2 o.mss).length = 2 := rfl
      have Cf := Lib.hid cf
      clear cf
      have R1 := Lib.hid r1
      clear r1
      have R2 := Lib.hid r2
      clear r2
      have Q1 := Lib.hid q1
      clear q1
      have Hcl := Lib.hid hcl
      clear hcl
      have Hm0 := Lib.hid hm0
      clear hm0
      clear h
      go_upto_region 2 with fail
      refine wp_region_flow 10 (OptS W1 g (optN o A n c)) (fun w w' => Below w.heap.size w w') (by kernel_rfl) (by kernel_rfl) (by kernel_rfl) (fun w => Below.refl _ _) HS.out.drew ?_
      simp only [List.take_succ_cons, List.take_zero, List.drop_succ_cons, List.drop_zero]
      refine flow_quiet (fun w => Below.refl _ _) rfl rfl rfl rfl ?_; intro K hK; go_big_quiet_op; go_big_quiet_on
      refine flow_build (E := 5) _ ?_ _ R1.out OptS.below rfl rfl rfl W1 ?_
      focus (simp only [List.map_toArray, List.map_cons, List.map_nil]; rfl)
      intro K hK; go_big_quiet_op; go_big_quiet_on
      refine flow_conv (.string ⟨#[2, 4]⟩) 0 rfl rfl rfl (by simp) (fun w => Below.refl _ _) Q1.out rfl rfl W1 ?_
      intro K hK; go_big_quiet_op; go_big_quiet_on
      refine flow_quiet (fun w => Below.refl _ _) rfl rfl rfl rfl ?_; intro K hK; go_big_quiet_op; go_big_quiet_on
      refine flow_quiet (fun w => Below.refl _ _) rfl rfl rfl rfl ?_; intro K hK; go_big_quiet_op; go_big_quiet_on
      refine flow_build (E := 23) _ ?_ _ R2.out OptS.below rfl rfl rfl W1 ?_
      focus (simp only [List.map_toArray, List.map_cons, List.map_nil]; rfl)
      intro K hK; go_big_quiet_op; go_big_quiet_on
      refine flow_callY Cf.out (.string ⟨(be2 o.mss).toArray⟩) (fun u => #[.int .i64 2, u]) 0 rfl rfl (fun f' => rfl) Hcl.out rfl rfl W1 ?_
      intro K hK; go_big_quiet_op; go_big_quiet_on
      repeat (refine flow_quiet (fun w => Below.refl _ _) rfl rfl rfl rfl ?_; intro K hK; go_big_quiet_op; go_big_quiet_on)
      refine flow_nil ?_
      intro W f hW hF
      clear hF
      simp only [fillW, Act.put, List.setIfInBounds_toArray, List.set_cons_succ, List.set_cons_zero]
      go_wp2_with fail
      go_meet
      case rel => exact ⟨by rw [Hm0.out, show (⟨#[2, 4]⟩ : ByteArray) = ⟨[2, 4].toArray⟩ from rfl, flow_str2], hW⟩
  case rest =>
    obtain ⟨rfl, hS⟩ := hcut
    obtain ⟨L1, hL1⟩ : ∃ L1, L1 = mssL o := ⟨_, rfl⟩
    have hz1 : L1.length ≤ 4 := by rw [hL1]; unfold mssL; split <;> simp [be2]
    rw [← hL1]
    have c1 := hS.2.cell 1
    simp [optN] at c1
    rw [← Hsc.out] at c1
    have HL1 := Lib.hid hL1
    have HS := Lib.hid hS
    clear hL1 hS c0
    go_upto_if 19 with fail
    go_cut [2] from 20 to 26 (fun s wx => s = .string ⟨(L1 ++ scaleL o).toArray⟩ ∧ OptS W1 g (optN o A n c) wx)
    case first =>
      by_cases h : 0 ≤ sc
      · have hcv := conv_new wc [1, 3, 3, UInt8.ofNat sc.toNat] 4 #[.int .u8 1, .int .u8 3, .int .u8 3, .int .u8 sc] rfl (by simp [u8v]; omega)
        have hs0 : scaleL o = [1, 3, 3, UInt8.ofNat sc.toNat] := by unfold scaleL; rw [if_neg (by have := Hsc.out; omega), Hsc.out]
        have hW := OptS.below _ _ HS.out ((Below.refl wc.heap.size wc).alloc (Nat.le_refl _) (.cells #[.int .u8 1, .int .u8 3, .int .u8 3, .int .u8 sc] 5))
        have Hs0 := Lib.hid hs0
        clear hs0
        have HW := Lib.hid hW
        clear hW
        go_wp2_with fail
        go_meet
        case rel => exact ⟨by rw [Hs0.out]; exact congrArg Value.string (cat_str _ _), HW.out⟩
      · have hs0 : scaleL o = [] := by unfold scaleL; rw [if_pos (by have := Hsc.out; omega)]
        have Hs0 := Lib.hid hs0
        clear hs0
        go_wp2_with fail
        go_meet
        case rel => exact ⟨by rw [Hs0.out, List.append_nil], HS.out⟩
    case rest =>
      clear HS c1
      obtain ⟨rfl, hS⟩ := hcut
      obtain ⟨L2, hL2⟩ : ∃ L2, L2 = L1 ++ scaleL o := ⟨_, rfl⟩
      have hz2 : L2.length ≤ 8 := by
        have h1 : (scaleL o).length ≤ 4 := by unfold scaleL; split <;> simp
        rw [hL2, List.length_append]
        omega
      rw [← hL2]
      have c2 := hS.2.cell 2
      simp [optN] at c2
      rw [← Hsk.out] at c2
      have HL2 := Lib.hid hL2
      have HS := Lib.hid hS
      clear hL2 hS hz1
      go_upto_if 28 with fail
      go_cut [2] from 29 to 32 (fun s wx => s = .string ⟨(L2 ++ sackL o).toArray⟩ ∧ OptS W1 g (optN o A n c) wx)
      case first =>
        cases sk with
        | true =>
          have hcv := conv_new wc [1, 1, 4, 2] 4 #[.int .u8 1, .int .u8 1, .int .u8 4, .int .u8 2] rfl rfl
          have hs0 : sackL o = [1, 1, 4, 2] := by unfold sackL; rw [← Hsk.out]; rfl
          have hW := OptS.below _ _ HS.out ((Below.refl wc.heap.size wc).alloc (Nat.le_refl _) (.cells #[.int .u8 1, .int .u8 1, .int .u8 4, .int .u8 2] 5))
          have Hs0 := Lib.hid hs0
          clear hs0
          have HW := Lib.hid hW
          clear hW
          go_wp2_with fail
          go_meet
          case rel => exact ⟨by rw [Hs0.out]; exact congrArg Value.string (cat_str _ _), HW.out⟩
        | false =>
          have hs0 : sackL o = [] := by unfold sackL; rw [← Hsk.out]; rfl
          have Hs0 := Lib.hid hs0
          clear hs0
          go_wp2_with fail
          go_meet
          case rel => exact ⟨by rw [Hs0.out, List.append_nil], HS.out⟩
      case rest =>
        clear HS c2
        obtain ⟨rfl, hS⟩ := hcut
        obtain ⟨L3, hL3⟩ : ∃ L3, L3 = L2 ++ sackL o := ⟨_, rfl⟩
        have hz3 : L3.length ≤ 12 := by
          have h1 : (sackL o).length ≤ 4 := by unfold sackL; split <;> simp
          rw [hL3, List.length_append]
          omega
        rw [← hL3]
        have c4 := hS.2.cell 4
        simp [optN] at c4
        rw [← Htm.out] at c4
        have HL3 := Lib.hid hL3
        have HS := Lib.hid hS
        clear hL3 hS hz2
        go_upto_if 34 with fail
        go_cut [2] from 35 to 45 (fun s wx => s = .string ⟨(L3 ++ timeL o).toArray⟩ ∧ OptS W1 g (optN o A n c) wx)
        case first =>
          cases tm with
          | true =>
            have hs0 : timeL o = [1, 1, 8, 10] ++ ([o.val, o.echo].flatMap be4) := by unfold timeL; rw [← Htm.out]; rfl
            have ne : Nonempty (Cls (OptS W1 g (optN o A n c))) := ⟨⟨wc, HS.out⟩⟩
            have k5 : ∀ y : Cls (OptS W1 g (optN o A n c)), y.w.cell? ⟨g, 5, none⟩ = some (.int .u32 vl) := fun y => by rw [y.h.2.cell 5, Hvl.out]; rfl
            have k6 : ∀ y : Cls (OptS W1 g (optN o A n c)), y.w.cell? ⟨g, 6, none⟩ = some (.int .u32 ec) := fun y => by rw [y.h.2.cell 6, Hec.out]; rfl
            have cf : ∀ (vals : Array Value) (w : World), (callFunc 86 vals).run Try.prog w = .ok (.enter 86 vals) w := fun _ _ => by kernel_rfl
            have r1 : ∀ W : World, (Instr.buildSlice 51 4 #[(0, .int .u8 1), (1, .int .u8 1), (2, .int .u8 8), (3, .int .u8 10)]).run Try.prog W = .ok (.slice (some ⟨W.heap.size, 0, none⟩) 4 4) (W.alloc (.cells #[.int .u8 1, .int .u8 1, .int .u8 8, .int .u8 10] 5)) := fun _ => by kernel_rfl
            have r2 : ∀ W : World, (Instr.buildSlice 125 2 #[(0, .int .u32 vl), (1, .int .u32 ec)]).run Try.prog W = .ok (.slice (some ⟨W.heap.size, 0, none⟩) 2 2) (W.alloc (.cells #[.int .u32 vl, .int .u32 ec] 22)) := fun _ => by kernel_rfl
            have q1 : ∀ u W, newRow 5 #[.int .u8 1, .int .u8 1, .int .u8 8, .int .u8 10] 4 [u] W → (convert 51 9 u).run Try.prog W = .ok (.string ⟨#[1, 1, 8, 10]⟩) W := fun u W h => new_str [1, 1, 8, 10] _ 4 rfl rfl h
            have hcl := high32_new (S := OptS W1 g (optN o A n c)) OptS.below [o.val, o.echo] 2 2 #[.int .u32 vl, .int .u32 ec] (by intro y hy; simp at hy; rcases hy with rfl | rfl; exact HO.out.val; exact HO.out.echo) (by rw [Hvl.out, Hec.out]; rfl) (by simp) (by simp) rfl
            obtain ⟨b8, hb8⟩ : ∃ b8, b8 = [o.val, o.echo].flatMap be4 := ⟨_, rfl⟩
            rw [← hb8] at hcl hs0
            have zb8 : b8.length = 8 := by rw [hb8]; rfl
            clear hb8
            have Cf := Lib.hid cf
            clear cf
            have R1 := Lib.hid r1
            clear r1
            have R2 := Lib.hid r2
            clear r2
            have Q1 := Lib.hid q1
            clear q1
            have Hcl := Lib.hid hcl
            clear hcl
            have Hs0 := Lib.hid hs0
            clear hs0
            go_upto_region 8 with fail
            refine wp_region_flow 12 (OptS W1 g (optN o A n c)) (fun w w' => Below w.heap.size w w') (by kernel_rfl) (by kernel_rfl) (by kernel_rfl) (fun w => Below.refl _ _) HS.out.drew ?_
            simp only [List.take_succ_cons, List.take_zero, List.drop_succ_cons, List.drop_zero]
            refine flow_quiet (fun w => Below.refl _ _) rfl rfl rfl rfl ?_; intro K hK; go_big_quiet_op; go_big_quiet_on
            refine flow_build (E := 5) _ ?_ _ R1.out OptS.below rfl rfl rfl W1 ?_
            focus (simp only [List.map_toArray, List.map_cons, List.map_nil]; rfl)
            intro K hK; go_big_quiet_op; go_big_quiet_on
            refine flow_conv (.string ⟨#[1, 1, 8, 10]⟩) 0 rfl rfl rfl (by simp) (fun w => Below.refl _ _) Q1.out rfl rfl W1 ?_
            intro K hK; go_big_quiet_op; go_big_quiet_on
            iterate 4 (refine flow_quiet (fun w => Below.refl _ _) rfl rfl rfl rfl ?_; intro K hK; go_big_quiet_op; go_big_quiet_on)
            refine flow_build (E := 22) _ ?_ _ R2.out OptS.below rfl rfl rfl W1 ?_
            focus (simp only [List.map_toArray, List.map_cons, List.map_nil]; rfl)
            intro K hK; go_big_quiet_op; go_big_quiet_on
            refine flow_callY Cf.out (.string ⟨b8.toArray⟩) (fun u => #[.int .i64 4, u]) 0 rfl rfl (fun f' => rfl) Hcl.out rfl rfl W1 ?_
            intro K hK; go_big_quiet_op; go_big_quiet_on
            repeat (refine flow_quiet (fun w => Below.refl _ _) rfl rfl rfl rfl ?_; intro K hK; go_big_quiet_op; go_big_quiet_on)
            refine flow_nil ?_
            intro W f hW hF
            clear hF
            simp only [fillW, Act.put, List.setIfInBounds_toArray, List.set_cons_succ, List.set_cons_zero]
            go_wp2_with fail
            go_meet
            case rel => exact ⟨by rw [Hs0.out, show (⟨#[1, 1, 8, 10]⟩ : ByteArray) = ⟨[1, 1, 8, 10].toArray⟩ from rfl, cat_str, cat_str], hW⟩
          | false =>
            have hs0 : timeL o = [] := by unfold timeL; rw [← Htm.out]; rfl
            have Hs0 := Lib.hid hs0
            clear hs0
            go_wp2_with fail
            go_meet
            case rel => exact ⟨by rw [Hs0.out, List.append_nil], HS.out⟩
        case rest =>
          clear HS c4
          obtain ⟨rfl, hS⟩ := hcut
          obtain ⟨L4, hL4⟩ : ∃ L4, L4 = L3 ++ timeL o := ⟨_, rfl⟩
          have hz4 : L4.length ≤ 24 := by
            have h1 : (timeL o).length ≤ 12 := by unfold timeL; split <;> simp [be4]
            rw [hL4, List.length_append]
            omega
          rw [← hL4]
          have c3 := hS.2.cell 3
          simp [optN] at c3
          have HL4 := Lib.hid hL4
          have HS := Lib.hid hS
          clear hL4 hS hz3
          go_upto_if 49 with fail
          go_cut [2] from 50 to 59 (fun s wx => s = .string ⟨(L4 ++ bheadL n).toArray⟩ ∧ OptS W1 g (optN o A n c) wx)
          case first =>
            by_cases h : 0 < n
            · have i5 : (0 : Int) < (n : Int) := by omega
              have hcv := conv_new wc [1, 1, 5, UInt8.ofNat (2 + 8 * n)] 4 #[.int .u8 1, .int .u8 1, .int .u8 5, .int .u8 (2 + 8 * (n : Int))] rfl (by simp [u8v]; omega)
              have hs0 : bheadL n = [1, 1, 5, UInt8.ofNat (2 + 8 * n)] := by unfold bheadL; rw [if_neg (by omega)]
              obtain ⟨bn, hbn⟩ : ∃ bn, bn = UInt8.ofNat (2 + 8 * n) := ⟨_, rfl⟩
              rw [← hbn] at hcv hs0
              clear hbn
              have hW := OptS.below _ _ HS.out ((Below.refl wc.heap.size wc).alloc (Nat.le_refl _) (.cells #[.int .u8 1, .int .u8 1, .int .u8 5, .int .u8 (2 + 8 * (n : Int))] 5))
              have Hs0 := Lib.hid hs0
              clear hs0
              have HW := Lib.hid hW
              clear hW
              clear h
              go_wp2_with fail
              go_meet
              case rel => exact ⟨by rw [Hs0.out]; exact congrArg Value.string (cat_str _ _), HW.out⟩
            · have i5 : (n : Int) = 0 := by omega
              have hs0 : bheadL n = [] := by unfold bheadL; rw [if_pos (by omega)]
              have i6 : decide ((0 : Int) < (n : Int)) = false := by simp; omega
              have i7 : decide (0 < n) = false := by simpa using h
              have Hs0 := Lib.hid hs0
              clear hs0
              clear i5
              go_wp2_with fail
              go_meet
              case rel => exact ⟨by rw [Hs0.out, List.append_nil], HS.out⟩
          case rest =>
            clear HS c3
            obtain ⟨rfl, hS⟩ := hcut
            obtain ⟨L5, hL5⟩ : ∃ L5, L5 = L4 ++ bheadL n := ⟨_, rfl⟩
            have hz5 : L5.length ≤ 28 := by
              have h1 : (bheadL n).length ≤ 4 := by unfold bheadL; split <;> simp
              rw [hL5, List.length_append]
              omega
            rw [← hL5]
            have hraw : rawL o = L5 ++ blksL o.bl := by
              rw [hL5, HL4.out, HL3.out, HL2.out, HL1.out, HN.out]
              rfl
            have hrel0 : RawRel W1 g o A n c L5 0 (.string ⟨L5.toArray⟩) wc := ⟨Nat.zero_le _, by simp [blksL], hS⟩
            have c3 := hS.2.cell 3
            simp [optN] at c3
            have Hraw := Lib.hid hraw
            clear hraw
            have Hrel0 := Lib.hid hrel0
            clear hrel0
            have HL5 := Lib.hid hL5
            clear hL5
            clear hS hz4
            go_wp2
            go_loopw [63, 2] (fun i s wr => ∃ k : Nat, i = .int .i64 (k : Int) ∧ RawRel W1 g o A n c L5 k s wr) (fun i _ _ => n - (intOf i).toNat)
            case atStart => exact ⟨0, rfl, Hrel0.out⟩
            case round =>
              clear Hrel0 c3
              obtain ⟨k, rfl, hk, rfl, hS⟩ := hrel
              by_cases hlt : k < n
              · have j1 : (k : Int) < (n : Int) := by omega
                have hkl : k < o.bl.length := by rw [← HN.out]; exact hlt
                obtain ⟨p, hp⟩ : ∃ p, o.bl[k]? = some p := ⟨o.bl[k], List.getElem?_eq_getElem hkl⟩
                have hpm : p ∈ o.bl := List.mem_of_getElem? hp
                obtain ⟨⟨b1, b2⟩, b3, b4⟩ := HO.out.bl p hpm
                have hA : ∃ rb off, A = some ⟨rb, off, none⟩ ∧ rb < wr.heap.size ∧ wr.cell? ⟨rb, off + k * 2, none⟩ = some (.int .u32 p.1) ∧ wr.cell? ⟨rb, off + k * 2 + 1, none⟩ = some (.int .u32 p.2) := by
                  rcases HR.out.below hS.1 with h | ⟨rb, off, h1, h2, h3⟩
                  · rw [h] at hkl; simp at hkl
                  · exact ⟨rb, off, h1, h2, h3 k p hp⟩
                obtain ⟨rb, off, hA, hrb, e0, e1⟩ := hA
                subst hA
                have htk : o.bl.take (k + 1) = o.bl.take k ++ [p] := by rw [List.take_add_one, hp]; rfl
                have hbl : blksL (o.bl.take (k + 1)) = blksL (o.bl.take k) ++ ([p.1.toNat, p.2.toNat].flatMap be4) := by
                  rw [htk]
                  unfold blksL
                  rw [List.flatMap_append]
                  simp
                have hlen : (blksL (o.bl.take k)).length ≤ 32 := by
                  rw [blks_len]
                  have := List.length_take_le k o.bl
                  omega
                have hcl : ∀ W g (hk : Blk W g 22 #[.int .u32 p.1, .int .u32 p.2]), Calls Try.prog 86 #[.int .i64 4, .slice (some ⟨g, 0, none⟩) 2 2] W fun e w' => e = .returned (.string ⟨([p.1.toNat, p.2.toNat].flatMap be4).toArray⟩) ∧ Below W.heap.size W w' := fun W g hk => ohigh32 W g [p.1.toNat, p.2.toNat] #[.int .u32 p.1, .int .u32 p.2] (by intro y hy; simp at hy; rcases hy with rfl | rfl <;> omega) (by simp; omega) hk (by simp) (by simp)
                obtain ⟨b8, hb8⟩ : ∃ b8, b8 = [p.1.toNat, p.2.toNat].flatMap be4 := ⟨_, rfl⟩
                rw [← hb8] at hcl hbl
                have zb8 : b8.length = 8 := by rw [hb8]; rfl
                obtain ⟨Lk, hLk⟩ : ∃ Lk, Lk = L5 ++ blksL (o.bl.take k) := ⟨_, rfl⟩
                have hzk : Lk.length ≤ 60 := by rw [hLk, List.length_append]; omega
                have hnext : ∀ W, OptS W1 g (optN o (some ⟨rb, off, none⟩) n c) W → RawRel W1 g o (some ⟨rb, off, none⟩) n c L5 (k + 1) (.string (⟨Lk.toArray⟩ ++ ⟨b8.toArray⟩)) W := fun W h => ⟨hlt, by rw [hbl, cat_str, hLk, List.append_assoc], h⟩
                rw [← hLk]
                obtain ⟨p1, p2⟩ := p
                simp only at e0 e1 hcl b1 b2 b3 b4
                have Hcl := Lib.hid hcl
                have Hnext := Lib.hid hnext
                have HS := Lib.hid hS
                clear hcl hnext hS hLk hbl htk hp hpm hb8 hlen hkl hlt hk
                go_wp2_with fail
                with_reducible refine (Hcl.out _ _ (blkB_ _ _ _ _)).mono ?_
                rintro e w9 ⟨rfl, hb9⟩
                have hst := OptS.below _ _ (OptS.below _ _ HS.out (((Below.refl wr.heap.size wr).alloc (Nat.le_refl _) (.cells #[.int .u32 p1, .int .u32 p2] 92)).alloc (by simp) (.cells #[.int .u32 p1, .int .u32 p2] 22))) hb9
                have Hr := Lib.hid (Hnext.out w9 hst)
                clear hst hb9
                go_wp2
                go_roundw
                case rel => exact ⟨k + 1, by go_num, Hr.out⟩
                case measure => simp [intOf]; omega
              · have hke : k = n := by omega
                have j1 : (n : Int) ≤ (k : Int) := by omega
                have hall : o.bl.take k = o.bl := List.take_of_length_le (by rw [← HN.out]; omega)
                rw [hall, ← Hraw.out]
                have hb := HB.out.trans (hS.1.mono HB.out.size)
                have HF := Lib.hid hb
                clear hall hb hS hke hlt hk
                go_wp2
                go_ret
                exact ⟨rfl, HF.out⟩
end Go.Proofs.Ytengegcnocdkoaa
end
section
namespace Go.Proofs.Ytengegcnocdkoaa
open Go.RowKit Go.BigFrame
structure Op.wf (o : Op) : Prop where
  mss : o.mss < 65536
  scale : (Lit.int .i64 o.scale).wf = true
  val : o.val < 4294967296
  echo : o.echo < 4294967296
  bl : ∀ p ∈ o.bl, (0 ≤ p.1 ∧ p.1 ≤ 4294967295) ∧ 0 ≤ p.2 ∧ p.2 ≤ 4294967295
theorem Op.wf.ok {o : Op} (h : o.wf) (h1 : -1 ≤ o.scale) (h2 : o.scale ≤ 14) : o.ok := ⟨h.mss, ⟨h1, h2⟩, h.val, h.echo, h.bl⟩
def mayB (o : Op) : Bool := decide (-1 ≤ o.scale) && (decide (o.scale ≤ 14) && (decide (o.bl.length ≤ 4) && ((o.time || (o.val == 0 && o.echo == 0)) && decide ((rawL o).length ≤ 40))))
set_option maxRecDepth 100000 in
set_option maxHeartbeats 4000000 in
theorem may_any (w : World) (o : Op) (A : Option Addr) (c : Nat) (ho : o.wf) (hr : BlR w A o.bl) (hn : o.bl.length ≤ 1000) :
    Calls Try.prog 34 #[.agg (optC o A c)] w fun e w' => e = .returned (.bool (mayB o)) ∧ Below w.heap.size w w' := by
  obtain ⟨n, hne⟩ : ∃ n, n = o.bl.length := ⟨_, rfl⟩
  unfold optC
  rw [← hne]
  have i1 : (n : Int) ≤ 1000 := by omega
  have i2 : (0 : Int) ≤ (n : Int) := by omega
  have hb0 : Below w.heap.size w (w.alloc (.cells (optN o A n c) 28)) := (Below.refl _ _).alloc (Nat.le_refl _) _
  have hS0 : Blk (w.alloc (.cells (optN o A n c) 28)) w.heap.size 28 (optN o A n c) := Blk.new _ _ _
  have hR0 := hr.below hb0
  have hcl : ∀ W, BlR W A o.bl → -1 ≤ o.scale → o.scale ≤ 14 → o.bl.length ≤ 4 → Calls Try.prog 58 #[.agg #[.int .u16 (o.mss : Int), .int .i64 o.scale, .bool o.sack, .slice A n c, .bool o.time, .int .u32 (o.val : Int), .int .u32 (o.echo : Int)]] W fun e w' => e = .returned (.string ⟨(rawL o).toArray⟩) ∧ Below W.heap.size W w' := by
    intro W h1 h2 h3 h4
    rw [hne]
    exact raw_any W o A c (ho.ok h2 h3) h1 h4
  have hmay : mayB o = (decide (-1 ≤ o.scale) && (decide (o.scale ≤ 14) && (decide (n ≤ 4) && ((o.time || (o.val == 0 && o.echo == 0)) && decide (((⟨(rawL o).toArray⟩ : ByteArray).size) ≤ 40))))) := by
    rw [hne]
    have : (⟨(rawL o).toArray⟩ : ByteArray).size = (rawL o).length := rfl
    rw [this]
    rfl
  generalize (⟨(rawL o).toArray⟩ : ByteArray) = q at *
  rw [hmay]
  unfold optN at hS0 hb0 hR0
  have hv0 : (o.val == 0) = ((o.val : Int) == 0) := by rw [Bool.eq_iff_iff]; simp
  have he0 : (o.echo == 0) = ((o.echo : Int) == 0) := by rw [Bool.eq_iff_iff]; simp
  rw [hv0, he0]
  rw [hne.symm] at hcl
  clear hmay hv0 he0 hne ho hr hn
  generalize (o.mss : Int) = m at *
  generalize (o.val : Int) = vl at *
  generalize (o.echo : Int) = ec at *
  generalize o.scale = sc at *
  generalize o.sack = sk at *
  generalize o.time = tm at *
  have Hcl := Lib.hid hcl
  clear hcl
  go_enter Try.func34, Try.ntmps34
  go_upto_region 1 with fail
  obtain ⟨g, hg⟩ : ∃ g, g = w.heap.size := ⟨_, rfl⟩
  generalize hW1 : w.alloc _ = W1 at *
  rw [← hg] at hS0 ⊢
  clear hg hW1
  have HB := Lib.hid hb0
  have HR := Lib.hid hR0
  have c0 := hS0.cell 0
  have c1 := hS0.cell 1
  have c2 := hS0.cell 2
  have c3 := hS0.cell 3
  have c4 := hS0.cell 4
  have c5 := hS0.cell 5
  have c6 := hS0.cell 6
  simp at c0 c1 c2 c3 c4 c5 c6
  clear hb0 hR0 hS0
  by_cases q1 : -1 ≤ sc
  · by_cases q2 : sc ≤ 14
    · by_cases q3 : n ≤ 4
      · have j3 : (n : Int) ≤ 4 := by omega
        cases tm with
        | true =>
          go_wp2_with fail
          with_reducible refine (Hcl.out _ HR.out q1 q2 q3).mono ?_
          rintro e w9 ⟨rfl, hb9⟩
          have hF := HB.out.trans (hb9.mono HB.out.size)
          have HF := Lib.hid hF
          clear hF hb9
          go_wp2
          go_ret
          exact ⟨ret_bool (by simp [q1, q2, q3] <;> omega), HF.out⟩
        | false =>
          by_cases q4 : vl = 0
          · by_cases q5 : ec = 0
            · subst q4 q5
              go_wp2_with fail
              with_reducible refine (Hcl.out _ HR.out q1 q2 q3).mono ?_
              rintro e w9 ⟨rfl, hb9⟩
              have hF := HB.out.trans (hb9.mono HB.out.size)
              have HF := Lib.hid hF
              clear hF hb9
              go_wp2
              go_ret
              exact ⟨ret_bool (by simp [q1, q2, q3] <;> omega), HF.out⟩
            · have j5 : (ec == 0) = false := by simpa using q5
              subst q4
              go_wp2
              go_ret
              exact ⟨ret_bool (by simp [q5] <;> omega), HB.out⟩
          · have j4 : (vl == 0) = false := by simpa using q4
            go_wp2
            go_ret
            exact ⟨ret_bool (by simp [q4] <;> omega), HB.out⟩
      · have j3 : (4 : Int) < (n : Int) := by omega
        go_wp2
        go_ret
        exact ⟨ret_bool (by simp [q3] <;> omega), HB.out⟩
    · have j2 : 14 < sc := by omega
      go_wp2
      go_ret
      exact ⟨ret_bool (by simp [q2] <;> omega), HB.out⟩
  · have j1 : sc < -1 := by omega
    go_wp2
    go_ret
    exact ⟨ret_bool (by simp [q1] <;> omega), HB.out⟩
end Go.Proofs.Ytengegcnocdkoaa
end
section
namespace Go.Proofs.Ytengegcnocdkoaa
open Go.RowKit Go.BigFrame
/-- how many bits a number below 8 has -/
def ones3 (k : Nat) : Nat := k % 2 + k / 2 % 2 + k / 4 % 2
set_option maxRecDepth 100000 in
theorem ones_k0 (w : World) : Calls Try.prog 39 #[.int .u8 0] w fun e w' => e = .returned (.int .i64 0) ∧ w = w' := by
  go_enter Try.func39, Try.ntmps39
  go_wp2
  go_ret
  exact ⟨by kernel_rfl, rfl⟩
set_option maxRecDepth 100000 in
theorem ones_k1 (w : World) : Calls Try.prog 39 #[.int .u8 1] w fun e w' => e = .returned (.int .i64 1) ∧ w = w' := by
  go_enter Try.func39, Try.ntmps39
  go_wp2
  go_ret
  exact ⟨by kernel_rfl, rfl⟩
set_option maxRecDepth 100000 in
theorem ones_k2 (w : World) : Calls Try.prog 39 #[.int .u8 2] w fun e w' => e = .returned (.int .i64 1) ∧ w = w' := by
  go_enter Try.func39, Try.ntmps39
  go_wp2
  go_ret
  exact ⟨by kernel_rfl, rfl⟩
set_option maxRecDepth 100000 in
theorem ones_k3 (w : World) : Calls Try.prog 39 #[.int .u8 3] w fun e w' => e = .returned (.int .i64 2) ∧ w = w' := by
  go_enter Try.func39, Try.ntmps39
  go_wp2
  go_ret
  exact ⟨by kernel_rfl, rfl⟩
set_option maxRecDepth 100000 in
theorem ones_k4 (w : World) : Calls Try.prog 39 #[.int .u8 4] w fun e w' => e = .returned (.int .i64 1) ∧ w = w' := by
  go_enter Try.func39, Try.ntmps39
  go_wp2
  go_ret
  exact ⟨by kernel_rfl, rfl⟩
set_option maxRecDepth 100000 in
theorem ones_k5 (w : World) : Calls Try.prog 39 #[.int .u8 5] w fun e w' => e = .returned (.int .i64 2) ∧ w = w' := by
  go_enter Try.func39, Try.ntmps39
  go_wp2
  go_ret
  exact ⟨by kernel_rfl, rfl⟩
set_option maxRecDepth 100000 in
theorem ones_k6 (w : World) : Calls Try.prog 39 #[.int .u8 6] w fun e w' => e = .returned (.int .i64 2) ∧ w = w' := by
  go_enter Try.func39, Try.ntmps39
  go_wp2
  go_ret
  exact ⟨by kernel_rfl, rfl⟩
set_option maxRecDepth 100000 in
theorem ones_k7 (w : World) : Calls Try.prog 39 #[.int .u8 7] w fun e w' => e = .returned (.int .i64 3) ∧ w = w' := by
  go_enter Try.func39, Try.ntmps39
  go_wp2
  go_ret
  exact ⟨by kernel_rfl, rfl⟩
theorem bits_any (k : Nat) (hk : k < 8) (w : World) : Calls Try.prog 39 #[.int .u8 (k : Int)] w fun e w' => e = .returned (.int .i64 (ones3 k : Int)) ∧ w = w' := by
  match k, hk with
  | 0, _ => exact ones_k0 w
  | 1, _ => exact ones_k1 w
  | 2, _ => exact ones_k2 w
  | 3, _ => exact ones_k3 w
  | 4, _ => exact ones_k4 w
  | 5, _ => exact ones_k5 w
  | 6, _ => exact ones_k6 w
  | 7, _ => exact ones_k7 w
def flagsB (f : Nat) : Bool := decide (f < 32) && decide (ones3 (f % 8) ≤ 1)
theorem and224 : ∀ f, f < 256 → (f &&& 224 = 0 ↔ f < 32) := by decide +kernel
theorem andNot31 (f : Nat) (hf : f < 256) : ∃ a : Int, bits .andNot .u8 (f : Int) 31 = a ∧ (a = 0 ↔ f < 32) := by
  refine ⟨_, u8_andNot_nat f 31 hf (by decide), ?_⟩
  show ((f &&& 224 : Nat) : Int) = 0 ↔ _
  rw [← and224 f hf]
  exact ⟨fun h => Int.ofNat_eq_zero.1 h, fun h => by rw [h]; rfl⟩
set_option maxHeartbeats 1000000 in
theorem flags_any (f : Nat) (hf : f < 256) (w : World) : Calls Try.prog 33 #[.int .u8 (f : Int)] w fun e w' => e = .returned (.bool (flagsB f)) ∧ w = w' := by
  obtain ⟨a, h1, h2⟩ := andNot31 f hf
  have h7 : bits .and .u8 (f : Int) 7 = ((f % 8 : Nat) : Int) := by
    have := u8_and_nat f 7 hf (by decide)
    rw [Nat.and_two_pow_sub_one_eq_mod f 3] at this
    exact this
  have ho := bits_any (f % 8) (Nat.mod_lt _ (by decide)) w
  obtain ⟨k, hk⟩ : ∃ k : Int, k = ((f % 8 : Nat) : Int) := ⟨_, rfl⟩
  obtain ⟨q, hq⟩ : ∃ q, q = ones3 (f % 8) := ⟨_, rfl⟩
  have hfb : flagsB f = (decide (f < 32) && decide ((q : Int) ≤ 1)) := by
    unfold flagsB
    rw [← hq]
    congr 1
    apply decide_eq_decide.2
    omega
  rw [hfb]
  rw [← hk] at h7 ho
  rw [← hq] at ho
  have Ho := Lib.hid ho
  by_cases h : f < 32
  · have h3 : a = 0 := h2.2 h
    subst h3
    have hd : decide (f < 32) = true := by simpa using h
    rw [hd]
    generalize (f : Int) = F at *
    clear h2 ho hk hq hfb hd h
    go_enter Try.func33, Try.ntmps33
    go_wp2_with fail
    (with_reducible refine (Ho.out).mono ?_)
    rintro e w' ⟨rfl, rfl⟩
    go_wp2
    go_ret
    exact ⟨ret_bool (by simp), rfl⟩
  · have h3 : a ≠ 0 := fun e => h (h2.1 e)
    have h4 : (a == 0) = false := by simpa using h3
    have hd : decide (f < 32) = false := by simpa using h
    rw [hd]
    generalize (f : Int) = F at *
    clear h2 ho hk hq hfb hd h h3
    go_enter Try.func33, Try.ntmps33
    go_wp2
    go_ret
    exact ⟨ret_bool (by simp), rfl⟩
def bitI (b : Bool) : Int := if b then 1 else 0
set_option maxHeartbeats 1000000 in
theorem rflags_any (f : Nat) (hf : f < 256) (w : World) : Calls Try.prog 35 #[.int .u8 (f : Int)] w fun e w' => e = .returned (.bool (flagsB f)) ∧ Below w.heap.size w w' := by
  obtain ⟨b0, hb0⟩ : ∃ b0, b0 = (bits .and .u8 (f : Int) 1 != 0) := ⟨_, rfl⟩
  obtain ⟨b1, hb1⟩ : ∃ b1, b1 = (bits .and .u8 (f : Int) 2 != 0) := ⟨_, rfl⟩
  obtain ⟨b2, hb2⟩ : ∃ b2, b2 = (bits .and .u8 (f : Int) 4 != 0) := ⟨_, rfl⟩
  have hsum : ∀ f, f < 256 → (if f &&& 1 = 0 then 0 else 1) + (if f &&& 2 = 0 then 0 else 1) + (if f &&& 4 = 0 then 0 else 1) = ones3 (f % 8) := by decide +kernel
  have key : ∀ (c : Nat) (hc : c < 256), bitI (bits .and .u8 (f : Int) (c : Int) != 0) = ((if f &&& c = 0 then 0 else 1 : Nat) : Int) := by
    intro c hc
    rw [u8_and_nat f c hf hc]
    unfold bitI
    by_cases h : f &&& c = 0
    · rw [h]; rfl
    · rw [if_neg h, if_pos (by simpa using h)]; rfl
  have hs : bitI b0 + bitI b1 + bitI b2 = (ones3 (f % 8) : Int) := by
    rw [hb0, hb1, hb2, ← hsum f hf]
    rw [show (1 : Int) = ((1 : Nat) : Int) from rfl, show (2 : Int) = ((2 : Nat) : Int) from rfl, show (4 : Int) = ((4 : Nat) : Int) from rfl, key 1 (by decide), key 2 (by decide), key 4 (by decide)]
    omega
  obtain ⟨s1, hs1⟩ : ∃ s1, s1 = bitI b0 := ⟨_, rfl⟩
  obtain ⟨s2, hs2⟩ : ∃ s2, s2 = s1 + bitI b1 := ⟨_, rfl⟩
  obtain ⟨s3, hs3⟩ : ∃ s3, s3 = s2 + bitI b2 := ⟨_, rfl⟩
  have bb : ∀ b, 0 ≤ bitI b ∧ bitI b ≤ 1 := by intro b; cases b <;> simp [bitI]
  have j0 := bb b0
  have j1 := bb b1
  have j2 := bb b2
  have k1 : 0 ≤ s1 := by omega
  have k2 : s1 ≤ 1 := by omega
  have k3 : 0 ≤ s2 := by omega
  have k4 : s2 ≤ 2 := by omega
  have k5 : 0 ≤ s3 := by omega
  have k6 : s3 ≤ 3 := by omega
  have hfb : flagsB f = (decide ((f : Int) < 32) && decide (s3 ≤ 1)) := by
    unfold flagsB
    have e : s3 = (ones3 (f % 8) : Int) := by rw [← hs]; omega
    rw [e]
    congr 1
    · apply decide_eq_decide.2; omega
    · apply decide_eq_decide.2; omega
  rw [hfb]
  have h1 := hb0.symm
  have h2 := hb1.symm
  have h3 := hb2.symm
  have f1 : (f : Int) ≤ 255 := by omega
  have f2 : (0 : Int) ≤ (f : Int) := by omega
  generalize (f : Int) = F at *
  have H1 := Lib.hid hs1
  have H2 := Lib.hid hs2
  have H3 := Lib.hid hs3
  clear hsum key hs bb j0 j1 j2 hfb hs1 hs2 hs3 hb0 hb1 hb2 hf
  have hk := Blk.new w 5 #[.int .u8 1, .int .u8 2, .int .u8 4]
  have hb : Below w.heap.size w (w.alloc (.cells #[.int .u8 1, .int .u8 2, .int .u8 4] 5)) := (Below.refl _ _).alloc (Nat.le_refl _) _
  have HB := Lib.hid hb
  have HK := Lib.hid hk
  clear hb hk
  go_enter Try.func35, Try.ntmps35
  go_upto_region 3 with fail
  have hk := HK.out
  generalize hW : w.alloc _ = W1 at *
  obtain ⟨g, hg⟩ : ∃ g, g = w.heap.size := ⟨_, rfl⟩
  have hgl : g < W1.heap.size := by rw [hg]; exact hk.lt
  rw [← hg] at hk ⊢
  have c0 := hk.cell 0
  have c1 := hk.cell 1
  have c2 := hk.cell 2
  simp at c0 c1 c2
  clear hW hg hk HK
  go_wp2
  go_loop [3, 5] (fun n i => (i = .int .i64 0 ∧ n = .int .i64 0) ∨ (i = .int .i64 1 ∧ n = .int .i64 s1) ∨ (i = .int .i64 2 ∧ n = .int .i64 s2) ∨ (i = .int .i64 3 ∧ n = .int .i64 s3)) (fun _ i => 3 - (intOf i).toNat)
  case atStart => exact .inl ⟨rfl, rfl⟩
  case round =>
    rcases hrel with ⟨rfl, rfl⟩ | ⟨rfl, rfl⟩ | ⟨rfl, rfl⟩ | ⟨rfl, rfl⟩
    · cases b0 with
      | true =>
        go_wp2
        go_round
        case rel => exact (.inr (.inl ⟨rfl, by rw [H1.out]; simp [bitI]⟩))
        case measure => simp [intOf]
      | false =>
        go_wp2
        go_round
        case rel => exact (.inr (.inl ⟨rfl, by rw [H1.out]; simp [bitI]⟩))
        case measure => simp [intOf]
    · cases b1 with
      | true =>
        go_wp2
        go_round
        case rel => exact (.inr (.inr (.inl ⟨rfl, by rw [H2.out]; simp [bitI]⟩)))
        case measure => simp [intOf]
      | false =>
        go_wp2
        go_round
        case rel => exact (.inr (.inr (.inl ⟨rfl, by rw [H2.out]; simp [bitI]⟩)))
        case measure => simp [intOf]
    · cases b2 with
      | true =>
        go_wp2
        go_round
        case rel => exact (.inr (.inr (.inr ⟨rfl, by rw [H3.out]; simp [bitI]⟩)))
        case measure => simp [intOf]
      | false =>
        go_wp2
        go_round
        case rel => exact (.inr (.inr (.inr ⟨rfl, by rw [H3.out]; simp [bitI]⟩)))
        case measure => simp [intOf]
    · by_cases h : F < 32
      · go_wp2
        go_ret
        exact ⟨ret_bool (by simp [h]), HB.out⟩
      · have H32 := Lib.hid h
        go_wp2
        go_ret
        exact ⟨ret_bool (by simp; have := H32.out; omega), HB.out⟩
/-- a segment's cells: its options by themselves -/
def segO (s0 s1 s2 s3 s4 s5 : Int) (f : Nat) (s7 : Int) (o : Op) (A : Option Addr) (c : Nat) (d : ByteArray) : Array Value :=
  #[.int .u32 s0, .int .u16 s1, .int .u32 s2, .int .u16 s3, .int .u32 s4, .int .u32 s5, .int .u8 (f : Int), .int .u16 s7, .int .u16 (o.mss : Int), .int .i64 o.scale, .bool o.sack, .slice A o.bl.length c, .bool o.time, .int .u32 (o.val : Int), .int .u32 (o.echo : Int), .string d]
def pmayB (f : Nat) (o : Op) (d : ByteArray) : Bool := flagsB f && mayB o && decide (d.size ≤ 1460)
set_option maxRecDepth 100000 in
set_option maxHeartbeats 4000000 in
theorem pmay_any (w : World) (s0 s1 s2 s3 s4 s5 : Int) (f : Nat) (s7 : Int) (o : Op) (A : Option Addr) (c : Nat) (d : ByteArray) (ho : o.wf) (hr : BlR w A o.bl) (hn : o.bl.length ≤ 1000) (hf : f < 256) (hd : d.size ≤ maxLen) :
    Calls Try.prog 13 #[.agg (segO s0 s1 s2 s3 s4 s5 f s7 o A c d)] w fun e w' => e = .returned (.bool (pmayB f o d)) ∧ Below w.heap.size w w' := by
  obtain ⟨fb, hfb⟩ : ∃ fb, fb = flagsB f := ⟨_, rfl⟩
  obtain ⟨mb, hmb⟩ : ∃ mb, mb = mayB o := ⟨_, rfl⟩
  have hp : pmayB f o d = (fb && mb && decide ((d.size : Int) ≤ 1460)) := by
    unfold pmayB
    rw [← hfb, ← hmb]
    congr 1
    apply decide_eq_decide.2
    omega
  rw [hp]
  have hfl := fun W => flags_any f hf W
  have hmy := fun W (h : BlR W A o.bl) => may_any W o A c ho h hn
  unfold optC at hmy
  unfold segO
  rw [← hfb] at hfl
  rw [← hmb] at hmy
  have hb0 : Below w.heap.size w (w.alloc (.cells (segO s0 s1 s2 s3 s4 s5 f s7 o A c d) 30)) := (Below.refl _ _).alloc (Nat.le_refl _) _
  have hS0 : Blk (w.alloc (.cells (segO s0 s1 s2 s3 s4 s5 f s7 o A c d) 30)) w.heap.size 30 (segO s0 s1 s2 s3 s4 s5 f s7 o A c d) := Blk.new _ _ _
  have hR0 := hr.below hb0
  unfold segO at hb0 hS0 hR0
  have hz : (d.size : Int) ≤ 9223372036854775807 := by unfold maxLen at hd; omega
  clear hp hfb hmb hr hd
  generalize o.bl.length = n at *
  generalize (o.mss : Int) = m at *
  generalize (o.val : Int) = vl at *
  generalize (o.echo : Int) = ec at *
  generalize o.scale = sc at *
  generalize o.sack = sk at *
  generalize o.time = tm at *
  generalize (f : Int) = F at *
  have Hfl := Lib.hid hfl
  have Hmy := Lib.hid hmy
  clear hfl hmy ho hn hf
  go_enter Try.func13, Try.ntmps13
  go_upto_region 1 with fail
  obtain ⟨g, hg⟩ : ∃ g, g = w.heap.size := ⟨_, rfl⟩
  generalize hW1 : w.alloc _ = W1 at *
  rw [← hg] at hS0 ⊢
  clear hg hW1
  have HB := Lib.hid hb0
  have HR := Lib.hid hR0
  have c6 := hS0.cell 6
  have c8 := hS0.cell 8
  have c9 := hS0.cell 9
  have c10 := hS0.cell 10
  have c11 := hS0.cell 11
  have c12 := hS0.cell 12
  have c13 := hS0.cell 13
  have c14 := hS0.cell 14
  have c15 := hS0.cell 15
  simp at c6 c8 c9 c10 c11 c12 c13 c14 c15
  have HS := Lib.hid hS0
  clear hb0 hR0 hS0
  go_wp2_with fail
  (with_reducible refine (Hfl.out _).mono ?_)
  rintro e w' ⟨rfl, rfl⟩
  cases fb with
  | false =>
    go_wp2
    go_ret
    exact ⟨ret_bool (by simp), HB.out⟩
  | true =>
    go_wp2_with fail
    with_reducible refine (Hmy.out _ HR.out).mono ?_
    rintro e w9 ⟨rfl, hb9⟩
    have hF := HB.out.trans (hb9.mono HB.out.size)
    have d15 := (HS.out.below hb9 HS.out.lt).cell 15
    simp at d15
    have HF := Lib.hid hF
    clear hF hb9 c6 c8 c9 c10 c11 c12 c13 c14 c15
    cases mb with
    | false =>
      go_wp2
      go_ret
      exact ⟨ret_bool (by simp), HF.out⟩
    | true =>
      go_wp2
      go_ret
      exact ⟨ret_bool (by simp), HF.out⟩
end Go.Proofs.Ytengegcnocdkoaa
end
section
namespace Go.Proofs.Ytengegcnocdkoaa
/-- may a kind have so many bytes? -/
def longB (k n : Nat) : Bool :=
  if k = 2 then n == 4 else if k = 3 then n == 3 else if k = 4 then n == 2 else if k = 5 then n == 10 || n == 18 || n == 26 || n == 34 else if k = 8 then n == 10 else decide (2 ≤ n)
theorem longB_two {k n : Nat} (h : longB k n = true) : 2 ≤ n := by
  unfold longB at h
  split at h
  · simp at h; omega
  split at h
  · simp at h; omega
  split at h
  · simp at h; omega
  split at h
  · simp at h; omega
  split at h
  · simp at h; omega
  · simpa using h
def byteN (L : List UInt8) (i : Nat) : Nat := ((L[i]?).getD 0).toNat
theorem byteN_lt (L : List UInt8) (i : Nat) : byteN L i < 256 := UInt8.toNat_lt _
/-- how many bytes the option at a place has; 0: it may not be -/
def stepN (L : List UInt8) (i : Nat) : Nat := if i + 1 < L.length ∧ longB (byteN L i) (byteN L (i + 1)) = true ∧ i + byteN L (i + 1) ≤ L.length then byteN L (i + 1) else 0
/-- where options stand, and how many bytes they have -/
def placesF : Nat → List UInt8 → Nat → List (Nat × Nat)
  | 0, _, _ => []
  | f + 1, L, i => if i < L.length ∧ byteN L i ≠ 0 then (if byteN L i = 1 then placesF f L (i + 1) else (i, stepN L i) :: (if stepN L i = 0 then [] else placesF f L (i + stepN L i))) else []
theorem placesF_eq (L : List UInt8) : ∀ (f g i : Nat), L.length - i < f → L.length - i < g → placesF f L i = placesF g L i := by
  intro f
  induction f with
  | zero => intro g i h; omega
  | succ f ih =>
    intro g i hf hg
    cases g with
    | zero => omega
    | succ g =>
      simp only [placesF]
      by_cases h1 : i < L.length ∧ byteN L i ≠ 0
      · rw [if_pos h1, if_pos h1]
        by_cases h2 : byteN L i = 1
        · rw [if_pos h2, if_pos h2]
          exact ih g (i + 1) (by omega) (by omega)
        · rw [if_neg h2, if_neg h2]
          by_cases h3 : stepN L i = 0
          · rw [if_pos h3, if_pos h3]
          · rw [if_neg h3, if_neg h3, ih g (i + stepN L i) (by omega) (by omega)]
      · rw [if_neg h1, if_neg h1]
def placesAt (L : List UInt8) (i : Nat) : List (Nat × Nat) := placesF (L.length - i + 1) L i
theorem places_end {L : List UInt8} {i : Nat} (h : ¬ (i < L.length ∧ byteN L i ≠ 0)) : placesAt L i = [] := by
  unfold placesAt
  simp only [placesF]
  rw [if_neg h]
theorem places_one {L : List UInt8} {i : Nat} (h : i < L.length) (h1 : byteN L i = 1) : placesAt L i = placesAt L (i + 1) := by
  unfold placesAt
  rw [placesF, if_pos ⟨h, by omega⟩, if_pos h1]
  exact placesF_eq L _ _ _ (by omega) (by omega)
theorem places_bad {L : List UInt8} {i : Nat} (h : i < L.length) (h0 : byteN L i ≠ 0) (h1 : byteN L i ≠ 1) (hs : stepN L i = 0) : placesAt L i = [(i, 0)] := by
  unfold placesAt
  rw [placesF, if_pos ⟨h, h0⟩, if_neg h1, hs, if_pos rfl]
theorem places_cons {L : List UInt8} {i : Nat} (h : i < L.length) (h0 : byteN L i ≠ 0) (h1 : byteN L i ≠ 1) (hs : stepN L i ≠ 0) : placesAt L i = (i, stepN L i) :: placesAt L (i + stepN L i) := by
  unfold placesAt
  rw [placesF, if_pos ⟨h, h0⟩, if_neg h1, if_neg hs]
  congr 1
  exact placesF_eq L _ _ _ (by omega) (by omega)
theorem stepN_pos {L : List UInt8} {i : Nat} (h : stepN L i ≠ 0) : i + 1 < L.length ∧ longB (byteN L i) (byteN L (i + 1)) = true ∧ i + stepN L i ≤ L.length ∧ stepN L i = byteN L (i + 1) ∧ 2 ≤ stepN L i := by
  unfold stepN at h ⊢
  split
  · rename_i hc
    exact ⟨hc.1, hc.2.1, hc.2.2, rfl, longB_two hc.2.1⟩
  · rename_i hc
    rw [if_neg hc] at h
    exact absurd rfl h
/-- a place that options' bytes have -/
def OkP (L : List UInt8) (p : Nat × Nat) : Prop := p.1 < L.length ∧ byteN L p.1 ≠ 0 ∧ byteN L p.1 ≠ 1 ∧ p.2 = stepN L p.1
theorem places_ok (L : List UInt8) : ∀ (f i : Nat), ∀ p ∈ placesF f L i, OkP L p := by
  intro f
  induction f with
  | zero => intro i p h; cases h
  | succ f ih =>
    intro i p h
    simp only [placesF] at h
    split at h
    · rename_i h1
      split at h
      · exact ih _ p h
      · rename_i h2
        rcases List.mem_cons.1 h with rfl | h
        · exact ⟨h1.1, h1.2, h2, rfl⟩
        · split at h
          · cases h
          · exact ih _ p h
    · cases h
/-- the bytes of an option behind its kind and its length -/
def bodyL (L : List UInt8) (p : Nat × Nat) : List UInt8 := (L.drop (p.1 + 2)).take (p.2 - 2)
/-- blocks out of bytes -/
def blocksF : Nat → List UInt8 → List (Int × Int)
  | 0, _ => []
  | f + 1, B => if B = [] then [] else (((numL (B.take 4) : Nat) : Int), ((numL ((B.drop 4).take 4) : Nat) : Int)) :: blocksF f (B.drop 8)
def metB (k : Nat) : Bool := decide (k ≤ 5) || k == 8
/-- one option, read -/
def takeP (L : List UInt8) (o : Op) (p : Nat × Nat) : Option Op :=
  let B := bodyL L p
  if byteN L p.1 = 2 then (if numL B % 65536 = 0 then none else some { o with mss := numL B % 65536 })
  else if byteN L p.1 = 3 then some { o with scale := min ((byteN B 0 : Nat) : Int) 14 }
  else if byteN L p.1 = 4 then some { o with sack := true }
  else if byteN L p.1 = 8 then some { o with time := true, val := numL (B.take 4), echo := numL (B.drop 4) }
  else if byteN L p.1 = 5 then some { o with bl := o.bl ++ blocksF B.length B }
  else some o
def stepD (L : List UInt8) (st : Op × List Nat) (p : Nat × Nat) : Option (Op × List Nat) :=
  if p.2 = 0 ∨ byteN L p.1 ∈ st.2 then none
  else (takeP L st.1 p).map fun o => (o, if metB (byteN L p.1) = true then byteN L p.1 :: st.2 else st.2)
def noneO : Op := ⟨0, -1, false, [], false, 0, 0⟩
def foldD (L : List UInt8) (l : List (Nat × Nat)) (st : Op × List Nat) : Option (Op × List Nat) := l.foldlM (stepD L) st
/-- what bytes say -/
def decL (L : List UInt8) : Option Op := (foldD L (placesAt L 0) (noneO, [])).map (·.1)
end Go.Proofs.Ytengegcnocdkoaa
end
section
set_option maxRecDepth 20000
namespace Go.Proofs.Ytengegcnocdkoaa
open Go.RowKit Go.BigFrame Go.ChangeMaps
theorem contains_any (g : Nat) (l : List Int) (x : Int) (w : World) (h : Blk w g 3 (l.map (Value.int .i64)).toArray) (hn : l.length ≤ 1000) :
    Calls Try.prog 103 #[.slice (some ⟨g, 0, none⟩) l.length l.length, .int .i64 x] w fun e w' => (∃ r : Int, e = .returned (.int .i64 r) ∧ (0 ≤ r ↔ x ∈ l)) ∧ w = w' := by
  obtain ⟨n, hn'⟩ : ∃ n, n = l.length := ⟨_, rfl⟩
  rw [← hn'] at hn ⊢
  have hlt := h.lt
  have H := Lib.hid h
  clear h
  have Hn' := Lib.hid hn'
  clear hn'
  go_enter Try.func103, Try.ntmps103
  go_wp2
  go_loopw [8] (fun i wr => w = wr ∧ ∃ k : Nat, k ≤ n ∧ i = .int .i64 (k : Int) ∧ x ∉ l.take k) (fun i _ => n - (intOf i).toNat)
  case atStart => exact ⟨rfl, 0, Nat.zero_le _, rfl, by simp⟩
  case round =>
    obtain ⟨rfl, k, hk, rfl, hx⟩ := hrel
    by_cases hkn : k < n
    · have hkl : k < l.length := by rw [← Hn'.out]; exact hkn
      obtain ⟨v, hv⟩ : ∃ v, v = l[k] := ⟨_, rfl⟩
      have hc : w.cell? ⟨g, k, none⟩ = some (.int .i64 v) := by
        have := H.out.cell k
        rw [this]
        simp [hv, hkl]
      have j1 : (k : Int) < (n : Int) := by omega
      have hmem : x ∈ l.take (k + 1) ↔ x = v := by
        rw [List.take_add_one, List.getElem?_eq_getElem hkl, ← hv]
        simp
        intro h
        exact absurd h hx
      have hvl : v ∈ l := by rw [hv]; exact List.getElem_mem _
      by_cases hxv : x = v
      · subst hxv
        have e1 : (x == x) = true := beq_self_eq_true _
        have Hx := Lib.hid hx
        clear hx
        have Hmem := Lib.hid hmem
        clear hmem
        have Hvl := Lib.hid hvl
        clear hvl
        have Hv := Lib.hid hv
        clear hv
        go_wp2
        go_ret
        exact ⟨⟨(k : Int), rfl, fun _ => Hvl.out, fun _ => by omega⟩, rfl⟩
      · have e1 : (x == v) = false := by simpa using hxv
        have hx2 : x ∉ l.take (k + 1) := fun h => hxv (hmem.1 h)
        have Hx := Lib.hid hx
        clear hx
        have Hmem := Lib.hid hmem
        clear hmem
        have Hvl := Lib.hid hvl
        clear hvl
        have Hv := Lib.hid hv
        clear hv
        have Hx2 := Lib.hid hx2
        clear hx2
        clear hxv
        go_wp2
        go_roundw
        case rel => exact ⟨trivial, k + 1, by omega, by go_num, Hx2.out⟩
        case measure => simp [intOf]; omega
    · obtain rfl : k = n := by omega
      rw [Hn'.out, List.take_length] at hx
      have j1 : ¬ (k : Int) < (k : Int) := by omega
      have Hx := Lib.hid hx
      clear hx
      go_wp2
      go_ret
      exact ⟨⟨-1, rfl, fun h => by omega, fun h => absurd h Hx.out⟩, rfl⟩
theorem has_any (g : Nat) (l : List Int) (x : Int) (w : World) (h : Blk w g 3 (l.map (Value.int .i64)).toArray) (hn : l.length ≤ 1000) :
    Calls Try.prog 100 #[.slice (some ⟨g, 0, none⟩) l.length l.length, .int .i64 x] w fun e w' => e = .returned (.bool (decide (x ∈ l))) ∧ w = w' := by
  have hc := contains_any g l x w h hn
  generalize l.length = n at *
  have HC := Lib.hid hc
  clear hc h hn
  go_enter Try.func100, Try.ntmps100
  go_wp2_with fail
  (with_reducible refine (HC.out).mono ?_)
  rintro e w' ⟨⟨r, rfl, hr⟩, rfl⟩
  have hd : decide (x ∈ l) = decide (0 ≤ r) := by
    by_cases h : 0 ≤ r
    · rw [decide_eq_true h, decide_eq_true (hr.1 h)]
    · rw [decide_eq_false h, decide_eq_false (fun hm => h (hr.2 hm))]
  have HD := Lib.hid hd
  clear hd hr
  go_wp2
  go_ret
  exact ⟨ret_bool HD.out.symm, rfl⟩
/-- an entry that a literal of a map lays, under a key that is not there yet -/
theorem wpl_insert_new {P : Program} {ops : Array Oper} {rest : List Oper} {o : Oper} {a : Act} {Q : Exit → Act → World → Prop} {w : World} (hg : o.guard = none) (m x v : Operand) (t : TypeId) (hop : o.op = .insert t m x v)
    (kt et : TypeId) (q : IntKind) (ht : P.underlying t = some (.map kt et)) (hk : P.underlying kt = some (.int q)) (g : Nat) (es : Array MapEntry) (clock : Nat) (hm : a.eval m = .map (some g)) (hb : w.heap[g]? = some (.map es clock))
    (key : Int) (hx : a.eval x = .int q key) (hnew : Instr.findNow (.int q) (.int q key) es.toList 0 = some none) (val : Value) (hv : a.eval v = val)
    (hK : ∀ w', w'.heap[g]? = some (.map (es.push ⟨.int q key, val, clock⟩) (clock + 1)) → w.grownBy w' (some g) → wpList P ops Q rest (a.put o.dst undef) w') :
    wpList P ops Q (o :: rest) a w := by
  have hrun : (Instr.mapUpdate t (.map (some g)) (.int q key) val).run P w = .ok () (setBlock w g (.map (es.push ⟨.int q key, val, clock⟩) (clock + 1))) := by
    have hc : (Instr.checkKey false 10000 kt (.int q key)).run P w = .ok () w := MapKept.run_checkKey (k := .int q key) hk (by simp [MapKept.IsKey]) false 9999
    have h1 : (Instr.mapUpdate t (.map (some g)) (.int q key) val).run P w = .ok () { w with heap := w.heap.setIfInBounds g (.map (es.push ⟨.int q key, val, clock⟩) (clock + 1)) } := by
      simp [Instr.mapUpdate, run_underlying ht, MapKept.run_getObj_map hb, hc, MapKept.run_findKey hk hnew, MapKept.run_setObj_map _ hb, Result.andThen]
    rw [h1]
    rfl
  refine wpList_plain hg fun K' hK' => ?_
  unfold Oper.wp
  simp [execOp, hop, hm, hx, hv, hrun, Result.andThen]
  exact hK' _ _ (hK _ (heap_setBlock_same hb _) ⟨rfl, rfl, rfl, by simp [setBlock], fun i _ hi => heap_setBlock_other hb _ (fun e => hi (by rw [e]))⟩)
theorem lookI_run {W : World} {g : Nat} {es : Array MapEntry} {c : Nat} (hm : W.heap[g]? = some (.map es c)) (d : Int) (i : Nat) (v : Value) (h : Instr.findNow (.int .u8) (.int .u8 d) es.toList 0 = some (some (i, v))) :
    (Instr.lookup 142 (.map (some g)) (.int .u8 d) true).run Try.prog W = .ok (.tuple #[v, .bool true]) W := by
  have hc : ∀ b, (Instr.checkKey b 10000 5 (.int .u8 d)).run Try.prog W = .ok () W := fun b => MapKept.run_checkKey (k := .int .u8 d) Try.underlying5 (by simp [MapKept.IsKey]) b 9999
  simp [Instr.lookup, run_underlying Try.underlying142, MapKept.run_getObj_map hm, hc, MapKept.run_findKey Try.underlying5 h, Result.andThen]
theorem lookI_none {W : World} {g : Nat} {es : Array MapEntry} {c : Nat} (hm : W.heap[g]? = some (.map es c)) (d : Int) (h : Instr.findNow (.int .u8) (.int .u8 d) es.toList 0 = some none) :
    (Instr.lookup 142 (.map (some g)) (.int .u8 d) true).run Try.prog W = .ok (.tuple #[.slice none 0 0, .bool false]) W := by
  have hc : ∀ b, (Instr.checkKey b 10000 5 (.int .u8 d)).run Try.prog W = .ok () W := fun b => MapKept.run_checkKey (k := .int .u8 d) Try.underlying5 (by simp [MapKept.IsKey]) b 9999
  have hz : (zeroValue 115).run Try.prog W = .ok (.slice none 0 0) W := by kernel_rfl
  simp [Instr.lookup, run_underlying Try.underlying142, MapKept.run_getObj_map hm, hc, MapKept.run_findKey Try.underlying5 h, hz, Result.andThen]
theorem mp_alloc {w : World} {g : Nat} {o : Obj} (h : w.heap[g]? = some o) (o' : Obj) : (w.alloc o').heap[g]? = some o := by
  exact ((World.grownBy_alloc w o' none).block g (Array.getElem?_eq_some_iff.1 h).1 (by simp)).trans h
theorem stepB {A B : World} {g m : Nat} {t : TypeId} {cs : Array Value} {o : Obj} (h : Blk A g t cs) (hg : (A.alloc o).grownBy B (some m)) (hne : g ≠ m) : Blk B g t cs := (h.alloc o).grown hg (fun e => hne (Option.some.inj e))
theorem mp_grown {w w' : World} {g b : Nat} {t : TypeId} {cs : Array Value} (h : Blk w g t cs) (hg : w.grownBy w' (some b)) (hne : g ≠ b) : Blk w' g t cs := h.grown hg (fun e => hne (Option.some.inj e))
set_option maxHeartbeats 4000000 in
theorem long_any (k n : Nat) (w : World) (hk : k < 256) :
    Calls Try.prog 95 #[.int .u8 (k : Int), .int .i64 (n : Int)] w fun e w' => e = .returned (.bool (longB k n)) ∧ Below w.heap.size w w' := by
  obtain ⟨m, hm⟩ : ∃ m, m = w.heap.size := ⟨_, rfl⟩
  have hM0 : (w.alloc (.map #[] 0)).heap[m]? = some (.map #[] 0) := by rw [hm]; exact World.alloc_heap_new w _
  have hb0 : Below w.heap.size w (w.alloc (.map #[] 0)) := (Below.refl _ _).alloc (Nat.le_refl _) _
  have hs0 : m < (w.alloc (.map #[] 0)).heap.size := by rw [hm]; simp
  have hmk : (Instr.makeMap 142 none).run Try.prog w = .ok (.map (some w.heap.size)) (w.alloc (.map #[] 0)) := by kernel_rfl
  have Hm := Lib.hid hm
  clear hm
  go_enter Try.func95, Try.ntmps95
  go_upto_region 2 with (first
    | (refine wpl_insert_new rfl (.tmp 8) (.const (.int .u8 2)) (.tmp 9) 142 rfl 5 115 .u8 Try.underlying142 Try.underlying5 m _ _ (by simp [Act.eval, Hm.out]) (mp_alloc hM0 _) 2 rfl rfl _ rfl ?_; intro W1 hM1 hg1)
    | (refine wpl_insert_new rfl (.tmp 8) (.const (.int .u8 3)) (.tmp 10) 142 rfl 5 115 .u8 Try.underlying142 Try.underlying5 m _ _ (by simp [Act.eval, Hm.out]) (mp_alloc hM1 _) 3 rfl rfl _ rfl ?_; intro W2 hM2 hg2)
    | (refine wpl_insert_new rfl (.tmp 8) (.const (.int .u8 4)) (.tmp 11) 142 rfl 5 115 .u8 Try.underlying142 Try.underlying5 m _ _ (by simp [Act.eval, Hm.out]) (mp_alloc hM2 _) 4 rfl rfl _ rfl ?_; intro W3 hM3 hg3)
    | (refine wpl_insert_new rfl (.tmp 8) (.const (.int .u8 5)) (.tmp 12) 142 rfl 5 115 .u8 Try.underlying142 Try.underlying5 m _ _ (by simp [Act.eval, Hm.out]) (mp_alloc hM3 _) 5 rfl rfl _ rfl ?_; intro W4 hM4 hg4)
    | (refine wpl_insert_new rfl (.tmp 8) (.const (.int .u8 8)) (.tmp 13) 142 rfl 5 115 .u8 Try.underlying142 Try.underlying5 m _ _ (by simp [Act.eval, Hm.out]) (mp_alloc hM4 _) 8 rfl rfl _ rfl ?_; intro W5 hM5 hg5))
  have z1 : w.heap.size + 2 ≤ W1.heap.size := by have := hg1.size; simp at this; omega
  have z2 : W1.heap.size + 1 ≤ W2.heap.size := by have := hg2.size; simp at this; omega
  have z3 : W2.heap.size + 1 ≤ W3.heap.size := by have := hg3.size; simp at this; omega
  have z4 : W3.heap.size + 1 ≤ W4.heap.size := by have := hg4.size; simp at this; omega
  have z5 : W4.heap.size + 1 ≤ W5.heap.size := by have := hg5.size; simp at this; omega
  obtain rfl := Hm.out
  have hb1 := below_only (hb0.alloc hb0.size _) hg1 (Nat.le_refl _) (by simp; omega)
  have hb2 := below_only (hb1.alloc hb1.size _) hg2 (Nat.le_refl _) (by simp; omega)
  have hb3 := below_only (hb2.alloc hb2.size _) hg3 (Nat.le_refl _) (by simp; omega)
  have hb4 := below_only (hb3.alloc hb3.size _) hg4 (Nat.le_refl _) (by simp; omega)
  have hb5 := below_only (hb4.alloc hb4.size _) hg5 (Nat.le_refl _) (by simp; omega)
  have k1 := mp_grown (Blk.new (w.alloc (.map #[] 0)) 3 #[.int .i64 4]) hg1 (by simp)
  rw [World.size_alloc] at k1
  have k1 := stepB k1 hg2 (by omega)
  have k1 := stepB k1 hg3 (by omega)
  have k1 := stepB k1 hg4 (by omega)
  have k1 := stepB k1 hg5 (by omega)
  have k2 := mp_grown (Blk.new W1 3 #[.int .i64 3]) hg2 (by omega)
  have k2 := stepB k2 hg3 (by omega)
  have k2 := stepB k2 hg4 (by omega)
  have k2 := stepB k2 hg5 (by omega)
  have k3 := mp_grown (Blk.new W2 3 #[.int .i64 2]) hg3 (by omega)
  have k3 := stepB k3 hg4 (by omega)
  have k3 := stepB k3 hg5 (by omega)
  have k4 := mp_grown (Blk.new W3 3 #[.int .i64 10, .int .i64 18, .int .i64 26, .int .i64 34]) hg4 (by omega)
  have k4 := stepB k4 hg5 (by omega)
  have k5 := mp_grown (Blk.new W4 3 #[.int .i64 10]) hg5 (by omega)
  obtain ⟨g1, e1⟩ : ∃ g, g = W1.heap.size := ⟨_, rfl⟩
  obtain ⟨g2, e2⟩ : ∃ g, g = W2.heap.size := ⟨_, rfl⟩
  obtain ⟨g3, e3⟩ : ∃ g, g = W3.heap.size := ⟨_, rfl⟩
  obtain ⟨g4, e4⟩ : ∃ g, g = W4.heap.size := ⟨_, rfl⟩
  rw [← e1] at hM5 k2 ⊢
  rw [← e2] at hM5 k3 ⊢
  rw [← e3] at hM5 k4 ⊢
  rw [← e4] at hM5 k5 ⊢
  obtain ⟨g0, e0⟩ : ∃ g, g = w.heap.size + 1 := ⟨_, rfl⟩
  rw [← e0] at k1 ⊢
  have hM6 := hM5
  try simp only [World.size_alloc] at hM6
  try rw [← e0] at hM6
  clear hM0 hM1 hM2 hM3 hM4 hM5 hg1 hg2 hg3 hg4 hg5 z1 z2 z3 z4 z5 hb0 hb1 hb2 hb3 hb4 hs0 hmk e0 e1 e2 e3 e4
  generalize W5 = W at *
  have K1 := Lib.hid k1
  clear k1
  have K2 := Lib.hid k2
  clear k2
  have K3 := Lib.hid k3
  clear k3
  have K4 := Lib.hid k4
  clear k4
  have K5 := Lib.hid k5
  clear k5
  have Hb5 := Lib.hid hb5
  clear hb5
  by_cases h2 : k = 2
  · have hkc : (k : Int) = 2 := by omega
    have hl := lookI_run hM6 2 0 _ rfl
    have hr : longB k n = decide ((n : Int) ∈ ([4] : List Int)) := by
      have e : longB k n = (n == 4) := by rw [show k = 2 by omega]; rfl
      rw [e, Bool.eq_iff_iff]
      simp
      omega
    have hc : Calls Try.prog 100 #[.slice (some ⟨g0, 0, none⟩) 1 1, .int .i64 (n : Int)] W fun e w' => e = .returned (.bool (decide ((n : Int) ∈ ([4] : List Int)))) ∧ W = w' := has_any g0 [4] (n : Int) W K1.out (by decide)
    clear hM6
    generalize decide ((n : Int) ∈ ([4] : List Int)) = r at *
    have Hc := Lib.hid hc
    clear hc
    have Hr := Lib.hid hr
    clear hr
    go_wp2_with fail
    with_reducible refine Hc.out.mono ?_
    rintro e w' ⟨rfl, rfl⟩
    go_wp2
    go_ret
    exact ⟨ret_bool Hr.out.symm, Hb5.out⟩
  by_cases h3 : k = 3
  · have hkc : (k : Int) = 3 := by omega
    have hl := lookI_run hM6 3 1 _ rfl
    have hr : longB k n = decide ((n : Int) ∈ ([3] : List Int)) := by
      have e : longB k n = (n == 3) := by rw [show k = 3 by omega]; rfl
      rw [e, Bool.eq_iff_iff]
      simp
      omega
    have hc : Calls Try.prog 100 #[.slice (some ⟨g1, 0, none⟩) 1 1, .int .i64 (n : Int)] W fun e w' => e = .returned (.bool (decide ((n : Int) ∈ ([3] : List Int)))) ∧ W = w' := has_any g1 [3] (n : Int) W K2.out (by decide)
    clear hM6
    generalize decide ((n : Int) ∈ ([3] : List Int)) = r at *
    have Hc := Lib.hid hc
    clear hc
    have Hr := Lib.hid hr
    clear hr
    go_wp2_with fail
    with_reducible refine Hc.out.mono ?_
    rintro e w' ⟨rfl, rfl⟩
    go_wp2
    go_ret
    exact ⟨ret_bool Hr.out.symm, Hb5.out⟩
  by_cases h4 : k = 4
  · have hkc : (k : Int) = 4 := by omega
    have hl := lookI_run hM6 4 2 _ rfl
    have hr : longB k n = decide ((n : Int) ∈ ([2] : List Int)) := by
      have e : longB k n = (n == 2) := by rw [show k = 4 by omega]; rfl
      rw [e, Bool.eq_iff_iff]
      simp
      omega
    have hc : Calls Try.prog 100 #[.slice (some ⟨g2, 0, none⟩) 1 1, .int .i64 (n : Int)] W fun e w' => e = .returned (.bool (decide ((n : Int) ∈ ([2] : List Int)))) ∧ W = w' := has_any g2 [2] (n : Int) W K3.out (by decide)
    clear hM6
    generalize decide ((n : Int) ∈ ([2] : List Int)) = r at *
    have Hc := Lib.hid hc
    clear hc
    have Hr := Lib.hid hr
    clear hr
    go_wp2_with fail
    with_reducible refine Hc.out.mono ?_
    rintro e w' ⟨rfl, rfl⟩
    go_wp2
    go_ret
    exact ⟨ret_bool Hr.out.symm, Hb5.out⟩
  by_cases h5 : k = 5
  · have hkc : (k : Int) = 5 := by omega
    have hl := lookI_run hM6 5 3 _ rfl
    have hr : longB k n = decide ((n : Int) ∈ ([10, 18, 26, 34] : List Int)) := by
      have e : longB k n = (n == 10 || n == 18 || n == 26 || n == 34) := by rw [show k = 5 by omega]; rfl
      rw [e, Bool.eq_iff_iff]
      simp
      omega
    have hc : Calls Try.prog 100 #[.slice (some ⟨g3, 0, none⟩) 4 4, .int .i64 (n : Int)] W fun e w' => e = .returned (.bool (decide ((n : Int) ∈ ([10, 18, 26, 34] : List Int)))) ∧ W = w' := has_any g3 [10, 18, 26, 34] (n : Int) W K4.out (by decide)
    clear hM6
    generalize decide ((n : Int) ∈ ([10, 18, 26, 34] : List Int)) = r at *
    have Hc := Lib.hid hc
    clear hc
    have Hr := Lib.hid hr
    clear hr
    go_wp2_with fail
    with_reducible refine Hc.out.mono ?_
    rintro e w' ⟨rfl, rfl⟩
    go_wp2
    go_ret
    exact ⟨ret_bool Hr.out.symm, Hb5.out⟩
  by_cases h8 : k = 8
  · have hkc : (k : Int) = 8 := by omega
    have hl := lookI_run hM6 8 4 _ rfl
    have hr : longB k n = decide ((n : Int) ∈ ([10] : List Int)) := by
      have e : longB k n = (n == 10) := by rw [show k = 8 by omega]; rfl
      rw [e, Bool.eq_iff_iff]
      simp
      omega
    have hc : Calls Try.prog 100 #[.slice (some ⟨g4, 0, none⟩) 1 1, .int .i64 (n : Int)] W fun e w' => e = .returned (.bool (decide ((n : Int) ∈ ([10] : List Int)))) ∧ W = w' := has_any g4 [10] (n : Int) W K5.out (by decide)
    clear hM6
    generalize decide ((n : Int) ∈ ([10] : List Int)) = r at *
    have Hc := Lib.hid hc
    clear hc
    have Hr := Lib.hid hr
    clear hr
    go_wp2_with fail
    with_reducible refine Hc.out.mono ?_
    rintro e w' ⟨rfl, rfl⟩
    go_wp2
    go_ret
    exact ⟨ret_bool Hr.out.symm, Hb5.out⟩
  have hl := lookI_none hM6 (k : Int) (by
    have q1 : ((k : Int) == 2) = false := by simp; omega
    have q2 : ((k : Int) == 3) = false := by simp; omega
    have q3 : ((k : Int) == 4) = false := by simp; omega
    have q4 : ((k : Int) == 5) = false := by simp; omega
    have q5 : ((k : Int) == 8) = false := by simp; omega
    simp only [List.push_toArray, List.append_toArray, List.nil_append, List.cons_append, Instr.findNow, Instr.sameNow, if_pos, q1, q2, q3, q4, q5])
  have hr : longB k n = decide (2 ≤ (n : Int)) := by
    unfold longB
    rw [if_neg h2, if_neg h3, if_neg h4, if_neg h5, if_neg h8]
    simp
    omega
  have Hr := Lib.hid hr
  clear hr
  clear hM6 h2 h3 h4 h5 h8
  go_wp2
  go_ret
  exact ⟨ret_bool Hr.out.symm, Hb5.out⟩
end Go.Proofs.Ytengegcnocdkoaa
end
