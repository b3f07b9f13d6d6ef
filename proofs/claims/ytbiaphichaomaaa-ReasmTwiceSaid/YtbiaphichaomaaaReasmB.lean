/- Layer 16 (reasm): two of them at once. -/
import Derived.Test.YtbiaphichaomaaaReasmH
set_option linter.unusedVariables false
set_option linter.unusedSimpArgs false
namespace Go.Proofs.Ytbiaphichaomaaa
open Go.RowKit Go.BigFrame Go.Maps Go.ChangeShapes Go.WideShapes Go.ChangeAt

/-- two Reasms that lie apart, both of the call's own -/
def Pair2 (w : World) (b1 bm1 b2 bm2 : Nat) (sa sb : Rs) (wr : World) : Prop :=
  ∃ rv1 pv1 rv2 pv2, RsAt wr b1 bm1 rv1 pv1 sa ∧ RsAt wr b2 bm2 rv2 pv2 sb ∧ Below w.heap.size w wr ∧ (∀ i, OwnR b1 bm1 rv1 i → w.heap.size ≤ i) ∧ (∀ i, OwnR b2 bm2 rv2 i → w.heap.size ≤ i) ∧ ∀ i, OwnR b1 bm1 rv1 i → ¬ OwnR b2 bm2 rv2 i
/-- blocks of other types are as they were -/
def Keeps (w w' : World) : Prop := ∀ g t cs, t ≠ 48 → t ≠ 5 → Blk w g t cs → Blk w' g t cs
theorem Keeps.refl (w : World) : Keeps w w := fun _ _ _ _ _ h => h
theorem RsAt.no_blk {w : World} {b bm : Nat} {rv pv : Value} {s : Rs} (h : RsAt w b bm rv pv s) {g : Nat} {t : TypeId} {cs : Array Value} (h1 : t ≠ 48) (h2 : t ≠ 5) (hg : Blk w g t cs) : ¬ OwnR b bm rv g := by
  rintro (rfl | rfl | e)
  · exact Blk.ne_ h.blk hg h1.symm rfl
  · obtain ⟨n, h1, _⟩ := h.far; exact map_blk_ne h1 hg rfl
  · obtain ⟨cs', hc⟩ := own_row_blk h.row e
    exact Blk.ne_ hc hg h2.symm rfl
theorem Pair2.symm {w wr : World} {b1 bm1 b2 bm2 : Nat} {sa sb : Rs} (h : Pair2 w b1 bm1 b2 bm2 sa sb wr) : Pair2 w b2 bm2 b1 bm1 sb sa wr := by
  obtain ⟨rv1, pv1, rv2, pv2, h1, h2, h3, h4, h5, h6⟩ := h
  exact ⟨rv2, pv2, rv1, pv1, h2, h1, h3, h5, h4, fun i hi hj => h6 i hj hi⟩
theorem Pair2.below {w wr w' : World} {b1 bm1 b2 bm2 : Nat} {sa sb : Rs} (h : Pair2 w b1 bm1 b2 bm2 sa sb wr) (hb : Below wr.heap.size wr w') : Pair2 w b1 bm1 b2 bm2 sa sb w' := by
  obtain ⟨rv1, pv1, rv2, pv2, h1, h2, h3, h4, h5, h6⟩ := h
  exact ⟨rv1, pv1, rv2, pv2, h1.below hb, h2.below hb, h3.trans (hb.mono h3.size), h4, h5, h6⟩
theorem Pair2.out {w wr : World} {b1 bm1 b2 bm2 : Nat} {sa sb : Rs} (h : Pair2 w b1 bm1 b2 bm2 sa sb wr) : Below w.heap.size w wr := by
  obtain ⟨rv1, pv1, rv2, pv2, h1, h2, h3, _⟩ := h
  exact h3
/-- behind a call on the first one -/
theorem Pair2.go {w wr w' : World} {b1 bm1 b2 bm2 : Nat} {sa sb s' : Rs} {rv1 pv1 rv2 pv2 rv' pv' : Value} (h1 : RsAt wr b1 bm1 rv1 pv1 sa) (h2 : RsAt wr b2 bm2 rv2 pv2 sb) (h3 : Below w.heap.size w wr) (h4 : ∀ i, OwnR b1 bm1 rv1 i → w.heap.size ≤ i) (h5 : ∀ i, OwnR b2 bm2 rv2 i → w.heap.size ≤ i) (h6 : ∀ i, OwnR b1 bm1 rv1 i → ¬ OwnR b2 bm2 rv2 i)
    (r1 : RsAt w' b1 bm1 rv' pv' s') (r2 : Out (OwnR b1 bm1 rv1) wr w') (r3 : Later wr rv1 rv') : Pair2 w b1 bm1 b2 bm2 s' sb w' ∧ Keeps wr w' := by
  obtain ⟨q1, q2⟩ := own_trans h3 h4 r2 r3
  refine ⟨⟨rv', pv', rv2, pv2, r1, h2.other h1 (fun i hi hj => h6 i hj hi) r2, q1, q2, h5, fun i hi hj => ?_⟩, fun g t cs e1 e2 hg => (r2.block g hg.lt (h1.no_blk e1 e2 hg)).trans hg⟩
  rcases hi with rfl | rfl | hi
  · exact h6 _ (.inl rfl) hj
  · exact h6 _ (.inr (.inl rfl)) hj
  · rcases r3 i hi with e | e
    · exact h6 _ (.inr (.inr e)) hj
    · have := h2.own_lt hj; omega
section
variable {w wr : World} {b1 bm1 b2 bm2 : Nat} {sa sb : Rs}
theorem Pair2.put1 (h : Pair2 w b1 bm1 b2 bm2 sa sb wr) (hok : RsOk sa) (hgot : sa.got ≤ 100000000000) (at_ : Nat) (x : ByteArray) (hx : x.size ≤ maxLen) :
    Calls Try.prog 7 #[.pointer (some ⟨b1, 0, none⟩), .int .u64 (at_ : Int), .string x] wr fun e w' => e = .returned (.tuple #[.int .i64 ((putR sa at_ x.data.toList).2.1 : Int), .int .i64 ((putR sa at_ x.data.toList).2.2 : Int)]) ∧ Pair2 w b1 bm1 b2 bm2 (putR sa at_ x.data.toList).1 sb w' ∧ Keeps wr w' := by
  obtain ⟨rv1, pv1, rv2, pv2, h1, h2, h3, h4, h5, h6⟩ := h
  refine (put_r b1 bm1 rv1 pv1 sa wr at_ _ rfl x _ _ rfl rfl h1 hok hgot hx).mono ?_
  rintro e w' ⟨rv', pv', rfl, r1, r2, r3⟩
  exact ⟨rfl, Pair2.go h1 h2 h3 h4 h5 h6 r1 r2 r3⟩
theorem Pair2.take1 (h : Pair2 w b1 bm1 b2 bm2 sa sb wr) (hok : RsOk sa) (k : Int) :
    Calls Try.prog 8 #[.pointer (some ⟨b1, 0, none⟩), .int .i64 k] wr fun e w' => e = .returned (.string ⟨(takeR sa k).2.toArray⟩) ∧ Pair2 w b1 bm1 b2 bm2 (takeR sa k).1 sb w' ∧ Keeps wr w' := by
  obtain ⟨rv1, pv1, rv2, pv2, h1, h2, h3, h4, h5, h6⟩ := h
  refine (take_r b1 bm1 rv1 pv1 sa wr k h1 (by have := hok.len; have := hok.most_le; omega)).mono ?_
  rintro e w' ⟨rv', pv', rfl, r1, r2, r3⟩
  exact ⟨rfl, Pair2.go h1 h2 h3 h4 h5 h6 r1 r2 r3⟩
theorem Pair2.next1 (h : Pair2 w b1 bm1 b2 bm2 sa sb wr) :
    Calls Try.prog 9 #[.pointer (some ⟨b1, 0, none⟩)] wr fun e w' => e = .returned (.int .u64 (sa.next : Int)) ∧ wr = w' := by
  obtain ⟨rv1, pv1, rv2, pv2, h1, h2, h3, h4, h5, h6⟩ := h
  exact next_r b1 bm1 rv1 pv1 sa wr h1
theorem Pair2.ready1 (h : Pair2 w b1 bm1 b2 bm2 sa sb wr) :
    Calls Try.prog 10 #[.pointer (some ⟨b1, 0, none⟩)] wr fun e w' => e = .returned (.int .i64 (sa.ready.length : Int)) ∧ wr = w' := by
  obtain ⟨rv1, pv1, rv2, pv2, h1, h2, h3, h4, h5, h6⟩ := h
  exact ready_r b1 bm1 rv1 pv1 sa wr h1
theorem Pair2.parts1 (h : Pair2 w b1 bm1 b2 bm2 sa sb wr) (hok : RsOk sa) :
    Calls Try.prog 12 #[.pointer (some ⟨b1, 0, none⟩)] wr fun e w' => ∃ A c, e = .returned (.slice A sa.parts.length c) ∧ Below wr.heap.size wr w' := by
  obtain ⟨rv1, pv1, rv2, pv2, h1, h2, h3, h4, h5, h6⟩ := h
  refine (parts_r b1 bm1 rv1 pv1 sa wr h1 (by have := hok.few; omega)).mono ?_
  rintro e w' ⟨v, rfl, ho, hb⟩
  obtain ⟨A, c, rfl, _⟩ := own_slice0 ho
  exact ⟨A, c, rfl, hb⟩
end
/-- two new ones -/
theorem pair_new {w w1 w2 : World} {b1 bm1 b2 bm2 : Nat} {rv1 pv1 rv2 pv2 : Value} {s : Rs} (h1 : RsAt w1 b1 bm1 rv1 pv1 s) (hb1 : Below w.heap.size w w1) (hn1 : ∀ i, OwnR b1 bm1 rv1 i → w.heap.size ≤ i ∧ i < w1.heap.size)
    (h2 : RsAt w2 b2 bm2 rv2 pv2 s) (hb2 : Below w1.heap.size w1 w2) (hn2 : ∀ i, OwnR b2 bm2 rv2 i → w1.heap.size ≤ i ∧ i < w2.heap.size) : Pair2 w b1 bm1 b2 bm2 s s w2 :=
  ⟨rv1, pv1, rv2, pv2, h1.below hb2, h2, hb1.trans (hb2.mono hb1.size), fun i hi => (hn1 i hi).1, fun i hi => Nat.le_trans hb1.size (hn2 i hi).1, fun i hi hj => by have := (hn1 i hi).2; have := (hn2 i hj).1; omega⟩
theorem run_make_bytes (w : World) (m : Nat) (hm : m ≤ 65536) : (Instr.makeSlice 42 (.int .i64 (m : Int)) (.int .i64 (m : Int))).run Try.prog w =
    .ok (.slice (some ⟨w.heap.size, 0, none⟩) m m) (w.alloc (.cells ((List.replicate m (0 : UInt8)).map byteV).toArray 5)) := by
  obtain ⟨i, hi, h0, h1, h2⟩ := info_parts infoU8
  have h := run_make (P := Try.prog) w 42 5 i (.int .u8 0) Try.underlying42 hi h0 .i64 .i64 (m : Int) (m : Int) (by omega) (Int.le_refl _) (by rw [h2]; omega) (by omega)
  rw [Int.toNat_natCast, h1] at h
  have e : madeCells (Value.int .u8 0).cells (m * 1) = ((List.replicate m (0 : UInt8)).map byteV).toArray := by
    apply Array.toList_inj.1
    rw [Nat.mul_one]
    have := toList_madeCells_one (.int .u8 0) m
    show (madeCells #[Value.int .u8 0] m).toList = _
    rw [this]
    simp [byteV]
  rw [e] at h
  exact h
theorem run_zeros (W : World) (m : Nat) : (convert 42 9 (.slice (some ⟨W.heap.size, 0, none⟩) m m)).run Try.prog (W.alloc (.cells ((List.replicate m (0 : UInt8)).map byteV).toArray 5)) = .ok (.string ⟨(List.replicate m (0 : UInt8)).toArray⟩) (W.alloc (.cells ((List.replicate m (0 : UInt8)).map byteV).toArray 5)) := by
  refine run_bytes_back _ ⟨W.heap.size, 0, none⟩ m m (List.replicate m 0) (by simp) (fun j hj => ?_)
  rw [add_plain, Nat.zero_add, (Blk.new W _ _).cell]
  simp at hj
  simp [hj, byteV]
/-- .. where the first one lies below block B -/
def PairB (B : Nat) (w : World) (b1 bm1 b2 bm2 : Nat) (sa sb : Rs) (wr : World) : Prop :=
  ∃ rv1 pv1 rv2 pv2, RsAt wr b1 bm1 rv1 pv1 sa ∧ RsAt wr b2 bm2 rv2 pv2 sb ∧ Below w.heap.size w wr ∧ (∀ i, OwnR b1 bm1 rv1 i → w.heap.size ≤ i) ∧ (∀ i, OwnR b2 bm2 rv2 i → w.heap.size ≤ i) ∧ (∀ i, OwnR b1 bm1 rv1 i → ¬ OwnR b2 bm2 rv2 i) ∧ ∀ i, OwnR b1 bm1 rv1 i → i < B
theorem Pair2.bound {w wr : World} {b1 bm1 b2 bm2 : Nat} {sa sb : Rs} (h : Pair2 w b1 bm1 b2 bm2 sa sb wr) : PairB wr.heap.size w b1 bm1 b2 bm2 sa sb wr := by
  obtain ⟨rv1, pv1, rv2, pv2, h1, h2, h3, h4, h5, h6⟩ := h
  exact ⟨rv1, pv1, rv2, pv2, h1, h2, h3, h4, h5, h6, fun i hi => h1.own_lt hi⟩
theorem PairB.below {B : Nat} {w wr w' : World} {b1 bm1 b2 bm2 : Nat} {sa sb : Rs} (h : PairB B w b1 bm1 b2 bm2 sa sb wr) (hb : Below wr.heap.size wr w') : PairB B w b1 bm1 b2 bm2 sa sb w' := by
  obtain ⟨rv1, pv1, rv2, pv2, h1, h2, h3, h4, h5, h6, h7⟩ := h
  exact ⟨rv1, pv1, rv2, pv2, h1.below hb, h2.below hb, h3.trans (hb.mono h3.size), h4, h5, h6, h7⟩
theorem PairB.put1 {B : Nat} {w wr : World} {b1 bm1 b2 bm2 : Nat} {sa sb : Rs} (h : PairB B w b1 bm1 b2 bm2 sa sb wr) (hok : RsOk sa) (hgot : sa.got ≤ 100000000000) (at_ : Nat) (x : ByteArray) (hx : x.size ≤ maxLen) :
    Calls Try.prog 7 #[.pointer (some ⟨b1, 0, none⟩), .int .u64 (at_ : Int), .string x] wr fun e w' => e = .returned (.tuple #[.int .i64 ((putR sa at_ x.data.toList).2.1 : Int), .int .i64 ((putR sa at_ x.data.toList).2.2 : Int)]) ∧ Pair2 w b1 bm1 b2 bm2 (putR sa at_ x.data.toList).1 sb w' ∧ Keeps wr w' ∧ wr.heap.size ≤ w'.heap.size ∧ ∀ g, B ≤ g → g < wr.heap.size → w'.heap[g]? = wr.heap[g]? := by
  obtain ⟨rv1, pv1, rv2, pv2, h1, h2, h3, h4, h5, h6, h7⟩ := h
  refine (put_r b1 bm1 rv1 pv1 sa wr at_ _ rfl x _ _ rfl rfl h1 hok hgot hx).mono ?_
  rintro e w' ⟨rv', pv', rfl, r1, r2, r3⟩
  obtain ⟨q1, q2⟩ := Pair2.go h1 h2 h3 h4 h5 h6 r1 r2 r3
  exact ⟨rfl, q1, q2, r2.size, fun g hB hg => r2.block g hg (fun ho => by have := h7 g ho; omega)⟩
theorem run_zeros_at {W : World} {g m : Nat} (h : Blk W g 5 ((List.replicate m (0 : UInt8)).map byteV).toArray) : (convert 42 9 (.slice (some ⟨g, 0, none⟩) m m)).run Try.prog W = .ok (.string ⟨(List.replicate m (0 : UInt8)).toArray⟩) W := by
  refine run_bytes_back _ ⟨g, 0, none⟩ m m (List.replicate m 0) (by simp) (fun j hj => ?_)
  rw [add_plain, Nat.zero_add, h.cell]
  simp at hj
  simp [hj, byteV]
end Go.Proofs.Ytbiaphichaomaaa
