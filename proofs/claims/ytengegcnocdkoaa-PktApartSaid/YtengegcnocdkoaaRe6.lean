/- Contracts and plain lemmas: LoadsL, LoadsG, RowB, PktSumAt, SumTurns, FlowS, FlowT, Put, PktHigh, SumTurnsP, Nest, Structs. -/
import Derived.Deep.MidRow
import Derived.Deep.QuietTactic
import Derived.BigQuiet
import Derived.Deep.DeepCutAuto
import Derived.Lib.MinMax
import Derived.Laws.EntriesVeiled
import Derived.Great.BuildSlice
import Derived.ChangeArms
import Derived.Deep.Slices
import Derived.Deep.Fields
import Derived.ChangeSame
import Derived.Test.YtengegcnocdkoaaRe4
import Derived.Test.YtengegcnocdkoaaRe1
import Derived.Test.YtengegcnocdkoaaRe3
set_option linter.unusedVariables false
set_option linter.unusedSimpArgs false
set_option linter.unusedSectionVars false
section
namespace Go.Proofs.Ytengegcnocdkoaa
open Go.RowKit Go.BigFrame
theorem Blk.range {w : World} {g : Nat} {E : TypeId} {cs : Array Value} (h : Blk w g E cs) : w.rangeAt g 0 cs.toList := fun j v hv => by
  have := h.cell j
  rw [Nat.zero_add, this]
  simpa using hv
theorem run_load_blk {P : Program} {w : World} {g : Nat} {E : TypeId} {cs : Array Value} (h : Blk w g E cs) (hu : (P.underlying E).map TypeDesc.isRow = some true) (hi : (P.info? E).map (·.size) = some cs.size) :
    (Instr.loadAt E (.pointer (some ⟨g, 0, none⟩))).run P w = .ok (.agg cs) w := by
  obtain ⟨d, hu, hd⟩ := Option.map_eq_some_iff.1 hu
  have := run_loadAt_mid (P := P) w g 0 E cs.toList d h.range hu hd (by rw [hi]; simp)
  simpa using this
theorem wpl_load {P : Program} {ops : Array Oper} {rest : List Oper} {op : Oper} {a : Act} {w : World} {Q : Exit → Act → World → Prop} {g : Nat} {E : TypeId} {cs : Array Value} (h : Blk w g E cs) (hu : (P.underlying E).map TypeDesc.isRow = some true) (hi : (P.info? E).map (·.size) = some cs.size)
    (hgd : op.guard = none) (x : Operand) (ho : op.op = .load E x) (hx : a.eval x = .pointer (some ⟨g, 0, none⟩)) (hn : wpList P ops Q rest (a.put op.dst (.agg cs)) w) : wpList P ops Q (op :: rest) a w := by
  obtain ⟨d, hu, hd⟩ := Option.map_eq_some_iff.1 hu
  exact wpList_load_mid hgd E x ho g 0 hx cs.toList d h.range hu hd (by rw [hi]; simp) (by simpa using hn)
section
variable {P : Program} {ops : Array Oper} {S : World → Prop} {R : World → World → Prop} {End : List Tmp → List Fc → Act → Prop} {rest : List Oper} {k : Nat} {T : List Tmp} {N : List Fc} {a : Act} {o : Oper}
theorem flow_load {d : Option Tmp} {E : TypeId} {x : Operand} {t : TypeId} {ps : String} {af : Array Edge} {g : Option (Nat × Bool)} (b : Nat) (cs : Array Value) (hb : ∀ y : Cls S, Blk y.w b E cs) (hu : (P.underlying E).map TypeDesc.isRow = some true) (hi : (P.info? E).map (·.size) = some cs.size)
    (hx : a.eval x = .pointer (some ⟨b, 0, none⟩)) (hRr : ∀ w, R w w)
    (hp : plainW ops T { dst := d, op := .load E x, type := t, pos := ps, after := af, guard := g } = true)
    (hg : guardW ops T { dst := d, op := .load E x, type := t, pos := ps, after := af, guard := g } = true) (hw : Region.wanted { dst := d, op := .load E x, type := t, pos := ps, after := af, guard := g } (yielded ops a.tmps) = true) (w0 : World)
    (h : ∀ K : Act → Prop, (∀ a, wpW P ops S R End (k + 1) rest T N a → K a) → Oper.quiet P { dst := d, op := .assign (.const (.agg cs)), type := t, pos := "", after := #[], guard := none } a (fun _ => True) K) :
    wpW P ops S R End k ({ dst := d, op := .load E x, type := t, pos := ps, after := af, guard := g } :: rest) T N a :=
  flow_val (.agg cs) (fun w f hS hN => gives_congr (exec_plain (fun _ _ e => by cases e) hp f) (by
    unfold gives
    simp only [execOp, Sem.run_bind]
    rw [hx, run_load_blk (hb ⟨w, hS⟩) hu hi]
    exact ⟨rfl, hS, hRr _⟩)) hg hw w0 h
end
end Go.Proofs.Ytengegcnocdkoaa
end
section
namespace Go.Proofs.Ytengegcnocdkoaa
open Go.RowKit Go.BigFrame
theorem segU : (Try.prog.underlying 30).map TypeDesc.isRow = some true := by kernel_rfl
theorem segI : (Try.prog.info? 30).map (·.size) = some 16 := by kernel_rfl
end Go.Proofs.Ytengegcnocdkoaa
end
section
namespace Go.Proofs.Ytengegcnocdkoaa
open Go.RowKit
def RowB (w : World) (g : Nat) (M : List UInt8) : Prop := ∃ (cs : Array Value) (lo hi : Nat), w.heap[g]? = some (.cells cs 5 (lo, hi)) ∧ M.length ≤ lo ∧ M.length ≤ cs.size ∧ ∀ (j : Nat) (c : UInt8), M[j]? = some c → cs[j]? = some (u8v c)
theorem RowB.lt {w : World} {g : Nat} {M : List UInt8} (h : RowB w g M) : g < w.heap.size := by
  obtain ⟨cs, lo, hi, h, _⟩ := h
  exact (Array.getElem?_eq_some_iff.1 h).1
theorem RowB.kept {w w' : World} {g : Nat} {M : List UInt8} (h : RowB w g M) (e : w'.heap[g]? = w.heap[g]?) : RowB w' g M := by
  obtain ⟨cs, lo, hi, h1, r⟩ := h
  exact ⟨cs, lo, hi, e.trans h1, r⟩
theorem RowB.below {w w' : World} {g B : Nat} {M : List UInt8} (h : RowB w g M) (hb : Below B w w') (hg : g < B) : RowB w' g M := h.kept (hb.block g hg)
theorem RowB.grown {w w' : World} {g : Nat} {row : Option Nat} {M : List UInt8} (h : RowB w g M) (hb : w.grownBy w' row) (hg : some g ≠ row) : RowB w' g M := h.kept (hb.block g h.lt hg)
theorem RowB.cell {w : World} {g j : Nat} {M : List UInt8} (h : RowB w g M) {c : UInt8} (hj : M[j]? = some c) : w.cell? ⟨g, j, none⟩ = some (u8v c) := by
  obtain ⟨cs, lo, hi, h1, _, _, h2⟩ := h
  rw [cell_of_row w g j cs _ _ h1]
  exact h2 j c hj
theorem RowB.frozen {w : World} {g j : Nat} {M : List UInt8} (h : RowB w g M) (hj : j < M.length) : w.frozen? ⟨g, j, none⟩ = false := by
  obtain ⟨cs, lo, hi, h1, h2, _⟩ := h
  simp [World.frozen?, h1]
  omega
theorem RowB.set_ {w : World} {g k : Nat} {M : List UInt8} (h : RowB w g M) (hk : k < M.length) (c : UInt8) : RowB (w.setCell ⟨g, k, none⟩ (u8v c)) g (M.set k c) := by
  obtain ⟨cs, lo, hi, h1, h2, h3, h4⟩ := h
  refine ⟨cs.setIfInBounds k (u8v c), lo, hi, by simp [World.setCell, Array.getElem?_modify, h1], by simpa using h2, by simpa using h3, fun j d hj => ?_⟩
  rw [List.getElem?_set] at hj
  rw [Array.getElem?_setIfInBounds]
  by_cases e : k = j
  · subst e
    rw [if_pos rfl, if_pos hk] at hj
    cases hj
    rw [if_pos rfl, if_pos (by omega)]
  · rw [if_neg e] at hj
    rw [if_neg e]
    exact h4 j d hj
theorem set_parts (M : List UInt8) (k m : Nat) (c : UInt8) (r : List UInt8) (hk : k < M.length) (hr : r.length = m) : (M.set k c).take (k + 1) ++ r ++ (M.set k c).drop (k + 1 + m) = M.take k ++ (c :: r) ++ M.drop (k + (m + 1)) := by
  have e : M.set k c = (M.take k ++ [c]) ++ M.drop (k + 1) := by rw [List.set_eq_take_append_cons_drop, if_pos hk]; simp
  have hl : (M.take k ++ [c]).length = k + 1 := by rw [List.length_append, List.length_take]; simp; omega
  rw [e, List.take_left' hl, List.drop_append, List.drop_of_length_le (by omega), List.nil_append, hl, List.drop_drop]
  rw [show k + 1 + (k + 1 + m - (k + 1)) = k + (m + 1) by omega]
  simp
theorem storeB {P : Program} (g off : Nat) : ∀ (vs : List UInt8) (i : Nat) (W : World) (M : List UInt8), RowB W g M → off + i + vs.length ≤ M.length →
    ∃ W', (storeCells ⟨g, off, none⟩ (vs.map u8v) i).run P W = .ok () W' ∧ RowB W' g (M.take (off + i) ++ vs ++ M.drop (off + i + vs.length)) ∧ W.grownBy W' (some g)
  | [], i, W, M, h, _ => ⟨W, rfl, by simpa using h, World.grownBy.refl _ _⟩
  | v :: r, i, W, M, h, hl => by
    have ha : (⟨g, off, none⟩ : Addr).add i = ⟨g, off + i, none⟩ := add_plain _ _ _
    simp only [List.length_cons] at hl
    have hi : off + i < M.length := by omega
    have hc := h.cell (List.getElem?_eq_getElem hi)
    have hs : (store ⟨g, off + i, none⟩ (u8v v)).run P W = .ok () (W.setCell ⟨g, off + i, none⟩ (u8v v)) := by
      rw [run_store P W _ (u8v v) .plain rfl, hc, h.frozen hi]
      rfl
    obtain ⟨W', h1, h2, h3⟩ := storeB (P := P) g off r (i + 1) _ _ (h.set_ hi v) (by rw [List.length_set]; omega)
    refine ⟨W', ?_, ?_, ?_⟩
    · rw [List.map_cons]
      unfold storeCells
      rw [ha, Sem.run_bind, hs]
      exact h1
    · have e := set_parts M (off + i) r.length v r hi rfl
      rw [show off + (i + 1) = off + i + 1 by omega, e] at h2
      exact h2
    · have h4 : W.grownBy (W.setCell ⟨g, off + i, none⟩ (u8v v)) (some g) := only_set (World.grownBy.refl _ _) _ _
      exact ⟨h3.os.trans h4.os, h3.tape.trans h4.tape, h3.output.trans h4.output, Nat.le_trans h4.size h3.size, fun i hi hn => (h3.block i (Nat.lt_of_lt_of_le hi h4.size) hn).trans (h4.block i hi hn)⟩
/-- '[]byte(s)' -/
theorem run_bytes_rowB (w : World) (s : ByteArray) (l : List UInt8) (hl : s.data.toList = l) : ∃ (W1 : World) (cap : Nat),
    (convert 9 51 (.string s)).run Try.prog w = .ok (.slice (some ⟨w.heap.size, 0, none⟩) l.length cap) W1 ∧ Below w.heap.size w W1 ∧ W1.heap.size = w.heap.size + 1 ∧ RowB W1 w.heap.size l ∧ l.length ≤ cap := by
  have e : s.size = l.length := by rw [← hl]; simp
  have hr := Lib.run_convert_string_bytes (P := Try.prog) w 9 51 5 s Try.underlying9 Try.underlying51 Try.underlying5
  refine ⟨_, _, by rw [← e]; exact hr, ?_, Lib.bytesWorld_size .., ?_, ?_⟩
  · refine ⟨?_, ?_, ?_, by rw [Lib.bytesWorld_size]; omega, fun i hi => Lib.bytesWorld_at_old w 5 s i hi⟩
    all_goals unfold Lib.bytesWorld World.freeze; split <;> rfl
  · refine ⟨_, _, _, Lib.bytesWorld_at_new w 5 s, ?_, ?_, fun j c hj => ?_⟩
    · simp [Lib.bytesCells]; omega
    · simp [Lib.bytesCells]; omega
    · rw [← hl] at hj
      have hjl : j < s.data.size := by
        have := (List.getElem?_eq_some_iff.1 hj).1
        simpa using this
      have hj' : s.data[j]? = some c := by rw [← hj]; simp
      unfold Lib.bytesCells
      rw [Array.getElem?_append_left (by simpa using hjl), Array.getElem?_map, hj']
      rfl
  · rw [← e]
    exact grownCap_ge _ _ _ _
/-- 'copy(b[k:], t)' -/
theorem run_copy_rowB (w : World) (g off dLen dCap : Nat) (s : ByteArray) (M l : List UInt8) (hs : s.data.toList = l) (hg : RowB w g M) (hd : l.length ≤ dLen) (hfit : off + l.length ≤ M.length) :
    ∃ w', (Builtin.copy_ #[51, 9] 3 #[.slice (some ⟨g, off, none⟩) dLen dCap, .string s]).run Try.prog w = .ok (.int .i64 (l.length : Int)) w' ∧ RowB w' g (M.take off ++ l ++ M.drop (off + l.length)) ∧ w.grownBy w' (some g) := by
  have e : s.size = l.length := by rw [← hs]; simp
  obtain ⟨w', h1, h2, h3⟩ := storeB (P := Try.prog) g off l 0 w M hg (by simpa using hfit)
  rw [Nat.add_zero] at h2
  refine ⟨w', ?_, h2, h3⟩
  have hz : (Try.prog.info? 5).map (·.size) = some 1 := by kernel_rfl
  cases hq : Try.prog.info? 5 with
  | none => simp [hq] at hz
  | some i =>
    have htk : List.take (Nat.min s.size dLen) (List.map (fun b : UInt8 => Value.int IntKind.u8 (b.toNat : Int)) s.data.toList) = l.map u8v := by
      rw [hs, e, show Nat.min l.length dLen = l.length from Nat.min_eq_left hd, List.take_of_length_le (by simp)]
      rfl
    simp [Builtin.copy_, run_underlying Try.underlying51, Builtin.lenOf, Builtin.firstCells, sizeOf, typeInfo, hq]
    rw [htk, h1]
    simp [Result.andThen, goInt, e, Nat.min_eq_left hd]
end Go.Proofs.Ytengegcnocdkoaa
end
section
set_option maxRecDepth 20000
namespace Go.Proofs.Ytengegcnocdkoaa
open Go.RowKit Go.BigFrame
set_option maxHeartbeats 4000000 in
theorem sumAt_any (W : World) (gb gr cap i : Nat) (M : List UInt8) (c0 c1 : UInt8) (h0 : M[i]? = some c0) (h1 : M[i + 1]? = some c1) (hb : Blk W gb 51 #[.slice (some ⟨gr, 0, none⟩) M.length cap]) (hr : RowB W gr M) (hl : M.length ≤ 131072) :
    Calls Try.prog 45 #[.int .i64 (i : Int), .pointer (some ⟨gb, 0, none⟩)] W fun e w' => e = .returned (.int .u16 ((c0.toNat * 256 + c1.toNat : Nat) : Int)) ∧ Below W.heap.size W w' := by
  have b0 := hb.cell 0
  simp at b0
  have x0 := hr.cell h0
  have x1 := hr.cell h1
  have l1 : i + 1 < M.length := (List.getElem?_eq_some_iff.1 h1).1
  have i1 : (i : Int) + 1 < (M.length : Int) := by omega
  have i2 : (i : Int) < (M.length : Int) := by omega
  have i3 : (0 : Int) ≤ (i : Int) := by omega
  have i4 : (i : Int) ≤ 131072 := by omega
  have hor := or_word c0.toNat c1.toNat c0.toNat_lt c1.toNat_lt
  have k0 := c0.toNat_lt
  have k1 := c1.toNat_lt
  have hBn : ∀ m, Below W.heap.size W (W.drewN m) := below_drewN (Below.refl _ _)
  unfold u8v at x0 x1
  generalize c0.toNat = n0 at *
  generalize c1.toNat = n1 at *
  have hw : IntKind.u16.wrap ((n0 : Int) * 256) = (n0 : Int) * 256 := by rw [IntKind.wrap_u16]; omega
  have e0 : IntKind.u16.wrap (n0 : Int) = (n0 : Int) := by rw [IntKind.wrap_u16]; omega
  have e1 : IntKind.u16.wrap (n1 : Int) = (n1 : Int) := by rw [IntKind.wrap_u16]; omega
  clear h0 h1 hb hr hl l1 k0 k1
  generalize M.length = n at *
  have HBn := Lib.hid hBn
  clear hBn
  have Hor := Lib.hid hor
  clear hor
  have Hw := Lib.hid hw
  clear hw
  have E0 := Lib.hid e0
  clear e0
  have E1 := Lib.hid e1
  clear e1
  go_enter Try.func45, Try.ntmps45
  go_upto_region 1 with fail
  go_quiet (fail)
  go_wp2
  go_ret
  exact ⟨ret_int (by rw [E0.out, E1.out, Hw.out]; exact Hor.out), HBn.out _⟩
end Go.Proofs.Ytengegcnocdkoaa
end
section
namespace Go.Proofs.Ytengegcnocdkoaa
open Go.RowKit Go.Shelf
attribute [local go_sem] Oper.semAt_some
theorem infoU16 : (Try.prog.info? 23).map (fun i => (i.zero, i.size, i.bytes)) = some (some (.int .u16 0), 1, 2) := by kernel_rfl
theorem catS_one (s : ByteArray) : catS [s] = s.data.toList := by simp [catS]
def encW (x : W16) : Value := .int .u16 (x.1 : Int)
theorem turn_below (a b c : Nat) (w : World) (ha : a < 65536) (hb : b < 65536) (hc : c < 65536) :
    Calls Try.prog 84 #[.int .u16 (a : Int), .int .u16 (b : Int), .int .u16 (c : Int)] w fun e w' => e = .returned (.int .u16 ((turnL a b c : Nat) : Int)) ∧ Below w.heap.size w w' :=
  (turn_any a b c w ha hb hc).mono fun e w' ⟨h1, h2⟩ => ⟨h1, by rw [h2]; exact (Below.refl _ _).alloc (Nat.le_refl _) _⟩
theorem zip_snoc : ∀ (L C : List Nat) (p : Nat) (h : C.length < L.length), L.zip (C ++ [p]) = L.zip C ++ [(L[C.length], p)]
  | [], _, _, h => absurd h (by simp)
  | a :: L, [], p, _ => by simp
  | a :: L, c :: C, p, h => by
    have := zip_snoc L C p (by simpa using h)
    simp only [List.cons_append, List.zip_cons_cons, this, List.length_cons, List.getElem_cons_succ]
theorem row_type {W : World} {base : Nat} {e : TypeId} {size k : Nat} {v : Value} {xs : List Value} (h : W.ownsRow base e size v k xs) :
    ∀ (g : Nat), v.ownBlock = some g → ∀ cs t d, W.heap[g]? = some (Obj.cells cs t d) → t = e := by
  intro g hg cs t d hc
  rcases h.2 with ⟨rfl, _⟩ | ⟨g', cap, cur, rfl, _, hgb, _⟩
  · simp [Value.ownBlock] at hg
  · obtain rfl : g' = g := by simpa [Value.ownBlock] using hg
    rw [hgb] at hc
    injection hc with hc
    injection hc with _ h2
    exact h2.symm
theorem row_base {W : World} {base : Nat} {e : TypeId} {size k : Nat} {v : Value} {xs : List Value} (h : W.ownsRow base e size v k xs) : ∀ (g : Nat), v.ownBlock = some g → base ≤ g := by
  intro g hg
  rcases h.2 with ⟨rfl, _⟩ | ⟨g', cap, cur, rfl, hb, _⟩
  · simp [Value.ownBlock] at hg
  · obtain rfl : g' = g := by simpa [Value.ownBlock] using hg
    exact hb
set_option maxRecDepth 100000 in
set_option maxHeartbeats 4000000 in
theorem turns_in (s : Nat) (x y : ByteArray) (hs : s < 65536) (hx : x.size ≤ 1099511627776) (hy : y.size ≤ 1099511627776) (n : Nat) (hn : n = min x.size y.size) (w : World) :
    CallsIn Fence.wide 3 Try.prog 47 #[.int .u16 (s : Int), .string x, .string y] w fun e w' =>
      e = .returned (.int .u16 ((turnsL s ((wordsL (x.data.toList.take n)).zip (wordsL (y.data.toList.take n))) : Nat) : Int)) ∧ Below w.heap.size w w' := by
  obtain ⟨i0, hi, hz0, hz1, hz2⟩ := info_parts infoU16
  have hnx : n ≤ x.size := by omega
  have hny : n ≤ y.size := by omega
  have hmin : min (x.size : Int) (y.size : Int) = (n : Int) := by omega
  refine callsIn_of_wp_marks Try.func47 rfl trivial ?_ rfl
  simp only [Try.ntmps47, List.size_toArray, List.length_cons, List.length_nil, Nat.reduceAdd, Nat.reduceSub, Array.replicate_succ, Array.replicate_zero, List.push_toArray, List.append_toArray, List.nil_append, List.cons_append]
  gi_wp2_with (refine ⟨trivial, ?_⟩; gi_at_call 83; refine (words_in _ _ _ _).mono ?_; rintro e w' ⟨rfl, rfl⟩)
  rw [← hn]
  clear hn hmin
  have b0 := ((Boxed.new w 23 (.int .u16 (s : Int))).alloc (.cells #[.slice none 0 0] 120)).alloc (.cells #[.string (x.extract 0 n)] 9)
  have b1 := (Boxed.new (w.alloc (.cells #[.int .u16 (s : Int)] 23)) 120 (.slice none 0 0)).alloc (.cells #[.string (x.extract 0 n)] 9)
  have b2 := Blk.new ((w.alloc (.cells #[.int .u16 (s : Int)] 23)).alloc (.cells #[.slice none 0 0] 120)) 9 #[.string (x.extract 0 n)]
  have b3 := Boxed.new (((w.alloc (.cells #[.int .u16 (s : Int)] 23)).alloc (.cells #[.slice none 0 0] 120)).alloc (.cells #[.string (x.extract 0 n)] 9)) 132 (.slice (some ⟨w.heap.size + 1 + 1, 0, none⟩) 1 1)
  have hB0 : Below w.heap.size w ((((w.alloc (.cells #[.int .u16 (s : Int)] 23)).alloc (.cells #[.slice none 0 0] 120)).alloc (.cells #[.string (x.extract 0 n)] 9)).alloc (.cells #[.slice (some ⟨w.heap.size + 1 + 1, 0, none⟩) 1 1] 132)) :=
    ((((Below.refl _ w).alloc (Nat.le_refl _) _).alloc (by simp) _).alloc (by simp; omega) _).alloc (by simp; omega) _
  have b0 := b0.alloc (.cells #[.slice (some ⟨w.heap.size + 1 + 1, 0, none⟩) 1 1] 132)
  have b1 := b1.alloc (.cells #[.slice (some ⟨w.heap.size + 1 + 1, 0, none⟩) 1 1] 132)
  have b2 := Blk.alloc b2 (.cells #[.slice (some ⟨w.heap.size + 1 + 1, 0, none⟩) 1 1] 132)
  have hsz : ((((w.alloc (.cells #[.int .u16 (s : Int)] 23)).alloc (.cells #[.slice none 0 0] 120)).alloc (.cells #[.string (x.extract 0 n)] 9)).alloc (.cells #[.slice (some ⟨w.heap.size + 1 + 1, 0, none⟩) 1 1] 132)).heap.size = w.heap.size + 4 := by simp
  simp only [World.size_alloc] at b1 b2 b3
  generalize (((w.alloc (.cells #[.int .u16 (s : Int)] 23)).alloc (.cells #[.slice none 0 0] 120)).alloc (.cells #[.string (x.extract 0 n)] 9)).alloc (.cells #[.slice (some ⟨w.heap.size + 1 + 1, 0, none⟩) 1 1] 132) = W0 at *
  have hL : catS [x.extract 0 n] = x.data.toList.take n := by rw [catS_one, ByteArray.data_extract]; simp
  refine wpIn_rangeFunc_ownG rfl (by omega) (gf := 98) (lb := #[.pointer (some ⟨w.heap.size + 1 + 1 + 1, 0, none⟩)]) rfl trivial (enters_of Try.func98 (by kernel_rfl) rfl)
    (words_stops w.heap.size (w.heap.size + 1 + 1 + 1) (some ⟨w.heap.size + 1 + 1, 0, none⟩) 1 1 [x.extract 0 n] rfl (by omega) (by simp only [maxLen]; simp; omega) _ (by omega) (by omega) b3.cell (Stable.of_blk b2)) KeepsBytes.trans (KeepsBytes.putObj (by omega)) (Below.refl _ _) (fun _ => rfl)
    (fun pre W => (∃ v, Boxed W (w.heap.size + 1) 120 v ∧ W.ownsRow (w.heap.size + 1) 23 1 v pre.length (pre.map encW) ∧ True) ∧ Boxed W w.heap.size 23 (.int .u16 (s : Int)) ∧ Below w.heap.size w W)
    (fun _ _ _ => False)
    (OwnFrom.and (Own.from (holdsRow_own (w.heap.size + 1) (w.heap.size + 1) 120 23 1 (fun pre : List W16 => pre.length) (fun pre => pre.map encW) (fun _ _ => True)) _) (OwnFrom.and (Own.from (boxed_own _ _ fun _ : List W16 => .int .u16 (s : Int)) _) (ownFrom_below (Nat.le_refl _) (by omega))))
    (fun _ _ _ _ _ hs _ _ => hs)
    ⟨⟨_, b1, World.ownsRow_nil _ _ _ _, trivial⟩, b0, hB0⟩
    (fun x1 => { tmps := #[.int .u16 (s : Int), .string x, .string y, .pointer (some ⟨w.heap.size, 0, none⟩), undef, undef, .int .u16 0, .int .i64 (n : Int), .pointer (some ⟨w.heap.size + 1, 0, none⟩), .int .u16 (x1.1 : Int), undef, undef, .string x, .int .i64 (x.size : Int), .string y, .int .i64 (y.size : Int), .int .i64 (n : Int), .string x, .int .i64 (n : Int), .string (x.extract 0 n), .slice (some ⟨w.heap.size + 1 + 1, 0, none⟩) 1 1, .func (.func 98) #[] #[.pointer (some ⟨w.heap.size + 1 + 1 + 1, 0, none⟩)], .int .u16 (x1.1 : Int), undef, undef, undef, undef, undef, undef, undef, undef, undef, undef, undef, undef, undef, undef, undef, undef, undef, undef, undef, undef], defers := [] }) ?assign ?body ?done ?stop
  case assign =>
    intro l x1 W K hK
    gi_wp2
    exact hK
  case stop =>
    rintro D c pre W _ _ h _
    exact h.elim
  case body =>
    rintro l pre x1 W ⟨⟨v, hv, hrow, _⟩, hb, hB⟩ hlt
    have hlen : pre.length < 1099511627776 := by
      rw [hL, wordsL_length] at hlt
      simp at hlt
      omega
    obtain ⟨xv, hxv⟩ := x1
    dsimp only
    have hc := hv.cell
    have hf := hv.frozen
    have hn1 : w.heap.size + 1 ≤ W.heap.size := by have := hv.lt; omega
    clear hlt hL b0 b1 b2 b3
    have HS := Lib.hid hsz
    clear hsz
    gi_wp2_with (gi_at_builtin; refine wpListIn_append_own _ rfl _ _ 120 rfl (w.heap.size + 1) 23 i0 (.int .u16 0) 1 2 Try.underlying120 hi hz0 hz1 hz2 rfl (by decide) _ _ _ rfl (hrow.alloc _) ⟨W.heap.size, 0, none⟩ 1 1 [encW ⟨xv, hxv⟩] rfl rfl (cell_one_new _ _ _) (by simp [Value.oneCell', encW]) (by simp only [maxLen]; omega) (by omega) (by simp; omega) ?_; intro v' w1 hown' hgrow _; obtain ⟨g', cap', rfl⟩ := ownsRow_succ hown'; obtain ⟨hv1, hv2, hr2, hk2, hb2⟩ := hv.appended (by decide) hrow hn1 (Nat.le_refl _) hown' hgrow; have hc1 := hv1.cell; have hf1 := hv1.frozen)
    have hne : some w.heap.size ≠ v.ownBlock := fun e => by have := row_base hrow _ e.symm; omega
    have hkb : KeepsBytes w.heap.size W (w1.setCell ⟨w.heap.size + 1, 0, none⟩ (.slice (some ⟨g', 0, none⟩) (pre.length + 1) cap')) := by
      refine (KeepsBytes.of_below (by omega) ((Below.refl _ W).alloc (Nat.le_refl _) (.cells #[.int .u16 (xv : Int)] 23))).trans ((KeepsBytes.of_grown ?_ hgrow ?_).trans (KeepsBytes.of_grown ((Below.refl _ w1).setCell (p := ⟨w.heap.size + 1, 0, none⟩) (by simp) _) (grownBy_setCell' _ _ _) ?_))
      · exact (Below.refl _ _).grown hgrow (by simp; omega) (fun j ej => by have := row_base hrow _ ej; omega)
      · intro g hg cs t d ht hcs
        have := row_type (hrow.alloc _) g hg cs t d hcs
        rcases ht with rfl | rfl <;> cases this
      · intro g hg cs t d ht hcs
        cases hg
        rw [show w1.heap[w.heap.size + 1]? = _ from hv1] at hcs
        rcases ht with rfl | rfl <;> cases hcs
    exact ⟨hk2.from _, hkb, ⟨⟨_, hv2, by simpa using hr2, trivial⟩, ((hb.alloc _).kept hgrow hne).other (by omega) _, hB.trans (hb2.mono (by omega))⟩⟩
  case done =>
    rintro D xs W hD hS ⟨⟨v, hv, hrow, _⟩, hb, hB⟩ hK
    clear b0 b1 b2 b3
    gi_wp2_with (refine ⟨trivial, ?_⟩; gi_at_call 83; refine (words_in _ _ _ _).mono ?_; rintro e w' ⟨rfl, rfl⟩)
    have hDlt : D < W.heap.size := (Array.getElem?_eq_some_iff.1 hK).1
    have hn1 : w.heap.size + 1 < W.heap.size := by have := hv.lt; omega
    have c0 := ((hb.alloc (.cells #[.int .i64 0] 3)).alloc (.cells #[.string (y.extract 0 n)] 9)).alloc (.cells #[.slice (some ⟨W.heap.size + 1, 0, none⟩) 1 1] 132)
    have c1 := ((hv.alloc (.cells #[.int .i64 0] 3)).alloc (.cells #[.string (y.extract 0 n)] 9)).alloc (.cells #[.slice (some ⟨W.heap.size + 1, 0, none⟩) 1 1] 132)
    have cr := ((hrow.alloc (.cells #[.int .i64 0] 3)).alloc (.cells #[.string (y.extract 0 n)] 9)).alloc (.cells #[.slice (some ⟨W.heap.size + 1, 0, none⟩) 1 1] 132)
    have c2 := ((Boxed.new W 3 (.int .i64 0)).alloc (.cells #[.string (y.extract 0 n)] 9)).alloc (.cells #[.slice (some ⟨W.heap.size + 1, 0, none⟩) 1 1] 132)
    have c3 := Blk.alloc (Blk.new (W.alloc (.cells #[.int .i64 0] 3)) 9 #[.string (y.extract 0 n)]) (.cells #[.slice (some ⟨W.heap.size + 1, 0, none⟩) 1 1] 132)
    have c4 := Boxed.new ((W.alloc (.cells #[.int .i64 0] 3)).alloc (.cells #[.string (y.extract 0 n)] 9)) 132 (.slice (some ⟨W.heap.size + 1, 0, none⟩) 1 1)
    have cB : Below W.heap.size W (((W.alloc (.cells #[.int .i64 0] 3)).alloc (.cells #[.string (y.extract 0 n)] 9)).alloc (.cells #[.slice (some ⟨W.heap.size + 1, 0, none⟩) 1 1] 132)) :=
      (((Below.refl _ W).alloc (Nat.le_refl _) _).alloc (by simp) _).alloc (by simp; omega) _
    have csz : (((W.alloc (.cells #[.int .i64 0] 3)).alloc (.cells #[.string (y.extract 0 n)] 9)).alloc (.cells #[.slice (some ⟨W.heap.size + 1, 0, none⟩) 1 1] 132)).heap.size = W.heap.size + 3 := by simp
    simp only [World.size_alloc] at c3 c4
    have hB1 := hB.trans (cB.mono (by omega))
    have hK1 := (cB.block D hDlt).trans hK
    generalize ((W.alloc (.cells #[.int .i64 0] 3)).alloc (.cells #[.string (y.extract 0 n)] 9)).alloc (.cells #[.slice (some ⟨W.heap.size + 1, 0, none⟩) 1 1] 132) = W2 at *
    have hL2 : catS [y.extract 0 n] = y.data.toList.take n := by rw [catS_one, ByteArray.data_extract]; simp
    have hlx : xs.length = (n + 1) / 2 := by
      have := congrArg List.length hS
      rw [hL, wordsL_length] at this
      simp at this
      omega
    refine wpIn_rangeFunc_ownG rfl (by omega) (gf := 98) (lb := #[.pointer (some ⟨W.heap.size + 1 + 1, 0, none⟩)]) rfl trivial (enters_of Try.func98 (by kernel_rfl) rfl)
      (words_stops w.heap.size (W.heap.size + 1 + 1) (some ⟨W.heap.size + 1, 0, none⟩) 1 1 [y.extract 0 n] rfl (by omega) (by simp only [maxLen]; simp; omega) _ (by omega) (by omega) c4.cell (Stable.of_blk c3)) KeepsBytes.trans (KeepsBytes.putObj (by omega)) (Below.refl _ _) (fun _ => rfl)
      (fun pre Z => (∃ v', Boxed Z (w.heap.size + 1) 120 v' ∧ Z.ownsRow (w.heap.size + 1) 23 1 v' xs.length (xs.map encW) ∧ v' = v) ∧ Boxed Z w.heap.size 23 (.int .u16 ((turnsL s ((xs.map (·.1)).zip (pre.map (·.1))) : Nat) : Int)) ∧ Boxed Z W.heap.size 3 (.int .i64 (pre.length : Int)) ∧ Z.heap[D]? = some (.deferred (some [])) ∧ Below w.heap.size w Z)
      (fun _ _ _ => False)
      (OwnFrom.and (Own.from (holdsRow_own (w.heap.size + 1) (w.heap.size + 1) 120 23 1 (fun _ : List W16 => xs.length) (fun _ => xs.map encW) (fun _ v' => v' = v)) _)
        (OwnFrom.and (Own.from (boxed_own _ _ fun pre : List W16 => .int .u16 ((turnsL s ((xs.map (·.1)).zip (pre.map (·.1))) : Nat) : Int)) _)
          (OwnFrom.and (Own.from (boxed_own _ _ fun pre : List W16 => .int .i64 (pre.length : Int)) _)
            (OwnFrom.and (fun _ X Y row hs hg hr => (hg.block D (Array.getElem?_eq_some_iff.1 hs).1 (fun e => by have := (hr D e.symm).1; omega)).trans hs) (ownFrom_below (Nat.le_refl _) (by omega))))))
      (fun _ _ _ _ _ hs _ _ => hs)
      ⟨⟨v, c1, cr, rfl⟩, by simpa [turnsL] using c0, c2, hK1, hB1⟩
      (fun x1 => { tmps := #[.int .u16 (s : Int), .string x, .string y, .pointer (some ⟨w.heap.size, 0, none⟩), undef, undef, .int .u16 0, .int .i64 (n : Int), .pointer (some ⟨w.heap.size + 1, 0, none⟩), undef, .pointer (some ⟨W.heap.size, 0, none⟩), .int .u16 (x1.1 : Int), .string x, .int .i64 (x.size : Int), .string y, .int .i64 (y.size : Int), .int .i64 (n : Int), .string x, .int .i64 (n : Int), .string (x.extract 0 n), .slice (some ⟨w.heap.size + 1 + 1, 0, none⟩) 1 1, .func (.func 98) #[] #[.pointer (some ⟨w.heap.size + 1 + 1 + 1, 0, none⟩)], undef, undef, undef, undef, undef, .string y, .int .i64 (n : Int), .string (y.extract 0 n), .slice (some ⟨W.heap.size + 1, 0, none⟩) 1 1, .func (.func 98) #[] #[.pointer (some ⟨W.heap.size + 1 + 1, 0, none⟩)], .int .u16 (x1.1 : Int), undef, undef, undef, undef, undef, undef, undef, undef, undef, undef], defers := [] }) ?assign2 ?body2 ?done2 ?stop2
    case assign2 =>
      intro l x1 Z K hK
      gi_wp2
      exact hK
    case stop2 =>
      rintro D2 c pre Z _ _ h _
      exact h.elim
    case body2 =>
      rintro l pre x1 Z ⟨⟨v', hv', hrow', rfl⟩, hb', hi', hK', hB'⟩ hlt
      rw [hL2, wordsL_length] at hlt
      have hkx : pre.length < xs.length := by rw [hlx]; simp at hlt; omega
      obtain ⟨A, c, rfl, hrd⟩ := own_slice hrow'
      obtain ⟨ad, u, rfl, hadl, hu, hcl⟩ := hrd.at_ hkx
      rw [List.getElem?_map, List.getElem?_eq_getElem hkx] at hu
      simp only [Option.map_some, Option.some.injEq, encW] at hu
      subst hu
      have hzip : (xs.map (·.1)).zip ((pre ++ [x1]).map (·.1)) = (xs.map (·.1)).zip (pre.map (·.1)) ++ [(xs[pre.length].1, x1.1)] := by
        have := zip_snoc (xs.map (·.1)) (pre.map (·.1)) x1.1 (by simpa using hkx)
        simp only [List.map_append, List.map_cons, List.map_nil]
        rw [this]
        simp
      have ht := turnsL_snoc s ((xs.map (·.1)).zip (pre.map (·.1))) (xs[pre.length].1, x1.1)
      rw [← hzip] at ht
      have hq := turnsL_le (s := s) (by omega) ((xs.map (·.1)).zip (pre.map (·.1)))
      have hy16 := xs[pre.length].2
      obtain ⟨xv, hxv⟩ := x1
      dsimp only at ht ⊢
      generalize xs[pre.length].1 = yv at *
      generalize turnsL s ((xs.map (·.1)).zip (pre.map (·.1))) = q at *
      have hlx2 : xs.length < 1099511627776 := by omega
      have HS2 := Lib.hid hD
      rw [hsz] at HS2
      clear hlt hL hL2 hzip hlx hS c0 c1 c2 c3 c4 cr hrd hrow hv hb hK hB
      have HT := Lib.hid ht
      clear ht
      have z0 := hb'.cell
      have z0f := hb'.frozen
      have z1 := hv'.cell
      have z2 := hi'.cell
      have z2f := hi'.frozen
      have hmx : Try.prog.follows .mixedOrders = true := by kernel_rfl
      have hd : 1 ≤ 3 - 1 - 1 := by omega
      gi_wp2
      gi_region_with_o (refine ⟨trivial, ?_⟩; gi_at_call 84; refine (CallsIn.inRound l (callsIn_wide.2 (turn_below q yv xv _ (by omega) hy16 hxv))).mono ?_; rintro e w' ⟨rfl, hbw⟩; have y0 := (Boxed.kept (W := Z.drew) (W' := w') hb' (only_of_below hbw none) (by simp)).cell; have y0f := (Boxed.kept (W := Z.drew) (W' := w') hb' (only_of_below hbw none) (by simp)).frozen)
      all_goals
        have hDb : w.heap.size + 4 ≤ D := by have := HS2.out; omega
        have hnr : (Value.slice (some ad) xs.length c).ownBlock ≠ some w.heap.size := fun e => by have := row_base hrow' _ e; omega
        have g0 : Z.drew.grownBy (w'.setCell ⟨w.heap.size, 0, none⟩ (.int .u16 ((turnL q yv xv : Nat) : Int))) (some w.heap.size) := only_set (only_of_below hbw (some w.heap.size)) 0 _
        have e0 : Boxed (w'.setCell ⟨w.heap.size, 0, none⟩ (.int .u16 ((turnL q yv xv : Nat) : Int))) w.heap.size 23 (.int .u16 ((turnL q yv xv : Nat) : Int)) := (Boxed.kept (W := Z.drew) hb' (only_of_below hbw none) (by simp)).set _
        have e1 : Boxed (w'.setCell ⟨w.heap.size, 0, none⟩ (.int .u16 ((turnL q yv xv : Nat) : Int))) (w.heap.size + 1) 120 (.slice (some ad) xs.length c) := Boxed.kept (W := Z.drew) hv' g0 (by simp)
        have e2 : Boxed (w'.setCell ⟨w.heap.size, 0, none⟩ (.int .u16 ((turnL q yv xv : Nat) : Int))) W.heap.size 3 (.int .i64 (pre.length : Int)) := Boxed.kept (W := Z.drew) hi' g0 (by simp; omega)
        have er : (w'.setCell ⟨w.heap.size, 0, none⟩ (.int .u16 ((turnL q yv xv : Nat) : Int))).ownsRow (w.heap.size + 1) 23 1 (.slice (some ad) xs.length c) xs.length (xs.map encW) := World.ownsRow.kept (w := Z.drew) hrow' g0 (.inr hnr)
        have eK := (g0.block D (Array.getElem?_eq_some_iff.1 hK').1 (by simp; omega)).trans hK'
        have eB : Below w.heap.size Z (w'.setCell ⟨w.heap.size, 0, none⟩ (.int .u16 ((turnL q yv xv : Nat) : Int))) := (Below.drew (Below.refl w.heap.size Z)).trans ((hbw.mono hB'.size).setCell (p := ⟨w.heap.size, 0, none⟩) (Nat.le_refl _) _)
        have ko : KeepsOthers Z (w'.setCell ⟨w.heap.size, 0, none⟩ (.int .u16 ((turnL q yv xv : Nat) : Int))) := (KeepsOthers.drew Z).trans ((KeepsOthers.of_grownBy (only_of_below hbw none) (by simp)).trans (KeepsOthers.setCell _ _ _))
        have kbz : KeepsBytes w.heap.size Z.drew (w'.setCell ⟨w.heap.size, 0, none⟩ (.int .u16 ((turnL q yv xv : Nat) : Int))) := KeepsBytes.of_grown (A := Z.drew) ((hbw.mono hB'.size).setCell (p := ⟨w.heap.size, 0, none⟩) (Nat.le_refl _) _) g0 (by
          intro g hg cs t d ht hcs
          cases hg
          rw [show Z.drew.heap[w.heap.size]? = _ from hb'] at hcs
          rcases ht with rfl | rfl <;> cases hcs)
        have kb : KeepsBytes w.heap.size Z (w'.setCell ⟨w.heap.size, 0, none⟩ (.int .u16 ((turnL q yv xv : Nat) : Int))) := ⟨eB, fun i cs t d ht e => kbz.2 i cs t d ht e⟩
        clear kbz
        have e2c := e2.cell
        have e2f := e2.frozen
        clear y0 y0f hbw z0 z0f z1 z2 z2f hcl g0
        generalize w'.setCell ⟨w.heap.size, 0, none⟩ (.int .u16 ((turnL q yv xv : Nat) : Int)) = Y at *
        gi_wp2
        have f2 := e2.set (.int .i64 ((pre.length : Int) + 1))
        have bl : Below w.heap.size Y (Y.setCell ⟨W.heap.size, 0, none⟩ (.int .i64 ((pre.length : Int) + 1))) := (Below.refl _ Y).setCell (p := ⟨W.heap.size, 0, none⟩) (by simp; omega) _
        exact ⟨(ko.trans (KeepsOthers.setCell _ _ _)).from _, kb.trans (KeepsBytes.of_grown bl (grownBy_setCell' _ _ _) (by
            intro g hg cs t d ht hcs
            cases hg
            rw [show Y.heap[W.heap.size]? = _ from e2] at hcs
            rcases ht with rfl | rfl <;> cases hcs)),
          ⟨_, e1.other (by omega) _, er.kept (grownBy_setCell' _ _ _) (.inr (e2.not_row (by decide) er).symm), rfl⟩, by rw [HT.out]; exact e0.other (by omega) _, by simpa using f2,
          ((grownBy_setCell' Y W.heap.size _).block D (Array.getElem?_eq_some_iff.1 eK).1 (by simp; omega)).trans eK, hB'.trans (eB.trans bl)⟩
    case done2 =>
      rintro D2 zs Z hD2 hS2 ⟨⟨v', hv', hrow', rfl⟩, hb', hi', hK', hB'⟩ hK2
      have hq := turnsL_le (s := s) (by omega) ((xs.map (·.1)).zip (zs.map (·.1)))
      rw [hS, hS2, hL, hL2] at hq hb'
      obtain ⟨q, hqe⟩ : ∃ q, turnsL s ((wordsL (x.data.toList.take n)).zip (wordsL (y.data.toList.take n))) = q := ⟨_, rfl⟩
      rw [hqe] at hq hb'
      have HQ := Lib.hid hqe
      clear hqe
      have hc := hb'.cell
      clear hS hS2 hL hL2 hlx cr c0 c1 c2 c3 c4
      gi_wp2
      have hK3 : (Z.putObj D2 (.deferred none)).heap[D]? = some (.deferred (some [])) := (World.putObj_heap_other (by omega)).trans hK'
      refine ⟨by simp, .inl ⟨_, _, rfl, run_takeDeferred hK2, ?_⟩⟩
      refine ⟨by simp, .inl ⟨_, _, rfl, run_takeDeferred hK3, ?_⟩⟩
      refine ⟨_, results_tmp rfl _ _ _, ?_, ?_⟩
      · exact ret_nat HQ.out.symm
      have hDw : w.heap.size ≤ D := by omega
      have hDw2 : w.heap.size ≤ D2 := by omega
      exact hB'.trans ((belowK_b (w := w) (Nat.le_refl _) Z D2 _ _ hDw2 hK2 rfl rfl).trans (belowK_b (w := w) (Nat.le_refl _) _ D _ _ hDw hK3 rfl rfl))
theorem turns_any (s : Nat) (x y : ByteArray) (hs : s < 65536) (hx : x.size ≤ 1099511627776) (hy : y.size ≤ 1099511627776) (w : World) :
    Calls Try.prog 47 #[.int .u16 (s : Int), .string x, .string y] w fun e w' =>
      e = .returned (.int .u16 ((turnsL s ((wordsL (x.data.toList.take (min x.size y.size))).zip (wordsL (y.data.toList.take (min x.size y.size)))) : Nat) : Int)) ∧ Below w.heap.size w w' :=
  callsIn_wide.1 (turns_in s x y hs hx hy _ rfl w)
end Go.Proofs.Ytengegcnocdkoaa
end
section
namespace Go.Proofs.Ytengegcnocdkoaa
open Go.RowKit
section
variable {P : Program} {ops : Array Oper} {S : World → Prop} {R : World → World → Prop} {End : List Tmp → List Fc → Act → Prop} {rest : List Oper} {k : Nat} {T : List Tmp} {N : List Fc} {a : Act} {o : Oper}
/-- nothing below B turns; blocks that were just laid with the cells z may get the cells c -/
structure Lays (B : Nat) (E : TypeId) (z c : Array Value) (w w' : World) : Prop where
  size : w.heap.size ≤ w'.heap.size
  keep : ∀ g, Blk w g E c → Blk w' g E c
  turn : ∀ g, Blk w g E z → Blk w' g E z ∨ Blk w' g E c
theorem Lays.refl {B : Nat} {E : TypeId} {z c : Array Value} (w : World) : Lays B E z c w w := ⟨Nat.le_refl _, fun _ h => h, fun _ h => .inl h⟩
theorem Lays.of_below {B : Nat} {E : TypeId} {z c : Array Value} {w w' : World} (h : Below w.heap.size w w') : Lays B E z c w w' := ⟨h.size, fun _ hg => hg.below h hg.lt, fun _ hg => .inl (hg.below h hg.lt)⟩
/-- what is known of a variable that was just laid -/
def varNew (B : Nat) (E : TypeId) (z c : Array Value) (l : List Value) (W : World) : Prop := ∃ g, l = [.pointer (some ⟨g, 0, none⟩)] ∧ B ≤ g ∧ (Blk W g E z ∨ Blk W g E c)
def varSet (B : Nat) (E : TypeId) (c : Array Value) (l : List Value) (W : World) : Prop := ∃ g, l = [.pointer (some ⟨g, 0, none⟩)] ∧ B ≤ g ∧ Blk W g E c
theorem varNew.of {B : Nat} {E : TypeId} {z c : Array Value} (l : List Value) (w w' : World) (hb : Lays B E z c w w') (h : varNew B E z c l w) : varNew B E z c l w' := by
  obtain ⟨g, h1, h2, h3⟩ := h
  refine ⟨g, h1, h2, ?_⟩
  rcases h3 with h3 | h3
  · exact hb.turn g h3
  · exact .inr (hb.keep g h3)
theorem varSet.of {B : Nat} {E : TypeId} {z c : Array Value} (l : List Value) (w w' : World) (hb : Lays B E z c w w') (h : varSet B E c l w) : varSet B E c l w' := by
  obtain ⟨g, h1, h2, h3⟩ := h
  exact ⟨g, h1, h2, hb.keep g h3⟩
end
end Go.Proofs.Ytengegcnocdkoaa
end
section
namespace Go.Proofs.Ytengegcnocdkoaa
open Go.RowKit
section
variable {P : Program} {ops : Array Oper} {S : World → Prop} {R : Nat → World → World → Prop} {U : List (Nat × (World → Prop))} {End : List Tmp → List Fc → Act → Prop} {rest : List Oper} {k : Nat} {T : List Tmp} {N : List Fc} {a : Act} {o : Oper}
/-- an operation whose value is told ahead, and which writes: a fact on the world behind it (and how it stood until then) -/
theorem flowu_do {d : Option Tmp} {op : Op} {t : TypeId} {ps : String} {af : Array Edge} {g : Option (Nat × Bool)} (v : Value) (ψ : List Value → World → Prop) (hst : ∀ l i w w', i ≠ k → R i w w' → ψ l w → ψ l w') (hsel : ∀ cs x, op ≠ .select cs x)
    (hp : plainW ops T { dst := d, op := op, type := t, pos := ps, after := af, guard := g } = true)
    (hrun : ∀ w, S w → untilU U k w → ∃ w', (execOp a.eval { dst := d, op := op, type := t, pos := ps, after := af, guard := g }).run P w = .ok (.value v) w' ∧ ψ [] w' ∧ S w' ∧ R k w w')
    (hg : guardW ops T { dst := d, op := op, type := t, pos := ps, after := af, guard := g } = true) (hw : Region.wanted { dst := d, op := op, type := t, pos := ps, after := af, guard := g } (yielded ops a.tmps) = true) (w0 : World)
    (h : ∀ K : Act → Prop, (∀ a, wpU P ops S R U End (k + 1) rest T (⟨k, [], ψ⟩ :: N) a → K a) → Oper.quiet P { dst := d, op := .assign (.const v), type := t, pos := "", after := #[], guard := none } a (fun _ => True) K) :
    wpU P ops S R U End k ({ dst := d, op := op, type := t, pos := ps, after := af, guard := g } :: rest) T N a :=
  flowu_stay0 v ψ hst (fun w f hS hN hut => gives_congr (exec_plain hsel hp f) (by
    obtain ⟨w', h1, h2, h3, h4⟩ := hrun w hS hut
    unfold gives
    rw [h1]
    exact ⟨⟨rfl, h2⟩, h3, h4⟩)) hg hw w0 h
/-- a call with a slot among its arguments that a fact tells; its value is the same in all that the fact tells -/
theorem flowu_callY {d : Option Tmp} {f : FuncId} {y : Tmp} {xs : Array Operand} {ts : Array TypeId} {t : TypeId} {ps : String} {af : Array Edge} {g : Option (Nat × Bool)}
    (hcf : ∀ (vals : Array Value) (w : World), (callFunc f vals).run P w = .ok (.enter f vals) w) (v : Value) (vals : Value → Array Value) (j : Nat) {i : Nat} {ψ : List Value → World → Prop} (hj : N[j]? = some ⟨i, [y], ψ⟩) (hwt : waitsB { dst := d, op := .call { callee := .value (.func f), args := xs, argTypes := ts }, type := t, pos := ps, after := af, guard := g } i = true)
    (hv : ∀ f', xs.toList.map (fillW T f' a).eval = (vals (f' y)).toList) (hc : ∀ (x : Cls S) (u : Value), ψ [u] x.w → Calls P f (vals u) x.w fun e w'' => e = .returned v ∧ S w'' ∧ R k x.w w'')
    (hg : guardW ops T { dst := d, op := .call { callee := .value (.func f), args := xs, argTypes := ts }, type := t, pos := ps, after := af, guard := g } = true)
    (hw : Region.wanted { dst := d, op := .call { callee := .value (.func f), args := xs, argTypes := ts }, type := t, pos := ps, after := af, guard := g } (yielded ops a.tmps) = true) (w0 : World)
    (h : ∀ K : Act → Prop, (∀ a, wpU P ops S R U End (k + 1) rest T N a → K a) → Oper.quiet P { dst := d, op := .assign (.const v), type := t, pos := "", after := #[], guard := none } a (fun _ => True) K) :
    wpU P ops S R U End k ({ dst := d, op := .call { callee := .value (.func f), args := xs, argTypes := ts }, type := t, pos := ps, after := af, guard := g } :: rest) T N a :=
  flowu_val v (fun w f' hS hN hut => by
    have hv' : xs.map (fillW T f' a).eval = vals (f' y) := Array.ext' (by rw [Array.toList_map]; exact hv f')
    have he : (execOp (fillW T f' a).eval { dst := d, op := .call { callee := .value (.func f), args := xs, argTypes := ts }, type := t, pos := ps, after := af, guard := g }).run P w = .ok (.enter f (vals (f' y))) w := by
      simp only [execOp, resolve, hv']
      simp [Act.eval, Deferred.ofValue, invoke, hcf]
    unfold gives
    rw [he]
    exact (hc ⟨w, hS⟩ (f' y) (known_at hN j hj hwt)).mono fun e w'' ⟨he, hs, hr⟩ => ⟨v, he, rfl, hs, hr⟩) hg hw w0 h
variable {ρ : Type} (ag : ρ → Array Value) (ok : ρ → Value) (Q : ρ → World → Prop)
/-- a variable that was laid: some cells in it -/
def varAny (B : Nat) (E : TypeId) (n : Nat) (l : List Value) (W : World) : Prop := ∃ g, l = [.pointer (some ⟨g, 0, none⟩)] ∧ B ≤ g ∧ ∃ cs, cs.size = n ∧ Blk W g E cs
def varIn (B : Nat) (E : TypeId) (l : List Value) (W : World) : Prop := ∃ r g, l = [.pointer (some ⟨g, 0, none⟩), .agg (ag r)] ∧ B ≤ g ∧ Blk W g E (ag r)
/-- a new block of type E turns, and nothing else -/
def TurnsNew (B : Nat) (E : TypeId) (n : Nat) (w w' : World) : Prop := ∃ g cs cs', B ≤ g ∧ cs.size = n ∧ cs'.size = n ∧ Blk w g E cs ∧ Blk w' g E cs' ∧ w.grownBy w' (some g)
/-- operation kc may write to the row, operation ks to a new block of type E, the others lay new blocks alone -/
def RVar (kc ks : Nat) (row : Option Nat) (B : Nat) (E : TypeId) (n : Nat) (i : Nat) (w w' : World) : Prop := Below w.heap.size w w' ∨ (i = kc ∧ w.grownBy w' row) ∨ (i = ks ∧ TurnsNew B E n w w')
theorem RVar.refl {kc ks : Nat} {row : Option Nat} {B : Nat} {E : TypeId} {n : Nat} (i : Nat) (w : World) : RVar kc ks row B E n i w w := .inl (Below.refl _ _)
theorem RVar.of_below {kc ks : Nat} {row : Option Nat} {B : Nat} {E : TypeId} {n i : Nat} {w w' : World} (h : Below w.heap.size w w') : RVar kc ks row B E n i w w' := .inl h
theorem varAny.stays {kc ks : Nat} {row : Option Nat} {B : Nat} {E : TypeId} {n : Nat} (hrow : ∀ q, row = some q → q < B) (l : List Value) (i : Nat) (w w' : World) (hr : RVar kc ks row B E n i w w') (h : varAny B E n l w) : varAny B E n l w' := by
  obtain ⟨g, h1, h2, cs, h3, h4⟩ := h
  rcases hr with hr | ⟨_, hr⟩ | ⟨_, g', cs1, cs2, q1, q2, q3, q4, q5, q6⟩
  · exact ⟨g, h1, h2, cs, h3, h4.below hr h4.lt⟩
  · exact ⟨g, h1, h2, cs, h3, h4.grown hr (fun e => by have := hrow g e.symm; omega)⟩
  · by_cases e : g = g'
    · subst e; exact ⟨g, h1, h2, cs2, q3, q5⟩
    · exact ⟨g, h1, h2, cs, h3, h4.grown q6 (fun e' => e (Option.some.inj e'))⟩
theorem varIn.stays {kc ks : Nat} {row : Option Nat} {B : Nat} {E : TypeId} {n : Nat} (hrow : ∀ q, row = some q → q < B) (l : List Value) (i : Nat) (w w' : World) (hi : i ≠ ks) (hr : RVar kc ks row B E n i w w') (h : varIn ag B E l w) : varIn ag B E l w' := by
  obtain ⟨r, g, h1, h2, h4⟩ := h
  rcases hr with hr | ⟨_, hr⟩ | ⟨e, _⟩
  · exact ⟨r, g, h1, h2, h4.below hr h4.lt⟩
  · exact ⟨r, g, h1, h2, h4.grown hr (fun e => by have := hrow g e.symm; omega)⟩
  · exact absurd e hi
variable {kc ks : Nat} {row : Option Nat} {B : Nat} {E : TypeId} {n : Nat}
end
end Go.Proofs.Ytengegcnocdkoaa
end
section
namespace Go.Proofs.Ytengegcnocdkoaa
open Go.RowKit Go.BigFrame
theorem setRow_new (w : World) (z c : Array Value) (E : TypeId) : (w.alloc (.cells z E)).setRow w.heap.size c = w.alloc (.cells c E) := by
  unfold World.setRow World.alloc
  congr 1
  apply Array.ext
  · simp
  · intro i h1 h2
    rw [Array.getElem_modify]
    by_cases hi : w.heap.size = i
    · subst hi
      simp
    · rw [if_neg hi]
      have hlt : i < w.heap.size := by simp at h2; omega
      simp [Array.getElem_push, hlt]
section
variable {w w' : World} {g : Nat} {E : TypeId} {cs : Array Value}
theorem Blk.row (h : Blk w g E cs) (vs : Array Value) : Blk (w.setRow g vs) g E vs := by
  unfold Blk at h ⊢
  simp [World.setRow, Array.getElem?_modify, h]
theorem heap_row (w : World) (g : Nat) (vs : Array Value) (i : Nat) (hi : i ≠ g) : (w.setRow g vs).heap[i]? = w.heap[i]? := by
  simp [World.setRow, Array.getElem?_modify, Ne.symm hi]
theorem size_row (w : World) (g : Nat) (vs : Array Value) : (w.setRow g vs).heap.size = w.heap.size := by simp [World.setRow]
theorem Blk.row_far {x : Nat} (h : Blk w g E cs) (hx : g ≠ x) (vs : Array Value) : Blk (w.setRow x vs) g E cs := (heap_row w x vs g hx).trans h
end
section
variable {P : Program} {ops : Array Oper} {rest : List Oper} {op : Oper} {a : Act} {w : World} {Q : Exit → Act → World → Prop} {g : Nat} {E : TypeId} {cs : Array Value}
theorem wpl_put (h : Blk w g E cs) (vs : Array Value) (hi : (P.info? E).map (·.size) = some vs.size) (hs : cs.size = vs.size) (h1 : vs.all (·.oneCell') = true)
    (hgd : op.guard = none) (x y : Operand) (ho : op.op = .store E x y) (hd : op.dst = none) (hx : a.eval x = .pointer (some ⟨g, 0, none⟩)) (hy : a.eval y = .agg vs) (hn : wpList P ops Q rest a (w.setRow g vs)) : wpList P ops Q (op :: rest) a w :=
  wpList_store_rowTo hgd E x y ho hd g vs hx hy E cs h hi hs h1 hn
/-- .. into the block that was just laid -/
theorem wpl_put_new {z : Array Value} {B : Nat} (hB : B = w.heap.size) (vs : Array Value) (hi : (P.info? E).map (·.size) = some vs.size) (hs : z.size = vs.size) (h1 : vs.all (·.oneCell') = true)
    (hgd : op.guard = none) (x y : Operand) (ho : op.op = .store E x y) (hd : op.dst = none) (hx : a.eval x = .pointer (some ⟨B, 0, none⟩)) (hy : a.eval y = .agg vs) (hn : wpList P ops Q rest a (w.alloc (.cells vs E))) : wpList P ops Q (op :: rest) a (w.alloc (.cells z E)) := by
  subst hB
  refine wpl_put (Blk.new w E z) vs hi hs h1 hgd x y ho hd hx hy ?_
  rw [setRow_new]
  exact hn
end
theorem ipI : (Try.prog.info? 63).map (·.size) = some 7 := by kernel_rfl
theorem tcpI : (Try.prog.info? 60).map (·.size) = some 8 := by kernel_rfl
theorem optsI : (Try.prog.info? 28).map (·.size) = some 7 := by kernel_rfl
theorem segI_ : (Try.prog.info? 30).map (·.size) = some 16 := by kernel_rfl
theorem optsU : (Try.prog.underlying 28).map TypeDesc.isRow = some true := by kernel_rfl
end Go.Proofs.Ytengegcnocdkoaa
end
section
namespace Go.Proofs.Ytengegcnocdkoaa.P
open Go.RowKit
set_option maxHeartbeats 2000000 in
theorem high16 (x : Nat) (w : World) (hx : x < 65536) :
    Calls Try.prog 49 #[.int .u16 (x : Int), .int .i64 2] w fun e w' => e = .returned (.string ⟨(be2 x).toArray⟩) ∧ Below w.heap.size w w' := by
  have hmk : ∀ W : World, (Instr.makeSlice 51 (.int .i64 2) (.int .i64 2)).run Try.prog W = .ok (.slice (some ⟨W.heap.size, 0, none⟩) 2 2) (W.alloc (.cells #[.int .u8 0, .int .u8 0] 5)) := fun _ => by kernel_rfl
  go_enter Try.func49, Try.ntmps49
  go_wp2
  clear hmk
  have h0 := Blk.new w 5 #[.int .u8 0, .int .u8 0]
  have hb0 : Below w.heap.size w (w.alloc (.cells #[.int .u8 0, .int .u8 0] 5)) := (Below.refl _ _).alloc (Nat.le_refl _) _
  obtain ⟨g, hg⟩ : ∃ g, g = w.heap.size := ⟨_, rfl⟩
  rw [← hg] at h0 ⊢
  have hgl : w.heap.size ≤ g := by omega
  clear hg
  go_loopw [11] (fun i wr => Below w.heap.size w wr ∧ ((i = .int .i64 0 ∧ Blk wr g 5 #[.int .u8 0, .int .u8 0]) ∨ (i = .int .i64 1 ∧ Blk wr g 5 #[.int .u8 0, u8v (UInt8.ofNat x)]) ∨ (i = .int .i64 2 ∧ Blk wr g 5 #[u8v (UInt8.ofNat (x / 256)), u8v (UInt8.ofNat x)]))) (fun i _ => 2 - (intOf i).toNat)
  case atStart => exact ⟨hb0, .inl ⟨rfl, h0⟩⟩
  case round =>
    obtain ⟨hb, hrel⟩ := hrel
    clear h0 hb0
    rcases hrel with ⟨rfl, h⟩ | ⟨rfl, h⟩ | ⟨rfl, h⟩
    · have f1 := h.frozen 1
      have c1 := h.cell 1 ; simp at c1
      go_wp2
      go_roundw
      case rel => exact ⟨hb.setCell (by simp; omega) _, .inr (.inl ⟨rfl, by have := h.set_ 1 (u8v (UInt8.ofNat x)); simpa [u8v, u8b] using this⟩)⟩
      case measure => simp [intOf]
    · have f1 := h.frozen 0
      have c0 := h.cell 0 ; simp at c0
      go_wp2
      go_roundw
      case rel => exact ⟨hb.setCell (by simp; omega) _, .inr (.inr (⟨rfl, by
        have := h.set_ 0 (u8v (UInt8.ofNat (x / 256)))
        have ht : (x : Int) / 256 % 256 = (x : Int) / 256 := by omega
        simpa [u8v, u8b, ht] using this⟩))⟩
      case measure => simp [intOf]
    · have hbk := run_bytes_back wr ⟨g, 0, none⟩ 2 2 (be2 x) rfl (by
        intro j hj
        rw [add_plain, Nat.zero_add, h.cell j]
        match j, hj with
        | 0, _ => rfl
        | 1, _ => rfl)
      clear h
      go_wp2
      go_ret
      exact ⟨rfl, hb⟩
set_option maxHeartbeats 2000000 in
theorem high32 (x : Nat) (w : World) (hx : x < 4294967296) :
    Calls Try.prog 48 #[.int .u32 (x : Int), .int .i64 4] w fun e w' => e = .returned (.string ⟨(be4 x).toArray⟩) ∧ Below w.heap.size w w' := by
  have hmk : ∀ W : World, (Instr.makeSlice 51 (.int .i64 4) (.int .i64 4)).run Try.prog W = .ok (.slice (some ⟨W.heap.size, 0, none⟩) 4 4) (W.alloc (.cells #[.int .u8 0, .int .u8 0, .int .u8 0, .int .u8 0] 5)) := fun _ => by kernel_rfl
  go_enter Try.func48, Try.ntmps48
  go_wp2
  clear hmk
  have h0 := Blk.new w 5 #[.int .u8 0, .int .u8 0, .int .u8 0, .int .u8 0]
  have hb0 : Below w.heap.size w (w.alloc (.cells #[.int .u8 0, .int .u8 0, .int .u8 0, .int .u8 0] 5)) := (Below.refl _ _).alloc (Nat.le_refl _) _
  obtain ⟨g, hg⟩ : ∃ g, g = w.heap.size := ⟨_, rfl⟩
  rw [← hg] at h0 ⊢
  have hgl : w.heap.size ≤ g := by omega
  clear hg
  go_loopw [11] (fun i wr => Below w.heap.size w wr ∧ ((i = .int .i64 0 ∧ Blk wr g 5 #[.int .u8 0, .int .u8 0, .int .u8 0, .int .u8 0]) ∨ (i = .int .i64 1 ∧ Blk wr g 5 #[.int .u8 0, .int .u8 0, .int .u8 0, u8v (UInt8.ofNat x)]) ∨ (i = .int .i64 2 ∧ Blk wr g 5 #[.int .u8 0, .int .u8 0, u8v (UInt8.ofNat (x / 256)), u8v (UInt8.ofNat x)]) ∨ (i = .int .i64 3 ∧ Blk wr g 5 #[.int .u8 0, u8v (UInt8.ofNat (x / 65536)), u8v (UInt8.ofNat (x / 256)), u8v (UInt8.ofNat x)]) ∨ (i = .int .i64 4 ∧ Blk wr g 5 #[u8v (UInt8.ofNat (x / 16777216)), u8v (UInt8.ofNat (x / 65536)), u8v (UInt8.ofNat (x / 256)), u8v (UInt8.ofNat x)]))) (fun i _ => 4 - (intOf i).toNat)
  case atStart => exact ⟨hb0, .inl ⟨rfl, h0⟩⟩
  case round =>
    obtain ⟨hb, hrel⟩ := hrel
    clear h0 hb0
    rcases hrel with ⟨rfl, h⟩ | ⟨rfl, h⟩ | ⟨rfl, h⟩ | ⟨rfl, h⟩ | ⟨rfl, h⟩
    · have f1 := h.frozen 3
      have c3 := h.cell 3 ; simp at c3
      go_wp2
      go_roundw
      case rel => exact ⟨hb.setCell (by simp; omega) _, .inr (.inl ⟨rfl, by have := h.set_ 3 (u8v (UInt8.ofNat x)); simpa [u8v, u8b] using this⟩)⟩
      case measure => simp [intOf]
    · have f1 := h.frozen 2
      have c2 := h.cell 2 ; simp at c2
      go_wp2
      go_roundw
      case rel => exact ⟨hb.setCell (by simp; omega) _, .inr (.inr (.inl ⟨rfl, by have := h.set_ 2 (u8v (UInt8.ofNat (x / 256))); simpa [u8v, u8b] using this⟩))⟩
      case measure => simp [intOf]
    · have f1 := h.frozen 1
      have c1 := h.cell 1 ; simp at c1
      go_wp2
      go_roundw
      case rel => exact ⟨hb.setCell (by simp; omega) _, .inr (.inr (.inr (.inl ⟨rfl, by have := h.set_ 1 (u8v (UInt8.ofNat (x / 65536))); simpa [u8v, u8b] using this⟩)))⟩
      case measure => simp [intOf]
    · have f1 := h.frozen 0
      have c0 := h.cell 0 ; simp at c0
      go_wp2
      go_roundw
      case rel => exact ⟨hb.setCell (by simp; omega) _, .inr (.inr (.inr (.inr (⟨rfl, by
        have := h.set_ 0 (u8v (UInt8.ofNat (x / 16777216)))
        have ht : (x : Int) / 16777216 % 256 = (x : Int) / 16777216 := by omega
        simpa [u8v, u8b, ht] using this⟩))))⟩
      case measure => simp [intOf]
    · have hbk := run_bytes_back wr ⟨g, 0, none⟩ 4 4 (be4 x) rfl (by
        intro j hj
        rw [add_plain, Nat.zero_add, h.cell j]
        match j, hj with
        | 0, _ => rfl
        | 1, _ => rfl
        | 2, _ => rfl
        | 3, _ => rfl)
      clear h
      go_wp2
      go_ret
      exact ⟨rfl, hb⟩
end Go.Proofs.Ytengegcnocdkoaa.P
end
section
namespace Go.Proofs.Ytengegcnocdkoaa
theorem wordsL_append : ∀ (a b : List UInt8), a.length % 2 = 0 → wordsL (a ++ b) = wordsL a ++ wordsL b
  | [], b, _ => rfl
  | [x], b, h => absurd h (by simp)
  | x :: y :: t, b, h => by
    have := wordsL_append t b (by simp only [List.length_cons] at h; omega)
    simp only [List.cons_append, wordsL, this]
theorem turn_step {R was now : Nat} (hR : 0 < R) (hw : was < 65536) : turnL (65535 - nrm (R + was)) was now = 65535 - nrm (R + now) := by
  unfold turnL
  have h1 := nrm_le (R + was)
  have e : 131070 - (65535 - nrm (R + was)) - was + now = 65535 + nrm (R + was) - was + now := by omega
  rw [e]
  congr 1
  unfold nrm
  rw [if_neg (show ¬ R + was = 0 by omega), if_neg (show ¬ R + now = 0 by omega), if_neg (by omega)]
  omega
theorem turns_all : ∀ (P : List (Nat × Nat)) (R : Nat), 0 < R → (∀ p ∈ P, p.1 < 65536) → turnsL (65535 - nrm (R + (P.map Prod.fst).sum)) P = 65535 - nrm (R + (P.map Prod.snd).sum)
  | [], R, _, _ => by simp [turnsL]
  | p :: ps, R, hR, hp => by
    have h1 := turn_step (R := R + (ps.map Prod.fst).sum) (was := p.1) (now := p.2) (by omega) (hp p (by simp))
    have h2 := turns_all ps (R + p.2) (by omega) (fun q hq => hp q (by simp [hq]))
    simp only [List.map_cons, List.sum_cons]
    show turnsL (turnL _ p.1 p.2) ps = _
    rw [show R + (p.1 + (ps.map Prod.fst).sum) = R + (ps.map Prod.fst).sum + p.1 by omega, h1, show R + (ps.map Prod.fst).sum + p.2 = R + p.2 + (ps.map Prod.fst).sum by omega, h2]
    congr 2
    omega
end Go.Proofs.Ytengegcnocdkoaa
end
section
namespace Go.Proofs.Ytengegcnocdkoaa
open Go.RowKit Go.ChangeShapes Go.WideShapes
section
variable {H : Type} {enc : TypeId × Value → H} {P : Program} {w : World} {base : Nat} {spare : Nat → Bool} {held : Bool}
/-- a list of cells reads as a value of type t -/
def ReadsAs (enc : TypeId × Value → H) (P : Program) (w : World) (base : Nat) (spare : Nat → Bool) (held : Bool) (t : TypeId) (cs : List Value) : Prop := ∃ n y, DataW.trod enc P w base spare held n t cs = some y
theorem ReadsAs.of {t : TypeId} {v : Value} {d : DataW H} {p : List MemPlace} (h : DataW.Trod enc P w base spare held t v d p) : ReadsAs enc P w base spare held t v.cells.toList := by
  obtain ⟨n, hn⟩ := h
  exact ⟨n, _, hn⟩
theorem ReadsAs.part {t : TypeId} {fs : Array Field} {cs : List Value} (h : ReadsAs enc P w base spare held t cs) (ht : P.underlying t = some (.struct fs)) (i : Nat) {f : Field} (hi : fs[i]? = some f) {k : Nat} (hk : P.cellsOf f.type = k) {ds : List Value} (hd : (cs.drop f.offset).take k = ds) :
    ReadsAs enc P w base spare held f.type ds := by
  obtain ⟨n, y, hn⟩ := h
  obtain ⟨xs, m, _, _, _, hlen, hg⟩ := DataW.trod_struct ht hn
  have h1 := hg i f hi
  rw [hk, hd] at h1
  have hlt : i < xs.length := by
    have := (Array.getElem?_eq_some_iff.1 hi).1
    omega
  exact ⟨m, xs[i], by rw [h1]; exact List.getElem?_eq_getElem hlt⟩
theorem ReadsAs.int {t : TypeId} {k : IntKind} {c : Value} (h : ReadsAs enc P w base spare held t [c]) (ht : P.underlying t = some (.int k)) : ∃ a, c = .int k a ∧ (Lit.int k a).wf = true := by
  obtain ⟨n, y, hn⟩ := h
  obtain ⟨a, e, _, hw⟩ := DataW.trod_int ht hn
  injection e with e
  exact ⟨a, e, hw⟩
theorem ReadsAs.bool {t : TypeId} {c : Value} (h : ReadsAs enc P w base spare held t [c]) (ht : P.underlying t = some .bool) : ∃ b, c = .bool b := by
  obtain ⟨n, y, hn⟩ := h
  obtain ⟨b, e, _⟩ := DataW.trod_bool ht hn
  injection e with e
  exact ⟨b, e⟩
theorem ReadsAs.string {t : TypeId} {c : Value} (h : ReadsAs enc P w base spare held t [c]) (ht : P.underlying t = some .string) : ∃ s : ByteArray, c = .string s ∧ s.size ≤ maxLen := by
  obtain ⟨n, y, hn⟩ := h
  obtain ⟨s, e, _, hw⟩ := DataW.trod_string ht hn
  injection e with e
  exact ⟨s, e, hw⟩
end
end Go.Proofs.Ytengegcnocdkoaa
end
section
namespace Go.Proofs.Ytengegcnocdkoaa
open Go.RowKit Go.ChangeShapes Go.WideShapes Go.Deep
section
variable {H : Type} {enc : TypeId × Value → H} {P : Program} {w : World} {base : Nat} {spare : Nat → Bool} {held : Bool}
theorem open_slice_fields {t e : TypeId} {fs : Array Field} {fuel : Nat} {cs : List Value} {x : DataW H × List MemPlace} (ht : P.underlying t = some (.slice e)) (he : P.underlying e = some (.struct fs))
    (hone : oneCellFields P fs = true) (hC : P.cellsOf e = fs.size) (h : DataW.trod enc P w base spare held fuel t cs = some x) :
    (cs = [.slice none 0 0] ∧ x = (.nil, [])) ∨
    ∃ (a : Addr) (len cap m : Nat) (D : Nat → DataW H) (Pl : Nat → List MemPlace), cs = [.slice (some a) len cap] ∧ base ≤ a.block ∧ len ≤ cap ∧ cap ≤ maxLen ∧ m = (if spare a.block then cap else len) ∧
      x = (.slice ((List.range len).map D) ((List.range (m - len)).map fun j => D (len + j)), MemPlace.row a (m * fs.size) ++ (List.range m).flatMap Pl) ∧
      ∀ i, i < m → ∃ (ys : List (DataW H × List MemPlace)) (n : Nat), D i = .agg (ys.map (·.1)) ∧ Pl i = ys.flatMap (·.2) ∧ ys.length = fs.size ∧
        ∀ (j : Nat) (f : Field), fs[j]? = some f → ∃ (v : Value) (y : DataW H × List MemPlace), w.cell? (a.add (i * fs.size + j)) = some v ∧ ys[j]? = some y ∧ DataW.trod enc P w base spare held n f.type [v] = some y := by
  rcases open_slice ht h with h0 | ⟨a, len, cap, m, n, D, Pl, hcs, hb, hl, hm, hmm, hx, hi⟩
  · exact .inl h0
  · refine .inr ⟨a, len, cap, m, D, Pl, hcs, hb, hl, hm, hmm, by rw [hC] at hx; exact hx, fun i him => ?_⟩
    obtain ⟨cs', hc, ht'⟩ := hi i him
    rw [hC] at hc
    obtain ⟨ys, n', hn', hy, hlen, hyl, hf⟩ := DataW.trod_struct he ht'
    obtain ⟨_, hcl, hat⟩ := World.cells?_some hc
    simp only [Prod.mk.injEq] at hy
    refine ⟨ys, n', hy.1, hy.2, hyl, fun j f hj => ?_⟩
    obtain ⟨ho, hk⟩ := hone_of hone j f hj
    have hjl : j < fs.size := (Array.getElem?_eq_some_iff.1 hj).1
    have hcell := hat j hjl
    have hv : cs'[j]? = some (cs'[j]'(by omega)) := List.getElem?_eq_getElem (by omega)
    have h1 := hf j f hj
    rw [ho, hk] at h1
    have hone' : (cs'.drop j).take 1 = [cs'[j]'(by omega)] := by
      rw [List.drop_eq_getElem_cons (by omega)]
      rfl
    rw [hone'] at h1
    have hys : ys[j]? = some (ys[j]'(by omega)) := List.getElem?_eq_getElem (by omega)
    refine ⟨_, _, ?_, hys, h1.trans hys⟩
    rw [← Go.Deep.add_add, hcell, hv]
end
/-- a field's kind: an integer kind, a bool (true), a string (false) -/
def fieldOk : Sum IntKind Bool → Value → Prop
  | .inl k, v => ∃ n, v = .int k n ∧ (Lit.int k n).wf = true
  | .inr true, v => ∃ b, v = .bool b
  | .inr false, v => ∃ s, v = .string s ∧ s.size ≤ maxLen
/-- a slice of structs of one-cell fields: for every element and every field the cell, and what it holds -/
def StrRows (w : World) (ks : List (Sum IntKind Bool)) (a : Option Addr) (len : Nat) : Prop :=
  len ≤ maxLen ∧ ∀ i, i < len → ∃ b off, a = some ⟨b, off, none⟩ ∧ b < w.heap.size ∧ ∀ j k, ks[j]? = some k → ∃ v, w.cell? ⟨b, off + i * ks.length + j, none⟩ = some v ∧ fieldOk k v
theorem StrRows.below {w w' : World} {ks : List (Sum IntKind Bool)} {a : Option Addr} {len : Nat} (h : StrRows w ks a len) (hb : Below w.heap.size w w') : StrRows w' ks a len := by
  refine ⟨h.1, fun i hi => ?_⟩
  obtain ⟨b, off, hx, hl, hc⟩ := h.2 i hi
  refine ⟨b, off, hx, Nat.lt_of_lt_of_le hl hb.size, fun j k hk => ?_⟩
  obtain ⟨v, hv, ho⟩ := hc j k hk
  exact ⟨v, (hb.cell hl).trans hv, ho⟩
def kindDesc : Sum IntKind Bool → TypeDesc → Bool
  | .inl k, .int k' => decide (k = k')
  | .inr true, .bool => true
  | .inr false, .string => true
  | _, _ => false
def kindsOk (P : Program) (ks : List (Sum IntKind Bool)) (fs : List Field) : Bool :=
  (ks.length == fs.length) && (ks.zip fs).all fun kf => match P.underlying kf.2.type with
    | some d => kindDesc kf.1 d
    | none => false
section
variable {H : Type} {enc : TypeId × Value → H} {P : Program} {w : World} {base : Nat} {spare : Nat → Bool} {held : Bool}
theorem field_ok {k : Sum IntKind Bool} {t : TypeId} {v : Value} {n : Nat} {y : DataW H × List MemPlace} (hk : (match P.underlying t with | some d => kindDesc k d | none => false) = true)
    (h : DataW.trod enc P w base spare held n t [v] = some y) : fieldOk k v := by
  cases hu : P.underlying t with
  | none => rw [hu] at hk; simp at hk
  | some d =>
    rw [hu] at hk
    simp only at hk
    cases k with
    | inl k => cases d with
      | int k' =>
        simp only [kindDesc, decide_eq_true_eq] at hk
        subst hk
        obtain ⟨m, hv, _, hw⟩ := DataW.trod_int hu h
        exact ⟨m, by simpa using hv, hw⟩
      | _ => simp [kindDesc] at hk
    | inr b => cases b with
      | true => cases d with
        | bool =>
          obtain ⟨m, hv, _⟩ := DataW.trod_bool hu h
          exact ⟨m, by simpa using hv⟩
        | _ => simp [kindDesc] at hk
      | false => cases d with
        | string =>
          obtain ⟨m, hv, _, hw⟩ := DataW.trod_string hu h
          exact ⟨m, by simpa using hv, hw⟩
        | _ => simp [kindDesc] at hk
theorem str_rows {t e : TypeId} {fs : Array Field} {ks : List (Sum IntKind Bool)} {a : Option Addr} {len cap : Nat} {d : DataW H} {p : List MemPlace} (ht : P.underlying t = some (.slice e)) (he : P.underlying e = some (.struct fs))
    (hone : oneCellFields P fs = true) (hC : P.cellsOf e = fs.size) (hks : kindsOk P ks fs.toList = true) (h0 : 0 < fs.size) (h : DataW.Trod enc P w base (fun _ => true) held t (.slice a len cap) d p) : StrRows w ks a len := by
  obtain ⟨fuel, hf⟩ := h
  unfold kindsOk at hks
  rw [Bool.and_eq_true, beq_iff_eq, List.all_eq_true] at hks
  obtain ⟨hl, hall⟩ := hks
  have hls : ks.length = fs.size := by simpa using hl
  rcases open_slice_fields ht he hone hC hf with ⟨hcs, _⟩ | ⟨x, l, c, m, D, Pl, hcs, _, hle, hm, hmm, _, hi⟩
  · simp [Value.cells] at hcs
    obtain ⟨rfl, rfl, rfl⟩ := hcs
    exact ⟨Nat.zero_le _, fun i hi => absurd hi (by omega)⟩
  · simp [Value.cells] at hcs
    obtain ⟨rfl, rfl, rfl⟩ := hcs
    simp only [if_true] at hmm
    refine ⟨Nat.le_trans hle hm, fun i hil => ?_⟩
    obtain ⟨ys, n, _, _, hyl, hfd⟩ := hi i (by omega)
    obtain ⟨b, off, spot⟩ := x
    have hspot : spot = none := by
      obtain ⟨_, _, _, _, _, hfd0⟩ := hi 0 (by omega)
      obtain ⟨v, y, hc, _, _⟩ := hfd0 0 fs[0] (by simp [h0])
      have := World.cell?_spot hc
      simpa [Addr.add] using this
    subst hspot
    have plain : ∀ n, (⟨b, off, none⟩ : Addr).add n = ⟨b, off + n, none⟩ := fun n => by unfold Addr.add; split <;> simp_all
    refine ⟨b, off, rfl, ?_, fun j k hk => ?_⟩
    · obtain ⟨v, y, hc, _, _⟩ := hfd 0 fs[0] (by simp [h0])
      have := cell_lt hc
      rwa [block_of_add] at this
    · have hjl : j < ks.length := (List.getElem?_eq_some_iff.1 hk).1
      obtain ⟨v, y, hc, _, hy⟩ := hfd j fs[j] (by simp [← hls, hjl])
      refine ⟨v, ?_, ?_⟩
      · rw [plain] at hc; rw [Nat.add_assoc, hls]; exact hc
      · have := hall (k, fs[j]) (by
          rw [List.mem_iff_getElem?]
          refine ⟨j, ?_⟩
          rw [List.getElem?_zip_eq_some]
          exact ⟨hk, by simp [← hls, hjl]⟩)
        exact field_ok this hy
end
end Go.Proofs.Ytengegcnocdkoaa
end
