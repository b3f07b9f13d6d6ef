/- Contracts and plain lemmas: LoadsL, LoadsG, RowB, PktSumAt, SumTurns. -/
import Derived.Deep.MidRow
import Derived.Deep.QuietTactic
import Derived.BigQuiet
import Derived.Deep.DeepCutAuto
import Derived.Lib.MinMax
import Derived.Test.YtengegcnocdkoaaRb5
import Derived.Test.YtengegcnocdkoaaRb1
section
set_option linter.unusedVariables false
set_option linter.unusedSimpArgs false
namespace Go.Proofs.Ytengegcnocdkoaa
open Go.RowKit Go.BigFrame
theorem Blk.range {w : World} {g : Nat} {E : TypeId} {cs : Array Value} (h : Blk w g E cs) : w.rangeAt g 0 cs.toList := fun j v hv => by
  have := h.cell j
  rw [Nat.zero_add, this]
  simpa using hv
theorem run_load_blk {P : Program} {w : World} {g : Nat} {E : TypeId} {cs : Array Value} (h : Blk w g E cs) (hu : (P.underlying E).map TypeDesc.isRow = some true) (hi : (P.info? E).map (·.size) = some cs.size) :
    (Instr.loadAt E (.pointer (some ⟨g, 0, none⟩))).run P w = .ok (.agg cs) w := by
  obtain ⟨d, hu, hd⟩ := Option.map_eq_some_iff.1 hu
  have := run_loadAt_mid (P := P) w g 0 E cs.toList d h.range hu hd (by rw [hi]; simp)
  simpa using this
theorem wpl_load {P : Program} {ops : Array Oper} {rest : List Oper} {op : Oper} {a : Act} {w : World} {Q : Exit → Act → World → Prop} {g : Nat} {E : TypeId} {cs : Array Value} (h : Blk w g E cs) (hu : (P.underlying E).map TypeDesc.isRow = some true) (hi : (P.info? E).map (·.size) = some cs.size)
    (hgd : op.guard = none) (x : Operand) (ho : op.op = .load E x) (hx : a.eval x = .pointer (some ⟨g, 0, none⟩)) (hn : wpList P ops Q rest (a.put op.dst (.agg cs)) w) : wpList P ops Q (op :: rest) a w := by
  obtain ⟨d, hu, hd⟩ := Option.map_eq_some_iff.1 hu
  exact wpList_load_mid hgd E x ho g 0 hx cs.toList d h.range hu hd (by rw [hi]; simp) (by simpa using hn)
section
variable {P : Program} {ops : Array Oper} {S : World → Prop} {R : World → World → Prop} {End : List Tmp → List Fc → Act → Prop} {rest : List Oper} {k : Nat} {T : List Tmp} {N : List Fc} {a : Act} {o : Oper}
theorem flow_load {d : Option Tmp} {E : TypeId} {x : Operand} {t : TypeId} {ps : String} {af : Array Edge} {g : Option (Nat × Bool)} (b : Nat) (cs : Array Value) (hb : ∀ y : Cls S, Blk y.w b E cs) (hu : (P.underlying E).map TypeDesc.isRow = some true) (hi : (P.info? E).map (·.size) = some cs.size)
    (hx : a.eval x = .pointer (some ⟨b, 0, none⟩)) (hRr : ∀ w, R w w)
    (hp : plainW ops T { dst := d, op := .load E x, type := t, pos := ps, after := af, guard := g } = true)
    (hg : guardW ops T { dst := d, op := .load E x, type := t, pos := ps, after := af, guard := g } = true) (hw : Region.wanted { dst := d, op := .load E x, type := t, pos := ps, after := af, guard := g } (yielded ops a.tmps) = true) (w0 : World)
    (h : ∀ K : Act → Prop, (∀ a, wpW P ops S R End (k + 1) rest T N a → K a) → Oper.quiet P { dst := d, op := .assign (.const (.agg cs)), type := t, pos := "", after := #[], guard := none } a (fun _ => True) K) :
    wpW P ops S R End k ({ dst := d, op := .load E x, type := t, pos := ps, after := af, guard := g } :: rest) T N a :=
  flow_val (.agg cs) (fun w f hS hN => gives_congr (exec_plain (fun _ _ e => by cases e) hp f) (by
    unfold gives
    simp only [execOp, Sem.run_bind]
    rw [hx, run_load_blk (hb ⟨w, hS⟩) hu hi]
    exact ⟨rfl, hS, hRr _⟩)) hg hw w0 h
end
end Go.Proofs.Ytengegcnocdkoaa
end
section
set_option linter.unusedVariables false
set_option linter.unusedSimpArgs false
namespace Go.Proofs.Ytengegcnocdkoaa
open Go.RowKit Go.BigFrame
theorem segU : (Try.prog.underlying 30).map TypeDesc.isRow = some true := by kernel_rfl
theorem segI : (Try.prog.info? 30).map (·.size) = some 16 := by kernel_rfl
end Go.Proofs.Ytengegcnocdkoaa
end
section
set_option linter.unusedVariables false
set_option linter.unusedSimpArgs false
namespace Go.Proofs.Ytengegcnocdkoaa
open Go.RowKit
def RowB (w : World) (g : Nat) (M : List UInt8) : Prop := ∃ (cs : Array Value) (lo hi : Nat), w.heap[g]? = some (.cells cs 5 (lo, hi)) ∧ M.length ≤ lo ∧ M.length ≤ cs.size ∧ ∀ (j : Nat) (c : UInt8), M[j]? = some c → cs[j]? = some (u8v c)
theorem RowB.lt {w : World} {g : Nat} {M : List UInt8} (h : RowB w g M) : g < w.heap.size := by
  obtain ⟨cs, lo, hi, h, _⟩ := h
  exact (Array.getElem?_eq_some_iff.1 h).1
theorem RowB.kept {w w' : World} {g : Nat} {M : List UInt8} (h : RowB w g M) (e : w'.heap[g]? = w.heap[g]?) : RowB w' g M := by
  obtain ⟨cs, lo, hi, h1, r⟩ := h
  exact ⟨cs, lo, hi, e.trans h1, r⟩
theorem RowB.below {w w' : World} {g B : Nat} {M : List UInt8} (h : RowB w g M) (hb : Below B w w') (hg : g < B) : RowB w' g M := h.kept (hb.block g hg)
theorem RowB.grown {w w' : World} {g : Nat} {row : Option Nat} {M : List UInt8} (h : RowB w g M) (hb : w.grownBy w' row) (hg : some g ≠ row) : RowB w' g M := h.kept (hb.block g h.lt hg)
theorem RowB.cell {w : World} {g j : Nat} {M : List UInt8} (h : RowB w g M) {c : UInt8} (hj : M[j]? = some c) : w.cell? ⟨g, j, none⟩ = some (u8v c) := by
  obtain ⟨cs, lo, hi, h1, _, _, h2⟩ := h
  rw [cell_of_row w g j cs _ _ h1]
  exact h2 j c hj
theorem RowB.frozen {w : World} {g j : Nat} {M : List UInt8} (h : RowB w g M) (hj : j < M.length) : w.frozen? ⟨g, j, none⟩ = false := by
  obtain ⟨cs, lo, hi, h1, h2, _⟩ := h
  simp [World.frozen?, h1]
  omega
theorem RowB.set_ {w : World} {g k : Nat} {M : List UInt8} (h : RowB w g M) (hk : k < M.length) (c : UInt8) : RowB (w.setCell ⟨g, k, none⟩ (u8v c)) g (M.set k c) := by
  obtain ⟨cs, lo, hi, h1, h2, h3, h4⟩ := h
  refine ⟨cs.setIfInBounds k (u8v c), lo, hi, by simp [World.setCell, Array.getElem?_modify, h1], by simpa using h2, by simpa using h3, fun j d hj => ?_⟩
  rw [List.getElem?_set] at hj
  rw [Array.getElem?_setIfInBounds]
  by_cases e : k = j
  · subst e
    rw [if_pos rfl, if_pos hk] at hj
    cases hj
    rw [if_pos rfl, if_pos (by omega)]
  · rw [if_neg e] at hj
    rw [if_neg e]
    exact h4 j d hj
theorem set_parts (M : List UInt8) (k m : Nat) (c : UInt8) (r : List UInt8) (hk : k < M.length) (hr : r.length = m) : (M.set k c).take (k + 1) ++ r ++ (M.set k c).drop (k + 1 + m) = M.take k ++ (c :: r) ++ M.drop (k + (m + 1)) := by
  have e : M.set k c = (M.take k ++ [c]) ++ M.drop (k + 1) := by rw [List.set_eq_take_append_cons_drop, if_pos hk]; simp
  have hl : (M.take k ++ [c]).length = k + 1 := by rw [List.length_append, List.length_take]; simp; omega
  rw [e, List.take_left' hl, List.drop_append, List.drop_of_length_le (by omega), List.nil_append, hl, List.drop_drop]
  rw [show k + 1 + (k + 1 + m - (k + 1)) = k + (m + 1) by omega]
  simp
theorem storeB {P : Program} (g off : Nat) : ∀ (vs : List UInt8) (i : Nat) (W : World) (M : List UInt8), RowB W g M → off + i + vs.length ≤ M.length →
    ∃ W', (storeCells ⟨g, off, none⟩ (vs.map u8v) i).run P W = .ok () W' ∧ RowB W' g (M.take (off + i) ++ vs ++ M.drop (off + i + vs.length)) ∧ W.grownBy W' (some g)
  | [], i, W, M, h, _ => ⟨W, rfl, by simpa using h, World.grownBy.refl _ _⟩
  | v :: r, i, W, M, h, hl => by
    have ha : (⟨g, off, none⟩ : Addr).add i = ⟨g, off + i, none⟩ := add_plain _ _ _
    simp only [List.length_cons] at hl
    have hi : off + i < M.length := by omega
    have hc := h.cell (List.getElem?_eq_getElem hi)
    have hs : (store ⟨g, off + i, none⟩ (u8v v)).run P W = .ok () (W.setCell ⟨g, off + i, none⟩ (u8v v)) := by
      rw [run_store P W _ (u8v v) .plain rfl, hc, h.frozen hi]
      rfl
    obtain ⟨W', h1, h2, h3⟩ := storeB (P := P) g off r (i + 1) _ _ (h.set_ hi v) (by rw [List.length_set]; omega)
    refine ⟨W', ?_, ?_, ?_⟩
    · rw [List.map_cons]
      unfold storeCells
      rw [ha, Sem.run_bind, hs]
      exact h1
    · have e := set_parts M (off + i) r.length v r hi rfl
      rw [show off + (i + 1) = off + i + 1 by omega, e] at h2
      exact h2
    · have h4 : W.grownBy (W.setCell ⟨g, off + i, none⟩ (u8v v)) (some g) := only_set (World.grownBy.refl _ _) _ _
      exact ⟨h3.os.trans h4.os, h3.tape.trans h4.tape, h3.output.trans h4.output, Nat.le_trans h4.size h3.size, fun i hi hn => (h3.block i (Nat.lt_of_lt_of_le hi h4.size) hn).trans (h4.block i hi hn)⟩
/-- '[]byte(s)' -/
theorem run_bytes_rowB (w : World) (s : ByteArray) (l : List UInt8) (hl : s.data.toList = l) : ∃ (W1 : World) (cap : Nat),
    (convert 9 51 (.string s)).run Try.prog w = .ok (.slice (some ⟨w.heap.size, 0, none⟩) l.length cap) W1 ∧ Below w.heap.size w W1 ∧ W1.heap.size = w.heap.size + 1 ∧ RowB W1 w.heap.size l ∧ l.length ≤ cap := by
  have e : s.size = l.length := by rw [← hl]; simp
  have hr := Lib.run_convert_string_bytes (P := Try.prog) w 9 51 5 s Try.underlying9 Try.underlying51 Try.underlying5
  refine ⟨_, _, by rw [← e]; exact hr, ?_, Lib.bytesWorld_size .., ?_, ?_⟩
  · refine ⟨?_, ?_, ?_, by rw [Lib.bytesWorld_size]; omega, fun i hi => Lib.bytesWorld_at_old w 5 s i hi⟩
    all_goals unfold Lib.bytesWorld World.freeze; split <;> rfl
  · refine ⟨_, _, _, Lib.bytesWorld_at_new w 5 s, ?_, ?_, fun j c hj => ?_⟩
    · simp [Lib.bytesCells]; omega
    · simp [Lib.bytesCells]; omega
    · rw [← hl] at hj
      have hjl : j < s.data.size := by
        have := (List.getElem?_eq_some_iff.1 hj).1
        simpa using this
      have hj' : s.data[j]? = some c := by rw [← hj]; simp
      unfold Lib.bytesCells
      rw [Array.getElem?_append_left (by simpa using hjl), Array.getElem?_map, hj']
      rfl
  · rw [← e]
    exact grownCap_ge _ _ _ _
/-- 'copy(b[k:], t)' -/
theorem run_copy_rowB (w : World) (g off dLen dCap : Nat) (s : ByteArray) (M l : List UInt8) (hs : s.data.toList = l) (hg : RowB w g M) (hd : l.length ≤ dLen) (hfit : off + l.length ≤ M.length) :
    ∃ w', (Builtin.copy_ #[51, 9] 3 #[.slice (some ⟨g, off, none⟩) dLen dCap, .string s]).run Try.prog w = .ok (.int .i64 (l.length : Int)) w' ∧ RowB w' g (M.take off ++ l ++ M.drop (off + l.length)) ∧ w.grownBy w' (some g) := by
  have e : s.size = l.length := by rw [← hs]; simp
  obtain ⟨w', h1, h2, h3⟩ := storeB (P := Try.prog) g off l 0 w M hg (by simpa using hfit)
  rw [Nat.add_zero] at h2
  refine ⟨w', ?_, h2, h3⟩
  have hz : (Try.prog.info? 5).map (·.size) = some 1 := by kernel_rfl
  cases hq : Try.prog.info? 5 with
  | none => simp [hq] at hz
  | some i =>
    have htk : List.take (Nat.min s.size dLen) (List.map (fun b : UInt8 => Value.int IntKind.u8 (b.toNat : Int)) s.data.toList) = l.map u8v := by
      rw [hs, e, show Nat.min l.length dLen = l.length from Nat.min_eq_left hd, List.take_of_length_le (by simp)]
      rfl
    simp [Builtin.copy_, run_underlying Try.underlying51, Builtin.lenOf, Builtin.firstCells, sizeOf, typeInfo, hq]
    rw [htk, h1]
    simp [Result.andThen, goInt, e, Nat.min_eq_left hd]
end Go.Proofs.Ytengegcnocdkoaa
end
section
set_option linter.unusedVariables false
set_option linter.unusedSimpArgs false
set_option maxRecDepth 20000
namespace Go.Proofs.Ytengegcnocdkoaa
open Go.RowKit Go.BigFrame
set_option maxHeartbeats 4000000 in
theorem sumAt_any (W : World) (gb gr cap i : Nat) (M : List UInt8) (c0 c1 : UInt8) (h0 : M[i]? = some c0) (h1 : M[i + 1]? = some c1) (hb : Blk W gb 51 #[.slice (some ⟨gr, 0, none⟩) M.length cap]) (hr : RowB W gr M) (hl : M.length ≤ 131072) :
    Calls Try.prog 45 #[.int .i64 (i : Int), .pointer (some ⟨gb, 0, none⟩)] W fun e w' => e = .returned (.int .u16 ((c0.toNat * 256 + c1.toNat : Nat) : Int)) ∧ Below W.heap.size W w' := by
  have b0 := hb.cell 0
  simp at b0
  have x0 := hr.cell h0
  have x1 := hr.cell h1
  have l1 : i + 1 < M.length := (List.getElem?_eq_some_iff.1 h1).1
  have i1 : (i : Int) + 1 < (M.length : Int) := by omega
  have i2 : (i : Int) < (M.length : Int) := by omega
  have i3 : (0 : Int) ≤ (i : Int) := by omega
  have i4 : (i : Int) ≤ 131072 := by omega
  have hor := or_word c0.toNat c1.toNat c0.toNat_lt c1.toNat_lt
  have k0 := c0.toNat_lt
  have k1 := c1.toNat_lt
  have hBn : ∀ m, Below W.heap.size W (W.drewN m) := below_drewN (Below.refl _ _)
  unfold u8v at x0 x1
  generalize c0.toNat = n0 at *
  generalize c1.toNat = n1 at *
  have hw : IntKind.u16.wrap ((n0 : Int) * 256) = (n0 : Int) * 256 := by rw [IntKind.wrap_u16]; omega
  have e0 : IntKind.u16.wrap (n0 : Int) = (n0 : Int) := by rw [IntKind.wrap_u16]; omega
  have e1 : IntKind.u16.wrap (n1 : Int) = (n1 : Int) := by rw [IntKind.wrap_u16]; omega
  clear h0 h1 hb hr hl l1 k0 k1
  generalize M.length = n at *
  have HBn := Lib.hid hBn
  clear hBn
  have Hor := Lib.hid hor
  clear hor
  have Hw := Lib.hid hw
  clear hw
  have E0 := Lib.hid e0
  clear e0
  have E1 := Lib.hid e1
  clear e1
  go_enter Try.func45, Try.ntmps45
  go_upto_region 1 with fail
  go_quiet (fail)
  go_wp2
  go_ret
  exact ⟨ret_int (by rw [E0.out, E1.out, Hw.out]; exact Hor.out), HBn.out _⟩
end Go.Proofs.Ytengegcnocdkoaa
end
section
set_option linter.unusedVariables false
set_option linter.unusedSimpArgs false
namespace Go.Proofs.Ytengegcnocdkoaa
open Go.RowKit Go.Shelf
attribute [local go_sem] Oper.semAt_some
theorem infoU16 : (Try.prog.info? 23).map (fun i => (i.zero, i.size, i.bytes)) = some (some (.int .u16 0), 1, 2) := by kernel_rfl
theorem catS_one (s : ByteArray) : catS [s] = s.data.toList := by simp [catS]
def encW (x : W16) : Value := .int .u16 (x.1 : Int)
theorem turn_below (a b c : Nat) (w : World) (ha : a < 65536) (hb : b < 65536) (hc : c < 65536) :
    Calls Try.prog 84 #[.int .u16 (a : Int), .int .u16 (b : Int), .int .u16 (c : Int)] w fun e w' => e = .returned (.int .u16 ((turnL a b c : Nat) : Int)) ∧ Below w.heap.size w w' :=
  (turn_any a b c w ha hb hc).mono fun e w' ⟨h1, h2⟩ => ⟨h1, by rw [h2]; exact (Below.refl _ _).alloc (Nat.le_refl _) _⟩
theorem zip_snoc : ∀ (L C : List Nat) (p : Nat) (h : C.length < L.length), L.zip (C ++ [p]) = L.zip C ++ [(L[C.length], p)]
  | [], _, _, h => absurd h (by simp)
  | a :: L, [], p, _ => by simp
  | a :: L, c :: C, p, h => by
    have := zip_snoc L C p (by simpa using h)
    simp only [List.cons_append, List.zip_cons_cons, this, List.length_cons, List.getElem_cons_succ]
theorem row_type {W : World} {base : Nat} {e : TypeId} {size k : Nat} {v : Value} {xs : List Value} (h : W.ownsRow base e size v k xs) :
    ∀ (g : Nat), v.ownBlock = some g → ∀ cs t d, W.heap[g]? = some (Obj.cells cs t d) → t = e := by
  intro g hg cs t d hc
  rcases h.2 with ⟨rfl, _⟩ | ⟨g', cap, cur, rfl, _, hgb, _⟩
  · simp [Value.ownBlock] at hg
  · obtain rfl : g' = g := by simpa [Value.ownBlock] using hg
    rw [hgb] at hc
    injection hc with hc
    injection hc with _ h2
    exact h2.symm
theorem row_base {W : World} {base : Nat} {e : TypeId} {size k : Nat} {v : Value} {xs : List Value} (h : W.ownsRow base e size v k xs) : ∀ (g : Nat), v.ownBlock = some g → base ≤ g := by
  intro g hg
  rcases h.2 with ⟨rfl, _⟩ | ⟨g', cap, cur, rfl, hb, _⟩
  · simp [Value.ownBlock] at hg
  · obtain rfl : g' = g := by simpa [Value.ownBlock] using hg
    exact hb
set_option maxRecDepth 100000 in
set_option maxHeartbeats 4000000 in
theorem turns_in (s : Nat) (x y : ByteArray) (hs : s < 65536) (hx : x.size ≤ 1099511627776) (hy : y.size ≤ 1099511627776) (n : Nat) (hn : n = min x.size y.size) (w : World) :
    CallsIn Fence.wide 3 Try.prog 47 #[.int .u16 (s : Int), .string x, .string y] w fun e w' =>
      e = .returned (.int .u16 ((turnsL s ((wordsL (x.data.toList.take n)).zip (wordsL (y.data.toList.take n))) : Nat) : Int)) ∧ Below w.heap.size w w' := by
  obtain ⟨i0, hi, hz0, hz1, hz2⟩ := info_parts infoU16
  have hnx : n ≤ x.size := by omega
  have hny : n ≤ y.size := by omega
  have hmin : min (x.size : Int) (y.size : Int) = (n : Int) := by omega
  refine callsIn_of_wp_marks Try.func47 rfl trivial ?_ rfl
  simp only [Try.ntmps47, List.size_toArray, List.length_cons, List.length_nil, Nat.reduceAdd, Nat.reduceSub, Array.replicate_succ, Array.replicate_zero, List.push_toArray, List.append_toArray, List.nil_append, List.cons_append]
  gi_wp2_with (refine ⟨trivial, ?_⟩; gi_at_call 83; refine (words_in _ _ _ _).mono ?_; rintro e w' ⟨rfl, rfl⟩)
  rw [← hn]
  clear hn hmin
  have b0 := ((Boxed.new w 23 (.int .u16 (s : Int))).alloc (.cells #[.slice none 0 0] 120)).alloc (.cells #[.string (x.extract 0 n)] 9)
  have b1 := (Boxed.new (w.alloc (.cells #[.int .u16 (s : Int)] 23)) 120 (.slice none 0 0)).alloc (.cells #[.string (x.extract 0 n)] 9)
  have b2 := Blk.new ((w.alloc (.cells #[.int .u16 (s : Int)] 23)).alloc (.cells #[.slice none 0 0] 120)) 9 #[.string (x.extract 0 n)]
  have b3 := Boxed.new (((w.alloc (.cells #[.int .u16 (s : Int)] 23)).alloc (.cells #[.slice none 0 0] 120)).alloc (.cells #[.string (x.extract 0 n)] 9)) 132 (.slice (some ⟨w.heap.size + 1 + 1, 0, none⟩) 1 1)
  have hB0 : Below w.heap.size w ((((w.alloc (.cells #[.int .u16 (s : Int)] 23)).alloc (.cells #[.slice none 0 0] 120)).alloc (.cells #[.string (x.extract 0 n)] 9)).alloc (.cells #[.slice (some ⟨w.heap.size + 1 + 1, 0, none⟩) 1 1] 132)) :=
    ((((Below.refl _ w).alloc (Nat.le_refl _) _).alloc (by simp) _).alloc (by simp; omega) _).alloc (by simp; omega) _
  have b0 := b0.alloc (.cells #[.slice (some ⟨w.heap.size + 1 + 1, 0, none⟩) 1 1] 132)
  have b1 := b1.alloc (.cells #[.slice (some ⟨w.heap.size + 1 + 1, 0, none⟩) 1 1] 132)
  have b2 := Blk.alloc b2 (.cells #[.slice (some ⟨w.heap.size + 1 + 1, 0, none⟩) 1 1] 132)
  have hsz : ((((w.alloc (.cells #[.int .u16 (s : Int)] 23)).alloc (.cells #[.slice none 0 0] 120)).alloc (.cells #[.string (x.extract 0 n)] 9)).alloc (.cells #[.slice (some ⟨w.heap.size + 1 + 1, 0, none⟩) 1 1] 132)).heap.size = w.heap.size + 4 := by simp
  simp only [World.size_alloc] at b1 b2 b3
  generalize (((w.alloc (.cells #[.int .u16 (s : Int)] 23)).alloc (.cells #[.slice none 0 0] 120)).alloc (.cells #[.string (x.extract 0 n)] 9)).alloc (.cells #[.slice (some ⟨w.heap.size + 1 + 1, 0, none⟩) 1 1] 132) = W0 at *
  have hL : catS [x.extract 0 n] = x.data.toList.take n := by rw [catS_one, ByteArray.data_extract]; simp
  refine wpIn_rangeFunc_ownG rfl (by omega) (gf := 98) (lb := #[.pointer (some ⟨w.heap.size + 1 + 1 + 1, 0, none⟩)]) rfl trivial (enters_of Try.func98 (by kernel_rfl) rfl)
    (words_stops w.heap.size (w.heap.size + 1 + 1 + 1) (some ⟨w.heap.size + 1 + 1, 0, none⟩) 1 1 [x.extract 0 n] rfl (by omega) (by simp only [maxLen]; simp; omega) _ (by omega) (by omega) b3.cell (Stable.of_blk b2)) KeepsBytes.trans (KeepsBytes.putObj (by omega)) (Below.refl _ _) (fun _ => rfl)
    (fun pre W => (∃ v, Boxed W (w.heap.size + 1) 120 v ∧ W.ownsRow (w.heap.size + 1) 23 1 v pre.length (pre.map encW) ∧ True) ∧ Boxed W w.heap.size 23 (.int .u16 (s : Int)) ∧ Below w.heap.size w W)
    (fun _ _ _ => False)
    (OwnFrom.and (Own.from (holdsRow_own (w.heap.size + 1) (w.heap.size + 1) 120 23 1 (fun pre : List W16 => pre.length) (fun pre => pre.map encW) (fun _ _ => True)) _) (OwnFrom.and (Own.from (boxed_own _ _ fun _ : List W16 => .int .u16 (s : Int)) _) (ownFrom_below (Nat.le_refl _) (by omega))))
    (fun _ _ _ _ _ hs _ _ => hs)
    ⟨⟨_, b1, World.ownsRow_nil _ _ _ _, trivial⟩, b0, hB0⟩
    (fun x1 => { tmps := #[.int .u16 (s : Int), .string x, .string y, .pointer (some ⟨w.heap.size, 0, none⟩), undef, undef, .int .u16 0, .int .i64 (n : Int), .pointer (some ⟨w.heap.size + 1, 0, none⟩), .int .u16 (x1.1 : Int), undef, undef, .string x, .int .i64 (x.size : Int), .string y, .int .i64 (y.size : Int), .int .i64 (n : Int), .string x, .int .i64 (n : Int), .string (x.extract 0 n), .slice (some ⟨w.heap.size + 1 + 1, 0, none⟩) 1 1, .func (.func 98) #[] #[.pointer (some ⟨w.heap.size + 1 + 1 + 1, 0, none⟩)], .int .u16 (x1.1 : Int), undef, undef, undef, undef, undef, undef, undef, undef, undef, undef, undef, undef, undef, undef, undef, undef, undef, undef, undef, undef], defers := [] }) ?assign ?body ?done ?stop
  case assign =>
    intro l x1 W K hK
    gi_wp2
    exact hK
  case stop =>
    rintro D c pre W _ _ h _
    exact h.elim
  case body =>
    rintro l pre x1 W ⟨⟨v, hv, hrow, _⟩, hb, hB⟩ hlt
    have hlen : pre.length < 1099511627776 := by
      rw [hL, wordsL_length] at hlt
      simp at hlt
      omega
    obtain ⟨xv, hxv⟩ := x1
    dsimp only
    have hc := hv.cell
    have hf := hv.frozen
    have hn1 : w.heap.size + 1 ≤ W.heap.size := by have := hv.lt; omega
    clear hlt hL b0 b1 b2 b3
    have HS := Lib.hid hsz
    clear hsz
    gi_wp2_with (gi_at_builtin; refine wpListIn_append_own _ rfl _ _ 120 rfl (w.heap.size + 1) 23 i0 (.int .u16 0) 1 2 Try.underlying120 hi hz0 hz1 hz2 rfl (by decide) _ _ _ rfl (hrow.alloc _) ⟨W.heap.size, 0, none⟩ 1 1 [encW ⟨xv, hxv⟩] rfl rfl (cell_one_new _ _ _) (by simp [Value.oneCell', encW]) (by simp only [maxLen]; omega) (by omega) (by simp; omega) ?_; intro v' w1 hown' hgrow _; obtain ⟨g', cap', rfl⟩ := ownsRow_succ hown'; obtain ⟨hv1, hv2, hr2, hk2, hb2⟩ := hv.appended (by decide) hrow hn1 (Nat.le_refl _) hown' hgrow; have hc1 := hv1.cell; have hf1 := hv1.frozen)
    have hne : some w.heap.size ≠ v.ownBlock := fun e => by have := row_base hrow _ e.symm; omega
    have hkb : KeepsBytes w.heap.size W (w1.setCell ⟨w.heap.size + 1, 0, none⟩ (.slice (some ⟨g', 0, none⟩) (pre.length + 1) cap')) := by
      refine (KeepsBytes.of_below (by omega) ((Below.refl _ W).alloc (Nat.le_refl _) (.cells #[.int .u16 (xv : Int)] 23))).trans ((KeepsBytes.of_grown ?_ hgrow ?_).trans (KeepsBytes.of_grown ((Below.refl _ w1).setCell (p := ⟨w.heap.size + 1, 0, none⟩) (by simp) _) (grownBy_setCell' _ _ _) ?_))
      · exact (Below.refl _ _).grown hgrow (by simp; omega) (fun j ej => by have := row_base hrow _ ej; omega)
      · intro g hg cs t d ht hcs
        have := row_type (hrow.alloc _) g hg cs t d hcs
        rcases ht with rfl | rfl <;> cases this
      · intro g hg cs t d ht hcs
        cases hg
        rw [show w1.heap[w.heap.size + 1]? = _ from hv1] at hcs
        rcases ht with rfl | rfl <;> cases hcs
    exact ⟨hk2.from _, hkb, ⟨⟨_, hv2, by simpa using hr2, trivial⟩, ((hb.alloc _).kept hgrow hne).other (by omega) _, hB.trans (hb2.mono (by omega))⟩⟩
  case done =>
    rintro D xs W hD hS ⟨⟨v, hv, hrow, _⟩, hb, hB⟩ hK
    clear b0 b1 b2 b3
    gi_wp2_with (refine ⟨trivial, ?_⟩; gi_at_call 83; refine (words_in _ _ _ _).mono ?_; rintro e w' ⟨rfl, rfl⟩)
    have hDlt : D < W.heap.size := (Array.getElem?_eq_some_iff.1 hK).1
    have hn1 : w.heap.size + 1 < W.heap.size := by have := hv.lt; omega
    have c0 := ((hb.alloc (.cells #[.int .i64 0] 3)).alloc (.cells #[.string (y.extract 0 n)] 9)).alloc (.cells #[.slice (some ⟨W.heap.size + 1, 0, none⟩) 1 1] 132)
    have c1 := ((hv.alloc (.cells #[.int .i64 0] 3)).alloc (.cells #[.string (y.extract 0 n)] 9)).alloc (.cells #[.slice (some ⟨W.heap.size + 1, 0, none⟩) 1 1] 132)
    have cr := ((hrow.alloc (.cells #[.int .i64 0] 3)).alloc (.cells #[.string (y.extract 0 n)] 9)).alloc (.cells #[.slice (some ⟨W.heap.size + 1, 0, none⟩) 1 1] 132)
    have c2 := ((Boxed.new W 3 (.int .i64 0)).alloc (.cells #[.string (y.extract 0 n)] 9)).alloc (.cells #[.slice (some ⟨W.heap.size + 1, 0, none⟩) 1 1] 132)
    have c3 := Blk.alloc (Blk.new (W.alloc (.cells #[.int .i64 0] 3)) 9 #[.string (y.extract 0 n)]) (.cells #[.slice (some ⟨W.heap.size + 1, 0, none⟩) 1 1] 132)
    have c4 := Boxed.new ((W.alloc (.cells #[.int .i64 0] 3)).alloc (.cells #[.string (y.extract 0 n)] 9)) 132 (.slice (some ⟨W.heap.size + 1, 0, none⟩) 1 1)
    have cB : Below W.heap.size W (((W.alloc (.cells #[.int .i64 0] 3)).alloc (.cells #[.string (y.extract 0 n)] 9)).alloc (.cells #[.slice (some ⟨W.heap.size + 1, 0, none⟩) 1 1] 132)) :=
      (((Below.refl _ W).alloc (Nat.le_refl _) _).alloc (by simp) _).alloc (by simp; omega) _
    have csz : (((W.alloc (.cells #[.int .i64 0] 3)).alloc (.cells #[.string (y.extract 0 n)] 9)).alloc (.cells #[.slice (some ⟨W.heap.size + 1, 0, none⟩) 1 1] 132)).heap.size = W.heap.size + 3 := by simp
    simp only [World.size_alloc] at c3 c4
    have hB1 := hB.trans (cB.mono (by omega))
    have hK1 := (cB.block D hDlt).trans hK
    generalize ((W.alloc (.cells #[.int .i64 0] 3)).alloc (.cells #[.string (y.extract 0 n)] 9)).alloc (.cells #[.slice (some ⟨W.heap.size + 1, 0, none⟩) 1 1] 132) = W2 at *
    have hL2 : catS [y.extract 0 n] = y.data.toList.take n := by rw [catS_one, ByteArray.data_extract]; simp
    have hlx : xs.length = (n + 1) / 2 := by
      have := congrArg List.length hS
      rw [hL, wordsL_length] at this
      simp at this
      omega
    refine wpIn_rangeFunc_ownG rfl (by omega) (gf := 98) (lb := #[.pointer (some ⟨W.heap.size + 1 + 1, 0, none⟩)]) rfl trivial (enters_of Try.func98 (by kernel_rfl) rfl)
      (words_stops w.heap.size (W.heap.size + 1 + 1) (some ⟨W.heap.size + 1, 0, none⟩) 1 1 [y.extract 0 n] rfl (by omega) (by simp only [maxLen]; simp; omega) _ (by omega) (by omega) c4.cell (Stable.of_blk c3)) KeepsBytes.trans (KeepsBytes.putObj (by omega)) (Below.refl _ _) (fun _ => rfl)
      (fun pre Z => (∃ v', Boxed Z (w.heap.size + 1) 120 v' ∧ Z.ownsRow (w.heap.size + 1) 23 1 v' xs.length (xs.map encW) ∧ v' = v) ∧ Boxed Z w.heap.size 23 (.int .u16 ((turnsL s ((xs.map (·.1)).zip (pre.map (·.1))) : Nat) : Int)) ∧ Boxed Z W.heap.size 3 (.int .i64 (pre.length : Int)) ∧ Z.heap[D]? = some (.deferred (some [])) ∧ Below w.heap.size w Z)
      (fun _ _ _ => False)
      (OwnFrom.and (Own.from (holdsRow_own (w.heap.size + 1) (w.heap.size + 1) 120 23 1 (fun _ : List W16 => xs.length) (fun _ => xs.map encW) (fun _ v' => v' = v)) _)
        (OwnFrom.and (Own.from (boxed_own _ _ fun pre : List W16 => .int .u16 ((turnsL s ((xs.map (·.1)).zip (pre.map (·.1))) : Nat) : Int)) _)
          (OwnFrom.and (Own.from (boxed_own _ _ fun pre : List W16 => .int .i64 (pre.length : Int)) _)
            (OwnFrom.and (fun _ X Y row hs hg hr => (hg.block D (Array.getElem?_eq_some_iff.1 hs).1 (fun e => by have := (hr D e.symm).1; omega)).trans hs) (ownFrom_below (Nat.le_refl _) (by omega))))))
      (fun _ _ _ _ _ hs _ _ => hs)
      ⟨⟨v, c1, cr, rfl⟩, by simpa [turnsL] using c0, c2, hK1, hB1⟩
      (fun x1 => { tmps := #[.int .u16 (s : Int), .string x, .string y, .pointer (some ⟨w.heap.size, 0, none⟩), undef, undef, .int .u16 0, .int .i64 (n : Int), .pointer (some ⟨w.heap.size + 1, 0, none⟩), undef, .pointer (some ⟨W.heap.size, 0, none⟩), .int .u16 (x1.1 : Int), .string x, .int .i64 (x.size : Int), .string y, .int .i64 (y.size : Int), .int .i64 (n : Int), .string x, .int .i64 (n : Int), .string (x.extract 0 n), .slice (some ⟨w.heap.size + 1 + 1, 0, none⟩) 1 1, .func (.func 98) #[] #[.pointer (some ⟨w.heap.size + 1 + 1 + 1, 0, none⟩)], undef, undef, undef, undef, undef, .string y, .int .i64 (n : Int), .string (y.extract 0 n), .slice (some ⟨W.heap.size + 1, 0, none⟩) 1 1, .func (.func 98) #[] #[.pointer (some ⟨W.heap.size + 1 + 1, 0, none⟩)], .int .u16 (x1.1 : Int), undef, undef, undef, undef, undef, undef, undef, undef, undef, undef], defers := [] }) ?assign2 ?body2 ?done2 ?stop2
    case assign2 =>
      intro l x1 Z K hK
      gi_wp2
      exact hK
    case stop2 =>
      rintro D2 c pre Z _ _ h _
      exact h.elim
    case body2 =>
      rintro l pre x1 Z ⟨⟨v', hv', hrow', rfl⟩, hb', hi', hK', hB'⟩ hlt
      rw [hL2, wordsL_length] at hlt
      have hkx : pre.length < xs.length := by rw [hlx]; simp at hlt; omega
      obtain ⟨A, c, rfl, hrd⟩ := own_slice hrow'
      obtain ⟨ad, u, rfl, hadl, hu, hcl⟩ := hrd.at_ hkx
      rw [List.getElem?_map, List.getElem?_eq_getElem hkx] at hu
      simp only [Option.map_some, Option.some.injEq, encW] at hu
      subst hu
      have hzip : (xs.map (·.1)).zip ((pre ++ [x1]).map (·.1)) = (xs.map (·.1)).zip (pre.map (·.1)) ++ [(xs[pre.length].1, x1.1)] := by
        have := zip_snoc (xs.map (·.1)) (pre.map (·.1)) x1.1 (by simpa using hkx)
        simp only [List.map_append, List.map_cons, List.map_nil]
        rw [this]
        simp
      have ht := turnsL_snoc s ((xs.map (·.1)).zip (pre.map (·.1))) (xs[pre.length].1, x1.1)
      rw [← hzip] at ht
      have hq := turnsL_le (s := s) (by omega) ((xs.map (·.1)).zip (pre.map (·.1)))
      have hy16 := xs[pre.length].2
      obtain ⟨xv, hxv⟩ := x1
      dsimp only at ht ⊢
      generalize xs[pre.length].1 = yv at *
      generalize turnsL s ((xs.map (·.1)).zip (pre.map (·.1))) = q at *
      have hlx2 : xs.length < 1099511627776 := by omega
      have HS2 := Lib.hid hD
      rw [hsz] at HS2
      clear hlt hL hL2 hzip hlx hS c0 c1 c2 c3 c4 cr hrd hrow hv hb hK hB
      have HT := Lib.hid ht
      clear ht
      have z0 := hb'.cell
      have z0f := hb'.frozen
      have z1 := hv'.cell
      have z2 := hi'.cell
      have z2f := hi'.frozen
      have hmx : Try.prog.follows .mixedOrders = true := by kernel_rfl
      have hd : 1 ≤ 3 - 1 - 1 := by omega
      gi_wp2
      gi_region_with_o (refine ⟨trivial, ?_⟩; gi_at_call 84; refine (CallsIn.inRound l (callsIn_wide.2 (turn_below q yv xv _ (by omega) hy16 hxv))).mono ?_; rintro e w' ⟨rfl, hbw⟩; have y0 := (Boxed.kept (W := Z.drew) (W' := w') hb' (only_of_below hbw none) (by simp)).cell; have y0f := (Boxed.kept (W := Z.drew) (W' := w') hb' (only_of_below hbw none) (by simp)).frozen)
      all_goals
        have hDb : w.heap.size + 4 ≤ D := by have := HS2.out; omega
        have hnr : (Value.slice (some ad) xs.length c).ownBlock ≠ some w.heap.size := fun e => by have := row_base hrow' _ e; omega
        have g0 : Z.drew.grownBy (w'.setCell ⟨w.heap.size, 0, none⟩ (.int .u16 ((turnL q yv xv : Nat) : Int))) (some w.heap.size) := only_set (only_of_below hbw (some w.heap.size)) 0 _
        have e0 : Boxed (w'.setCell ⟨w.heap.size, 0, none⟩ (.int .u16 ((turnL q yv xv : Nat) : Int))) w.heap.size 23 (.int .u16 ((turnL q yv xv : Nat) : Int)) := (Boxed.kept (W := Z.drew) hb' (only_of_below hbw none) (by simp)).set _
        have e1 : Boxed (w'.setCell ⟨w.heap.size, 0, none⟩ (.int .u16 ((turnL q yv xv : Nat) : Int))) (w.heap.size + 1) 120 (.slice (some ad) xs.length c) := Boxed.kept (W := Z.drew) hv' g0 (by simp)
        have e2 : Boxed (w'.setCell ⟨w.heap.size, 0, none⟩ (.int .u16 ((turnL q yv xv : Nat) : Int))) W.heap.size 3 (.int .i64 (pre.length : Int)) := Boxed.kept (W := Z.drew) hi' g0 (by simp; omega)
        have er : (w'.setCell ⟨w.heap.size, 0, none⟩ (.int .u16 ((turnL q yv xv : Nat) : Int))).ownsRow (w.heap.size + 1) 23 1 (.slice (some ad) xs.length c) xs.length (xs.map encW) := World.ownsRow.kept (w := Z.drew) hrow' g0 (.inr hnr)
        have eK := (g0.block D (Array.getElem?_eq_some_iff.1 hK').1 (by simp; omega)).trans hK'
        have eB : Below w.heap.size Z (w'.setCell ⟨w.heap.size, 0, none⟩ (.int .u16 ((turnL q yv xv : Nat) : Int))) := (Below.drew (Below.refl w.heap.size Z)).trans ((hbw.mono hB'.size).setCell (p := ⟨w.heap.size, 0, none⟩) (Nat.le_refl _) _)
        have ko : KeepsOthers Z (w'.setCell ⟨w.heap.size, 0, none⟩ (.int .u16 ((turnL q yv xv : Nat) : Int))) := (KeepsOthers.drew Z).trans ((KeepsOthers.of_grownBy (only_of_below hbw none) (by simp)).trans (KeepsOthers.setCell _ _ _))
        have kbz : KeepsBytes w.heap.size Z.drew (w'.setCell ⟨w.heap.size, 0, none⟩ (.int .u16 ((turnL q yv xv : Nat) : Int))) := KeepsBytes.of_grown (A := Z.drew) ((hbw.mono hB'.size).setCell (p := ⟨w.heap.size, 0, none⟩) (Nat.le_refl _) _) g0 (by
          intro g hg cs t d ht hcs
          cases hg
          rw [show Z.drew.heap[w.heap.size]? = _ from hb'] at hcs
          rcases ht with rfl | rfl <;> cases hcs)
        have kb : KeepsBytes w.heap.size Z (w'.setCell ⟨w.heap.size, 0, none⟩ (.int .u16 ((turnL q yv xv : Nat) : Int))) := ⟨eB, fun i cs t d ht e => kbz.2 i cs t d ht e⟩
        clear kbz
        have e2c := e2.cell
        have e2f := e2.frozen
        clear y0 y0f hbw z0 z0f z1 z2 z2f hcl g0
        generalize w'.setCell ⟨w.heap.size, 0, none⟩ (.int .u16 ((turnL q yv xv : Nat) : Int)) = Y at *
        gi_wp2
        have f2 := e2.set (.int .i64 ((pre.length : Int) + 1))
        have bl : Below w.heap.size Y (Y.setCell ⟨W.heap.size, 0, none⟩ (.int .i64 ((pre.length : Int) + 1))) := (Below.refl _ Y).setCell (p := ⟨W.heap.size, 0, none⟩) (by simp; omega) _
        exact ⟨(ko.trans (KeepsOthers.setCell _ _ _)).from _, kb.trans (KeepsBytes.of_grown bl (grownBy_setCell' _ _ _) (by
            intro g hg cs t d ht hcs
            cases hg
            rw [show Y.heap[W.heap.size]? = _ from e2] at hcs
            rcases ht with rfl | rfl <;> cases hcs)),
          ⟨_, e1.other (by omega) _, er.kept (grownBy_setCell' _ _ _) (.inr (e2.not_row (by decide) er).symm), rfl⟩, by rw [HT.out]; exact e0.other (by omega) _, by simpa using f2,
          ((grownBy_setCell' Y W.heap.size _).block D (Array.getElem?_eq_some_iff.1 eK).1 (by simp; omega)).trans eK, hB'.trans (eB.trans bl)⟩
    case done2 =>
      rintro D2 zs Z hD2 hS2 ⟨⟨v', hv', hrow', rfl⟩, hb', hi', hK', hB'⟩ hK2
      have hq := turnsL_le (s := s) (by omega) ((xs.map (·.1)).zip (zs.map (·.1)))
      rw [hS, hS2, hL, hL2] at hq hb'
      obtain ⟨q, hqe⟩ : ∃ q, turnsL s ((wordsL (x.data.toList.take n)).zip (wordsL (y.data.toList.take n))) = q := ⟨_, rfl⟩
      rw [hqe] at hq hb'
      have HQ := Lib.hid hqe
      clear hqe
      have hc := hb'.cell
      clear hS hS2 hL hL2 hlx cr c0 c1 c2 c3 c4
      gi_wp2
      have hK3 : (Z.putObj D2 (.deferred none)).heap[D]? = some (.deferred (some [])) := (World.putObj_heap_other (by omega)).trans hK'
      refine ⟨by simp, .inl ⟨_, _, rfl, run_takeDeferred hK2, ?_⟩⟩
      refine ⟨by simp, .inl ⟨_, _, rfl, run_takeDeferred hK3, ?_⟩⟩
      refine ⟨_, results_tmp rfl _ _ _, ?_, ?_⟩
      · exact ret_nat HQ.out.symm
      have hDw : w.heap.size ≤ D := by omega
      have hDw2 : w.heap.size ≤ D2 := by omega
      exact hB'.trans ((belowK_b (w := w) (Nat.le_refl _) Z D2 _ _ hDw2 hK2 rfl rfl).trans (belowK_b (w := w) (Nat.le_refl _) _ D _ _ hDw hK3 rfl rfl))
theorem turns_any (s : Nat) (x y : ByteArray) (hs : s < 65536) (hx : x.size ≤ 1099511627776) (hy : y.size ≤ 1099511627776) (w : World) :
    Calls Try.prog 47 #[.int .u16 (s : Int), .string x, .string y] w fun e w' =>
      e = .returned (.int .u16 ((turnsL s ((wordsL (x.data.toList.take (min x.size y.size))).zip (wordsL (y.data.toList.take (min x.size y.size)))) : Nat) : Int)) ∧ Below w.heap.size w w' :=
  callsIn_wide.1 (turns_in s x y hs hx hy _ rfl w)
end Go.Proofs.Ytengegcnocdkoaa
end
