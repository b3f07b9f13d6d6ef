/- Contracts and plain lemmas: Base, Words, SumPlain, Sum, Sum2, SumOf, SumLit, Bytes, Class, Be, PIp, PIpPlain, Flat, PIpEnc, PIpRefEnc, PIpDecPlain. -/
import Derived.Test.YtengegcnocdkoaaRows
import Derived.WalkKit
import Derived.ProofKit
import Derived.OpenShut
import Derived.ShutString
import Derived.ChangeOld
import Derived.Below
import Derived.Lib.Hide
import Derived.Lib.SmallJoins
import Derived.Deep.QuietTactic
import Derived.BigQuiet
import Derived.Outline
import Derived.Laws.OwnMore
import Derived.Deep.AppendLies
import Derived.Deep.Draws
import Derived.Laws.Rows
import Derived.Maps.AppendAt
import Derived.RegionTactic
import Derived.OwnWalk
import Derived.Deep.OwnRows
import Derived.Laws.AppendOwn
import Derived.RangeFuncNested
import Derived.RangeFuncBound
import Derived.RangeFuncCalls
import Derived.RangeFuncLeaves
import Derived.RangeFuncBox
import Derived.Shelf.Abstract
import Derived.Shelf.RegionOpen
import Derived.OwnWalkIn
import Derived.TacticsInMore
import Derived.LoopNIn
import Derived.LoopIn
import Derived.Lib.ConvBytes
import Derived.Laws.BitsAllLaws
import Derived.Laws.IdiomStrings
import Derived.Laws.BytesArg
import Derived.Laws.NewBlocks
import Derived.Laws.MakeOwn
import Derived.Deep.RegionHeld3
import Derived.Deep.DeepCutAuto
set_option linter.unusedVariables false
set_option linter.unusedSimpArgs false
set_option linter.unusedSectionVars false
section
namespace Go.Proofs.Ytengegcnocdkoaa
open Go.RowKit
theorem ret_int {k : IntKind} {a b : Int} (h : a = b) : Ending.returned (.int k a) = .returned (.int k b) := by rw [h]
theorem ret_nat {k : IntKind} {a b : Nat} (h : a = b) : Ending.returned (.int k (a : Int)) = .returned (.int k (b : Int)) := by rw [h]
theorem ret_bool {a b : Bool} (h : a = b) : Ending.returned (.bool a) = .returned (.bool b) := by rw [h]
end Go.Proofs.Ytengegcnocdkoaa
end
section
namespace Go.Proofs.Ytengegcnocdkoaa
open Go.RowKit
theorem block_of_add (a : Addr) (n : Nat) : (a.add n).block = a.block := by unfold Addr.add; split <;> rfl
def Reads (w : World) (B size : Nat) (A : Option Addr) (n : Nat) (xs : List Value) : Prop :=
  xs.length = n * size ∧ (0 < n → ∃ ad, A = some ad ∧ ad.block < B ∧ ∀ j u, xs[j]? = some u → w.cell? (ad.add j) = some u)
section
variable {w w' : World} {B B' size n : Nat} {A : Option Addr} {xs : List Value}
theorem Reads.at_ {k : Nat} (h : Reads w B 1 A n xs) (hk : k < n) : ∃ ad u, A = some ad ∧ ad.block < B ∧ xs[k]? = some u ∧ w.cell? (ad.add k) = some u := by
  obtain ⟨ad, e, hb, hc⟩ := h.2 (by omega)
  have hl : k < xs.length := by have := h.1; omega
  exact ⟨ad, xs[k], e, hb, List.getElem?_eq_getElem hl, hc k _ (List.getElem?_eq_getElem hl)⟩
theorem Reads.keep (h : Reads w B size A n xs) (hk : ∀ p : Addr, p.block < B → w'.cell? p = w.cell? p) : Reads w' B size A n xs :=
  ⟨h.1, fun hn => by
    obtain ⟨ad, e, hb, hc⟩ := h.2 hn
    exact ⟨ad, e, hb, fun j u hu => (hk _ (by rw [block_of_add]; exact hb)).trans (hc j u hu)⟩⟩
theorem Reads.more (h : Reads w B size A n xs) (hB : B ≤ B') : Reads w B' size A n xs :=
  ⟨h.1, fun hn => by
    obtain ⟨ad, e, hb, hc⟩ := h.2 hn
    exact ⟨ad, e, by omega, hc⟩⟩
theorem Reads.below (h : Reads w B size A n xs) (hb : Below B w w') : Reads w' B size A n xs := h.keep fun _ hp => hb.cell hp
theorem Reads.drew (h : Reads w B size A n xs) : Reads w.drew B size A n xs := h
theorem Reads.drewN (h : Reads w B size A n xs) (k : Nat) : Reads (w.drewN k) B size A n xs := h
theorem Reads.alloc (h : Reads w B size A n xs) (hB : B ≤ w.heap.size) (o : Obj) : Reads (w.alloc o) B size A n xs := h.keep fun p hp => World.cell?_alloc_lt w o p (by omega)
theorem Reads.setCell (h : Reads w B size A n xs) {p : Addr} (hB : B ≤ p.block) (u : Value) : Reads (w.setCell p u) B size A n xs :=
  h.keep fun q hq => World.cell?_setCell_other w p q u (fun e => by subst e; omega)
theorem Reads.grown (h : Reads w B size A n xs) {row : Option Nat} (hg : w.grownBy w' row) (hB : B ≤ w.heap.size) (hr : ∀ g, row = some g → B ≤ g) : Reads w' B size A n xs :=
  h.keep fun p hp => World.cell?_of_block (hg.block p.block (by omega) (fun e => by have := hr _ e.symm; omega))
theorem Reads.of_own {base : Nat} {e : TypeId} {c : Nat} (h : w.ownsRow base e size (.slice A n c) n xs) : Reads w w.heap.size size A n xs := by
  refine ⟨h.1, fun hn => ?_⟩
  obtain ⟨g, cap, hv, _, hlt⟩ := h.form hn
  have hA : A = some ⟨g, 0, none⟩ := by injection hv
  subst hA
  exact ⟨_, rfl, hlt, h.cells (g := g) rfl⟩
end
def Blk (w : World) (g : Nat) (t : TypeId) (cs : Array Value) : Prop := w.heap[g]? = some (.cells cs t (0, 0))
section
variable {w w' : World} {g : Nat} {t : TypeId} {cs : Array Value}
theorem Blk.lt (h : Blk w g t cs) : g < w.heap.size := by
  rcases Nat.lt_or_ge g w.heap.size with hlt | hge
  · exact hlt
  · unfold Blk at h; rw [Array.getElem?_eq_none hge] at h; cases h
theorem Blk.cell (h : Blk w g t cs) (i : Nat) : w.cell? ⟨g, i, none⟩ = cs[i]? := cell_of_row w g i cs t (0, 0) h
theorem Blk.frozen (h : Blk w g t cs) (i : Nat) : w.frozen? ⟨g, i, none⟩ = false := by
  unfold Blk at h
  simp [World.frozen?, h]
theorem Blk.new (w : World) (t : TypeId) (cs : Array Value) : Blk (w.alloc (.cells cs t)) w.heap.size t cs := heap_alloc_new w _
theorem Blk.drew (h : Blk w g t cs) : Blk w.drew g t cs := h
theorem Blk.drewN (h : Blk w g t cs) (n : Nat) : Blk (w.drewN n) g t cs := h
theorem Blk.alloc (h : Blk w g t cs) (o : Obj) : Blk (w.alloc o) g t cs := (Below.heap_alloc w o g h.lt).trans h
theorem Blk.set_ (h : Blk w g t cs) (i : Nat) (u : Value) : Blk (w.setCell ⟨g, i, none⟩ u) g t (cs.setIfInBounds i u) := by
  unfold Blk at h ⊢
  simp [World.setCell, Array.getElem?_modify, h]
theorem Blk.far (h : Blk w g t cs) {p : Addr} (hp : g ≠ p.block) (u : Value) : Blk (w.setCell p u) g t cs := (Below.heap_setCell w p u g hp).trans h
theorem Blk.below {B : Nat} (h : Blk w g t cs) (hb : Below B w w') (hg : g < B) : Blk w' g t cs := (hb.block g hg).trans h
theorem Blk.grown {row : Option Nat} (h : Blk w g t cs) (hb : w.grownBy w' row) (hg : some g ≠ row) : Blk w' g t cs := (hb.block g h.lt hg).trans h
theorem Blk.ne_ {g' : Nat} {t' : TypeId} {cs' : Array Value} (h : Blk w g t cs) (h' : Blk w g' t' cs') (hne : t ≠ t') : g ≠ g' := by
  rintro rfl
  unfold Blk at h h'
  rw [h] at h'
  injection h' with h'
  injection h' with _ ht
  exact hne ht
theorem own_blk_ne {base : Nat} {e : TypeId} {size n : Nat} {v : Value} {xs : List Value} (h : w.ownsRow base e size v n xs) (hg : Blk w g t cs) (hne : e ≠ t) : v.ownBlock ≠ some g := by
  rcases h.2 with ⟨rfl, _⟩ | ⟨g', cap, cur, rfl, _, hh, _⟩
  · simp [Value.ownBlock]
  · intro he
    have : g' = g := by simpa [Value.ownBlock] using he
    subst this
    exact Blk.ne_ (t := e) hh hg hne rfl
end
section
variable {P : Program} (w : World)
theorem run_append_of_nil (base : Nat) (t ty e : TypeId) (i : TypeInfo) (size : Nat) (ht : P.underlying t = some (.slice e)) (hi : P.info? e = some i)
    (v : Value) (n : Nat) (xs : List Value) (hown : w.ownsRow base e size v n xs) (c : Nat) : (Builtin.append_ #[t, t] ty #[v, .slice none 0 c]).run P w = .ok v w := by
  rcases hown.2 with ⟨rfl, rfl⟩ | ⟨g, cap, cur, rfl, _, _, hnc, _⟩
  · simp [Builtin.append_, run_underlying ht, sizeOf, typeInfo, hi, Builtin.lenOf, Builtin.firstCells]
  · simp [Builtin.append_, run_underlying ht, sizeOf, typeInfo, hi, Builtin.lenOf, Builtin.firstCells, hnc, storeCells]
theorem run_append_any (base : Nat) (t ty e : TypeId) (i : TypeInfo) (z : Value) (size bytes : Nat) (ht : P.underlying t = some (.slice e)) (hi : P.info? e = some i) (hz : i.zero = some z)
    (hsize : i.size = size) (hby : i.bytes = bytes) (hzs : z.cells.size = size) (hsz : 0 < size)
    (v : Value) (n : Nat) (xs : List Value) (hown : w.ownsRow base e size v n xs)
    (B : Nat) (A : Option Addr) (m c : Nat) (news : List Value) (hr : Reads w B size A m news) (h1 : ∀ u ∈ news, u.oneCell' = true)
    (h63 : n + m ≤ maxLen) (hbytes : (n + m) * bytes ≤ 140737488355328) (hbase : base ≤ w.heap.size) :
    ∃ v' w', (Builtin.append_ #[t, t] ty #[v, .slice A m c]).run P w = .ok v' w' ∧ w'.ownsRow base e size v' (n + m) (xs ++ news) ∧ w.grownBy w' v.ownBlock ∧
      (v'.ownBlock = v.ownBlock ∨ v'.ownBlock = some w.heap.size) := by
  rcases A with _ | ad
  · have hm : m = 0 := by
      rcases Nat.eq_zero_or_pos m with h0 | h0
      · exact h0
      · obtain ⟨ad, h, _⟩ := hr.2 h0
        cases h
    subst hm
    have hn : news = [] := List.eq_nil_of_length_eq_zero (by simpa using hr.1)
    subst hn
    exact ⟨v, w, run_append_of_nil w base t ty e i size ht hi v n xs hown c, by simpa using hown, World.grownBy.refl w _, .inl rfl⟩
  · have hcells : ∀ j u, news[j]? = some u → w.cell? (ad.add j) = some u := by
      intro j u hu
      rcases Nat.eq_zero_or_pos m with h0 | h0
      · subst h0
        have hn : news = [] := List.eq_nil_of_length_eq_zero (by simpa using hr.1)
        subst hn
        simp at hu
      · obtain ⟨ad', h, _, hc⟩ := hr.2 h0
        injection h with h
        subst h
        exact hc j u hu
    obtain ⟨v', w', hrun, h2, h3, _, h5⟩ := run_append_own_at (P := P) w base t ty e i z size bytes ht hi hz hsize hby hzs hsz v n xs hown ad m c news hr.1 hcells h1 h63 hbytes hbase
    exact ⟨v', w', hrun, h2, h3, h5⟩
theorem wp_append_any {o : Oper} {a : Act} {K : Act → World → Prop} {Q : Exit → Act → World → Prop} (s x : Operand) (t : TypeId)
    (ho : o.op = .call { callee := .builtin .append, args := #[s, x], argTypes := #[t, t] })
    (base : Nat) (e : TypeId) (i : TypeInfo) (z : Value) (size bytes : Nat) (ht : P.underlying t = some (.slice e)) (hi : P.info? e = some i) (hz : i.zero = some z)
    (hsize : i.size = size) (hby : i.bytes = bytes) (hzs : z.cells.size = size) (hsz : 0 < size)
    (v : Value) (n : Nat) (xs : List Value) (hs : a.eval s = v) (hown : w.ownsRow base e size v n xs)
    (B : Nat) (A : Option Addr) (m c : Nat) (news : List Value) (hx : a.eval x = .slice A m c) (hr : Reads w B size A m news) (h1 : ∀ u ∈ news, u.oneCell' = true)
    (h63 : n + m ≤ maxLen) (hbytes : (n + m) * bytes ≤ 140737488355328) (hbase : base ≤ w.heap.size)
    (h : ∀ v' w', w'.ownsRow base e size v' (n + m) (xs ++ news) → w.grownBy w' v.ownBlock → (v'.ownBlock = v.ownBlock ∨ v'.ownBlock = some w.heap.size) → K (a.put o.dst v') w') : o.wp P a w K Q := by
  obtain ⟨v', w', hrun, h2, h3, h4⟩ := run_append_any (P := P) w base t o.type e i z size bytes ht hi hz hsize hby hzs hsz v n xs hown B A m c news hr h1 h63 hbytes hbase
  unfold Oper.wp execOp
  simp only [ho, resolve, invoke, builtin, Sem.run_bind, Sem.run_pure, Result.andThen_ok, List.map_toArray, List.map_cons, List.map_nil, hs, hx, hrun]
  exact h v' w' h2 h3 h4
theorem wpList_append_any {ops : Array Oper} {rest : List Oper} {o : Oper} {a : Act} {Q : Exit → Act → World → Prop} (hgd : o.guard = none) (s x : Operand) (t : TypeId)
    (ho : o.op = .call { callee := .builtin .append, args := #[s, x], argTypes := #[t, t] })
    (base : Nat) (e : TypeId) (i : TypeInfo) (z : Value) (size bytes : Nat) (ht : P.underlying t = some (.slice e)) (hi : P.info? e = some i) (hz : i.zero = some z)
    (hsize : i.size = size) (hby : i.bytes = bytes) (hzs : z.cells.size = size) (hsz : 0 < size)
    (v : Value) (n : Nat) (xs : List Value) (hs : a.eval s = v) (hown : w.ownsRow base e size v n xs)
    (B : Nat) (A : Option Addr) (m c : Nat) (news : List Value) (hx : a.eval x = .slice A m c) (hr : Reads w B size A m news) (h1 : ∀ u ∈ news, u.oneCell' = true)
    (h63 : n + m ≤ maxLen) (hbytes : (n + m) * bytes ≤ 140737488355328) (hbase : base ≤ w.heap.size)
    (h : ∀ v' w', w'.ownsRow base e size v' (n + m) (xs ++ news) → w.grownBy w' v.ownBlock → (v'.ownBlock = v.ownBlock ∨ v'.ownBlock = some w.heap.size) → wpList P ops Q rest (a.put o.dst v') w') : wpList P ops Q (o :: rest) a w :=
  wpList_plain hgd fun _ hK => wp_append_any w s x t ho base e i z size bytes ht hi hz hsize hby hzs hsz v n xs hs hown B A m c news hx hr h1 h63 hbytes hbase fun v' w' h2 h3 h4 => hK _ _ (h v' w' h2 h3 h4)
end
theorem below_drewN {B : Nat} {a w : World} (h : Below B a w) (n : Nat) : Below B a (w.drewN n) := ⟨h.os, h.tape, h.output, h.size, h.block⟩
theorem only_drew {a w : World} {row : Option Nat} (h : a.grownBy w row) : a.grownBy w.drew row := ⟨h.os, h.tape, h.output, h.size, h.block⟩
theorem only_alloc {a w : World} {row : Option Nat} (h : a.grownBy w row) (o : Obj) : a.grownBy (w.alloc o) row :=
  ⟨h.os, h.tape, h.output, Nat.le_trans h.size (by simp), fun i hi hne => (Below.heap_alloc w o i (Nat.lt_of_lt_of_le hi h.size)).trans (h.block i hi hne)⟩
theorem only_setCell {a w : World} {g : Nat} (h : a.grownBy w (some g)) {p : Addr} (hp : p.block = g ∨ a.heap.size ≤ p.block) (u : Value) : a.grownBy (w.setCell p u) (some g) :=
  ⟨h.os, h.tape, h.output, by simpa [World.setCell] using h.size, fun i hi hne => (Below.heap_setCell w p u i (by
    rintro rfl
    rcases hp with hp | hp
    · exact hne (by rw [hp])
    · omega)).trans (h.block i hi hne)⟩
theorem only_of_below {a w : World} (h : Below a.heap.size a w) (row : Option Nat) : a.grownBy w row := ⟨h.os, h.tape, h.output, h.size, fun i hi _ => h.block i hi⟩
theorem Reads.of_blk {w : World} {g : Nat} {t : TypeId} {cs : Array Value} {B : Nat} (h : Blk w g t cs) (hB : g < B) (xs : List Value) (hx : cs.toList = xs) (n : Nat) (hn : n = xs.length) :
    Reads w B 1 (some ⟨g, 0, none⟩) n xs := by
  refine ⟨by omega, fun _ => ⟨_, rfl, hB, fun j u hj => ?_⟩⟩
  have : (⟨g, 0, none⟩ : Addr).add j = ⟨g, j, none⟩ := by unfold Addr.add; split <;> simp_all
  rw [this, h.cell j, ← hj, ← hx]
  simp
theorem only_set {a w : World} {g : Nat} (h : a.grownBy w (some g)) (i : Nat) (u : Value) : a.grownBy (w.setCell ⟨g, i, none⟩ u) (some g) := only_setCell h (.inl rfl) u
theorem below_only {B : Nat} {a w w' : World} {g : Nat} (h : Below B a w) (hg : w.grownBy w' (some g)) (hB : B ≤ g) (hz : B ≤ w.heap.size) : Below B a w' :=
  h.grown hg hz (by intro k hk; cases hk; exact hB)
theorem cell_lt {w : World} {x : Addr} {v : Value} (h : w.cell? x = some v) : x.block < w.heap.size := by
  unfold World.cell? at h
  rcases Nat.lt_or_ge x.block w.heap.size with h' | h'
  · exact h'
  · rw [Array.getElem?_eq_none h'] at h; cases h
/-- a row of the call's own, as a slice value that reads as its list -/
theorem own_slice {w : World} {base : Nat} {e : TypeId} {size n : Nat} {v : Value} {xs : List Value} (h : w.ownsRow base e size v n xs) :
    ∃ (A : Option Addr) (c : Nat), v = .slice A n c ∧ Reads w w.heap.size size A n xs := by
  rcases h.2 with ⟨rfl, rfl⟩ | ⟨g, cap, cur, rfl, _⟩
  · exact ⟨none, 0, rfl, Reads.of_own h⟩
  · exact ⟨_, _, rfl, Reads.of_own h⟩
theorem quiet_left {P : Program} {f : FuncId} {args : Array Value} {w : World} {n : Nat} {v : Value}
    (h : Calls P f args (w.drewN n) fun e w' => e = .returned v ∧ w.drewN n = w') : Calls P f args (w.drewN n) fun e w'' => e = .returned v ∧ ∃ m, w'' = w.drewN m :=
  h.mono fun _ _ ⟨he, hm⟩ => ⟨he, n, hm.symm⟩
end Go.Proofs.Ytengegcnocdkoaa
end
section
namespace Go.Proofs.Ytengegcnocdkoaa
/-- the full words of bytes -/
def pairs : List UInt8 → List Nat
  | a :: b :: t => (a.toNat * 256 + b.toNat) :: pairs t
  | _ => []
/-- all words of bytes, the last one filled with a zero -/
def wordsL : List UInt8 → List Nat
  | a :: b :: t => (a.toNat * 256 + b.toNat) :: wordsL t
  | [a] => [a.toNat * 256]
  | [] => []
theorem wordsL_pairs : ∀ c : List UInt8, wordsL c = pairs c ++ (if c.length % 2 = 1 then [(c.getLastD 0).toNat * 256] else [])
  | [] => rfl
  | [a] => by simp [wordsL, pairs]
  | a :: b :: t => by
    have ih := wordsL_pairs t
    have e : (t.length + 1 + 1) % 2 = t.length % 2 := by omega
    simp only [wordsL, pairs, ih, List.cons_append, List.length_cons, e]
    by_cases h : t.length % 2 = 1
    · rw [if_pos h, if_pos h]
      cases t with
      | nil => simp at h
      | cons x y => simp [List.getLastD]
    · rw [if_neg h, if_neg h]
theorem pairs_snoc : ∀ (c : List UInt8) (x : UInt8), pairs (c ++ [x]) = if c.length % 2 = 1 then pairs c ++ [(c.getLastD 0).toNat * 256 + x.toNat] else pairs c
  | [], x => rfl
  | [a], x => by simp [pairs]
  | a :: b :: t, x => by
    have ih := pairs_snoc t x
    have e : (t.length + 1 + 1) % 2 = t.length % 2 := by omega
    simp only [List.cons_append, pairs, ih, List.length_cons, e]
    by_cases h : t.length % 2 = 1
    · rw [if_pos h, if_pos h]
      cases t with
      | nil => simp at h
      | cons x y => simp [List.getLastD]
    · rw [if_neg h, if_neg h]
theorem pairs_snoc_odd {c : List UInt8} (h : c.length % 2 = 1) (x : UInt8) : pairs (c ++ [x]) = pairs c ++ [(c.getLastD 0).toNat * 256 + x.toNat] := by rw [pairs_snoc, if_pos h]
theorem pairs_snoc_even {c : List UInt8} (h : ¬ c.length % 2 = 1) (x : UInt8) : pairs (c ++ [x]) = pairs c := by rw [pairs_snoc, if_neg h]
theorem wordsL_odd {c : List UInt8} (h : c.length % 2 = 1) : wordsL c = pairs c ++ [(c.getLastD 0).toNat * 256] := by rw [wordsL_pairs, if_pos h]
theorem wordsL_even {c : List UInt8} (h : ¬ c.length % 2 = 1) : wordsL c = pairs c := by rw [wordsL_pairs, if_neg h, List.append_nil]
theorem wordsL_lt : ∀ (c : List UInt8), ∀ x ∈ wordsL c, x < 65536
  | [] => by simp [wordsL]
  | [a] => by
    intro x hx
    simp [wordsL] at hx
    have := a.toNat_lt
    omega
  | a :: b :: t => by
    intro x hx
    simp only [wordsL, List.mem_cons] at hx
    have := a.toNat_lt
    have := b.toNat_lt
    rcases hx with rfl | hx
    · omega
    · exact wordsL_lt t x hx
theorem wordsL_length : ∀ (c : List UInt8), (wordsL c).length = (c.length + 1) / 2
  | [] => rfl
  | [a] => by simp [wordsL]
  | a :: b :: t => by
    simp only [wordsL, List.length_cons, wordsL_length t]
    omega
theorem pairs_length : ∀ (c : List UInt8), (pairs c).length = c.length / 2
  | [] => rfl
  | [a] => by simp [pairs]
  | a :: b :: t => by
    simp only [pairs, List.length_cons, pairs_length t]
    omega
/-- the sum by ones' complement -/
def ones2 (x w : Nat) : Nat := (x + w) % 65536 + (x + w) / 65536
def nrm (x : Nat) : Nat := if x = 0 then 0 else (x - 1) % 65535 + 1
theorem nrm_le (x : Nat) : nrm x ≤ 65535 := by unfold nrm; split <;> omega
theorem ones2_nrm (s w : Nat) (h : w < 65536) : ones2 (nrm s) w = nrm (s + w) := by
  unfold ones2 nrm
  split
  · subst_vars
    split <;> omega
  · rw [if_neg (by omega)]
    omega
theorem fold_ones (l : List Nat) (s : Nat) (h : ∀ x ∈ l, x < 65536) : l.foldl ones2 (nrm s) = nrm (s + l.sum) := by
  induction l generalizing s with
  | nil => simp
  | cons x l ih =>
    simp only [List.foldl_cons, List.sum_cons]
    rw [ones2_nrm _ _ (h x (by simp)), ih _ (fun y hy => h y (by simp [hy])), Nat.add_assoc]
theorem fold_ones0 (l : List Nat) (h : ∀ x ∈ l, x < 65536) : l.foldl ones2 0 = nrm l.sum := by
  have := fold_ones l 0 h
  simpa [nrm] using this
/-- the checksum of bytes -/
def ofL (c : List UInt8) : Nat := 65535 - nrm (wordsL c).sum
theorem ofL_le (c : List UInt8) : ofL c ≤ 65535 := by unfold ofL; omega
def turnL (sum was now : Nat) : Nat := 65535 - nrm (131070 - sum - was + now)
def turnsL (sum : Nat) (l : List (Nat × Nat)) : Nat := l.foldl (fun s p => turnL s p.1 p.2) sum
theorem turnL_le (a b c : Nat) : turnL a b c ≤ 65535 := by unfold turnL; omega
theorem turnsL_snoc (s : Nat) (l : List (Nat × Nat)) (p : Nat × Nat) : turnsL s (l ++ [p]) = turnL (turnsL s l) p.1 p.2 := by simp [turnsL]
theorem turnsL_le {s : Nat} (hs : s ≤ 65535) (l : List (Nat × Nat)) : turnsL s l ≤ 65535 := by
  induction l generalizing s with
  | nil => exact hs
  | cons p l ih => exact ih (turnL_le _ _ _)
end Go.Proofs.Ytengegcnocdkoaa
end
section
namespace Go.Proofs.Ytengegcnocdkoaa
open Go.RowKit Go.Shelf
attribute [local go_sem] Oper.semAt_some
theorem ones_any (A : Option Addr) (len cap : Nat) (xs : List Nat) (w : World) (hl : len = xs.length) (hm : len ≤ 9223372036854775807) (hx : ∀ x ∈ xs, x < 65536)
    (h : Reads w w.heap.size 1 A len (xs.map fun x : Nat => Value.int .u16 (x : Int))) :
    Calls Try.prog 92 #[.slice A len cap] w fun e w' => e = .returned (.int .u16 ((xs.foldl ones2 0 : Nat) : Int)) ∧ w = w' := by
  go_enter Try.func92, Try.ntmps92
  go_wp2
  go_loopw [8, 3] (fun i s wr => ∃ k : Nat, k ≤ len ∧ i = .int .i64 k ∧ s = .int .u32 (((xs.take k).foldl ones2 0 : Nat) : Int) ∧ w = wr) (fun i _ _ => len - (intOf i).toNat)
  case atStart => exact ⟨0, Nat.zero_le _, rfl, rfl, rfl⟩
  case round =>
    obtain ⟨k, hk, rfl, rfl, rfl⟩ := hrel
    by_cases h1 : k < len
    · obtain ⟨ad, u, rfl, hb, hu, hc⟩ := h.at_ h1
      have hkx : k < xs.length := by omega
      rw [List.getElem?_map, List.getElem?_eq_getElem hkx] at hu
      simp only [Option.map_some, Option.some.injEq] at hu
      subst hu
      have hxk := hx xs[k] (List.getElem_mem hkx)
      have e : xs.take (k + 1) = xs.take k ++ [xs[k]] := by rw [List.take_add_one, List.getElem?_eq_getElem hkx]; rfl
      have hn : (xs.take (k + 1)).foldl ones2 0 = ones2 ((xs.take k).foldl ones2 0) xs[k] := by rw [e, List.foldl_append]; rfl
      have hs : (xs.take k).foldl ones2 0 ≤ 65535 := by
        rw [fold_ones0 _ (fun y hy => hx y (List.mem_of_mem_take hy))]; exact nrm_le _
      generalize xs[k] = x at *
      generalize (xs.take k).foldl ones2 0 = s at *
      clear e
      have HN := Lib.hid hn
      clear hn
      have e1 : bits .and .u32 ((s : Int) + (x : Int)) 65535 = (((s + x) % 65536 : Nat) : Int) := by
        have := u32_and_nat (s + x) 65535 (by omega) (by decide)
        rw [nat_mask16] at this
        simpa using this
      go_wp2
      go_roundw
      case rel =>
        refine ⟨k + 1, by omega, by go_num, ?_, trivial⟩
        rw [HN.out]
        congr 1
      case measure => simp [intOf]; omega
    · obtain rfl : k = len := by omega
      have hs : (xs.take k).foldl ones2 0 ≤ 65535 := by
        rw [fold_ones0 _ (fun y hy => hx y (List.mem_of_mem_take hy))]; exact nrm_le _
      rw [show xs.take k = xs by rw [hl]; exact List.take_length] at hs ⊢
      obtain ⟨s, e⟩ : ∃ s, xs.foldl ones2 0 = s := ⟨_, rfl⟩
      rw [e] at hs ⊢
      have HE := Lib.hid e
      clear e
      go_wp2
      go_ret
      exact ⟨by rw [HE.out]; rfl, rfl⟩
/-- what a round keeps: what lay below n₀, and each row of bytes, or of strings -/
def KeepsBytes (n₀ : Nat) (A B : World) : Prop := Below n₀ A B ∧ ∀ (i : Nat) (cs : Array Value) (t : TypeId) (d : Nat × Nat), t = 5 ∨ t = 9 → A.heap[i]? = some (Obj.cells cs t d) → B.heap[i]? = some (Obj.cells cs t d)
theorem KeepsBytes.trans {n₀ : Nat} {A B C : World} (h : KeepsBytes n₀ A B) (k : KeepsBytes n₀ B C) : KeepsBytes n₀ A C := ⟨h.1.trans k.1, fun i cs t d ht e => k.2 i cs t d ht (h.2 i cs t d ht e)⟩
theorem KeepsBytes.refl (n₀ : Nat) (A : World) : KeepsBytes n₀ A A := ⟨Below.refl _ _, fun i cs t d ht e => e⟩
theorem KeepsBytes.putObj {n₀ : Nat} {w : World} (hn : n₀ ≤ w.heap.size) (W : World) (l : Nat) (o o' : Obj) (hl : w.heap.size ≤ l) (h : W.heap[l]? = some o) (hc : o.isCells = false) (hw : o.isWalk = false) : KeepsBytes n₀ W (W.putObj l o') :=
  ⟨belowK_b hn W l o o' hl h hc hw, fun i cs t d ht e => (World.putObj_heap_other (by rintro rfl; rw [h] at e; cases e; cases hc)).trans e⟩
theorem KeepsBytes.of_grown {n₀ : Nat} {A B : World} {row : Option Nat} (hb : Below n₀ A B) (hg : A.grownBy B row) (hr : ∀ (g : Nat), row = some g → ∀ cs t d, t = 5 ∨ t = 9 → A.heap[g]? ≠ some (Obj.cells cs t d)) : KeepsBytes n₀ A B :=
  ⟨hb, fun i cs t d ht e => (hg.block i (Array.getElem?_eq_some_iff.1 e).1 (fun h => hr i h.symm cs t d ht e)).trans e⟩
theorem KeepsBytes.of_below {n₀ : Nat} {A B : World} (hn : n₀ ≤ A.heap.size) (h : Below A.heap.size A B) : KeepsBytes n₀ A B :=
  ⟨h.mono hn, fun i cs t d ht e => (h.block i (Array.getElem?_eq_some_iff.1 e).1).trans e⟩
/-- strings that are read wherever rows of strings, and what lay below n₀, are kept -/
def Stable (n₀ : Nat) (w : World) (A : Option Addr) (len : Nat) (ss : List ByteArray) : Prop := ∀ wr, KeepsBytes n₀ w wr → Reads wr wr.heap.size 1 A len (ss.map Value.string)
theorem Stable.later {n₀ : Nat} {w w' : World} {A : Option Addr} {len : Nat} {ss : List ByteArray} (h : Stable n₀ w A len ss) (hk : KeepsBytes n₀ w w') : Stable n₀ w' A len ss := fun wr hw => h wr (hk.trans hw)
theorem Stable.of_low {n₀ : Nat} {w : World} {A : Option Addr} {len : Nat} {ss : List ByteArray} (hn : n₀ ≤ w.heap.size) (h : Reads w n₀ 1 A len (ss.map Value.string)) : Stable n₀ w A len ss :=
  fun wr hw => (h.below hw.1 : Reads wr n₀ 1 A len (ss.map Value.string)).more (by have := hw.1.size; omega)
theorem Stable.of_blk {n₀ : Nat} {w : World} {g : Nat} {ss : List ByteArray} (h : Blk w g 9 (ss.map Value.string).toArray) : Stable n₀ w (some ⟨g, 0, none⟩) ss.length ss :=
  fun wr hw => by
    have h' : Blk wr g 9 (ss.map Value.string).toArray := hw.2 _ _ _ _ (.inr rfl) h
    exact Reads.of_blk h' h'.lt _ (by simp) _ (by simp)
theorem run_bytes_blk (w : World) (s : ByteArray) : ∃ (W1 : World) (cap : Nat),
    (convert 9 51 (.string s)).run Try.prog w = .ok (.slice (some ⟨w.heap.size, 0, none⟩) s.size cap) W1 ∧ Below w.heap.size w W1 ∧ W1.heap.size = w.heap.size + 1 ∧
    ∃ cs d, W1.heap[w.heap.size]? = some (Obj.cells cs 5 d) ∧ ∀ j (h : j < s.size), cs[j]? = some (.int .u8 (s[j].toNat : Int)) := by
  refine ⟨_, _, Lib.run_convert_string_bytes (P := Try.prog) w 9 51 5 s Try.underlying9 Try.underlying51 Try.underlying5, ?_, Lib.bytesWorld_size .., _, _, Lib.bytesWorld_at_new .., ?_⟩
  · refine ⟨?_, ?_, ?_, by rw [Lib.bytesWorld_size]; omega, fun i hi => Lib.bytesWorld_at_old w 5 s i hi⟩
    all_goals unfold Lib.bytesWorld World.freeze; split <;> rfl
  · intro j h
    have hj : j < s.data.size := h
    have hj' : j < s.data.toList.length := by simpa using hj
    simp [Lib.bytesCells, Array.getElem?_append, h, hj]
    rfl
theorem or_word (h b : Nat) (h1 : h < 256) (h2 : b < 256) : bits .or .u16 ((h : Int) * 256) (b : Int) = ((h * 256 + b : Nat) : Int) := by
  have := u16_or_nat (h * 256) b (by omega) (by omega)
  have e : h * 256 ||| b = h * 256 + b := by
    have := Nat.shiftLeft_add_eq_or_of_lt (i := 8) h2 h
    rw [Nat.shiftLeft_eq] at this
    exact this.symm
  rw [e] at this
  simpa using this
theorem catS_lt {ss : List ByteArray} {k j : Nat} (hk : k < ss.length) (hj : j < ss[k].data.toList.length) :
    ((ss.take k).map (fun s => s.data.toList)).flatten.length + j < ((ss.map fun s => s.data.toList).flatten).length := by
  have e : ss = ss.take k ++ ss[k] :: ss.drop (k + 1) := by
    rw [← List.drop_eq_getElem_cons hk, List.take_append_drop]
  have e2 : ((ss.map fun s => s.data.toList).flatten).length = (((ss.take k ++ ss[k] :: ss.drop (k + 1)).map fun s => s.data.toList).flatten).length := by rw [← e]
  rw [e2]
  simp only [List.map_append, List.map_cons, List.flatten_append, List.flatten_cons, List.length_append]
  omega
abbrev W16 := { x : Nat // x < 65536 }
def catS (ss : List ByteArray) : List UInt8 := (ss.map fun s => s.data.toList).flatten
theorem catS_succ {ss : List ByteArray} {k : Nat} (hk : k < ss.length) : catS (ss.take (k + 1)) = catS (ss.take k) ++ ss[k].data.toList := by
  unfold catS
  rw [List.take_add_one, List.getElem?_eq_getElem hk]
  simp only [Option.toList_some, List.map_append, List.map_cons, List.map_nil, List.flatten_append, List.flatten_cons, List.flatten_nil, List.append_nil]
set_option maxHeartbeats 1000000 in
theorem words_in (A : Option Addr) (len cap : Nat) (w : World) :
    CallsIn Fence.wide 2 Try.prog 83 #[.slice A len cap] w fun e w' => e = .returned (.func (.func 98) #[] #[.pointer (some ⟨w.heap.size, 0, none⟩)]) ∧ w' = w.alloc (.cells #[.slice A len cap] 132) := by
  refine callsIn_of_wp Try.func83 rfl trivial ?_ rfl
  simp only [Try.ntmps83, List.size_toArray, List.length_cons, List.length_nil, Nat.reduceAdd, Nat.reduceSub, Array.replicate_succ, Array.replicate_zero, List.push_toArray, List.append_toArray, List.nil_append, List.cons_append]
  have hmf : ∀ (fn : Fn) (first cap : Array Value) (w : World), (Instr.makeFunc fn first cap).run Try.prog w = .ok (.func fn first cap) w := fun _ _ _ _ => rfl
  gi_wp2
  go_ret
  exact ⟨rfl, rfl⟩
set_option maxRecDepth 100000 in
set_option maxHeartbeats 4000000 in
theorem words1_in (n₀ Bs : Nat) (A : Option Addr) (len cap : Nat) (ss : List ByteArray) (hl : ss.length = len) (hm : len ≤ 9223372036854775807) (hz : ∀ s ∈ ss, s.size ≤ maxLen) (l : Nat) (J Jx : List W16 → World → Prop)
    (W : World) (hW : n₀ ≤ W.heap.size) (hJ : AbidesFrom W.heap.size J)
    (hY : ∀ pre x W1, J pre W1 → pre.length < (wordsL (catS ss)).length → YieldAt Fence.wide 1 Try.prog l #[.int .u16 (x.1 : Int)] W1 fun e W' =>
      (e = .returned (.bool true) ∧ J (pre ++ [x]) W' ∧ KeepsBytes n₀ W1 W') ∨ (e = .returned (.bool false) ∧ Jx (pre ++ [x]) W'))
    (hBs : W.cell? ⟨Bs, 0, none⟩ = some (.slice A len cap)) (hI : Stable n₀ W A len ss) (h0 : J [] W) :
    CallsIn Fence.wide 2 Try.prog 98 #[.func (.yield l) #[] #[], .pointer (some ⟨Bs, 0, none⟩)] W fun e W' => (∃ v, e = .returned v) ∧
      ((∃ ys : List W16, ys.map (·.1) = wordsL (catS ss) ∧ J ys W') ∨ (∃ pre, Jx pre W')) := by
  refine callsIn_of_wp Try.func98 rfl trivial ?_ rfl
  simp only [Try.ntmps98, List.size_toArray, List.length_cons, List.length_nil, Nat.reduceAdd, Nat.reduceSub, Array.replicate_succ, Array.replicate_zero, List.push_toArray, List.append_toArray, List.nil_append, List.cons_append]
  gi_wp2
  gi_loopw [11, 3, 4] (fun i h o wr => ∃ (k : Nat) (pre : List W16), k ≤ len ∧ i = .int .i64 k ∧ pre.map (·.1) = pairs (catS (ss.take k)) ∧ h = .int .u8 (((catS (ss.take k)).getLastD 0).toNat : Int) ∧ o = .bool (decide ((catS (ss.take k)).length % 2 = 1)) ∧ J pre wr ∧ KeepsBytes n₀ W wr)
    (fun i _ _ _ => len - (intOf i).toNat)
  case atStart => exact ⟨0, [], Nat.zero_le _, rfl, rfl, rfl, rfl, h0, KeepsBytes.refl _ _⟩
  case round =>
    obtain ⟨k, pre, hk, rfl, hp, rfl, rfl, hj, hb⟩ := hrel
    have hI' := hI wr hb
    by_cases h1 : k < len
    · obtain ⟨ad, u, rfl, hbl, hu, hc⟩ := hI'.at_ h1
      have hkx : k < ss.length := by omega
      rw [List.getElem?_map, List.getElem?_eq_getElem hkx] at hu
      simp only [Option.map_some, Option.some.injEq] at hu
      subst hu
      obtain ⟨W1, cap1, hr1, hb1, hs1, hc1⟩ := run_bytes_blk wr ss[k]
      obtain ⟨cs, dd, hblk, hcs⟩ := hc1
      have hj1 : J pre W1 := hJ _ _ _ none hj (only_of_below hb1 none) (by simp)
      have hB1 : KeepsBytes n₀ W W1 := hb.trans (KeepsBytes.of_below (by have := hb.1.size; omega) hb1)
      have hle : n₀ ≤ wr.heap.size := by have := hb.1.size; omega
      gi_wp2_with fail
      obtain ⟨gb, hgb⟩ : ∃ gb, gb = wr.heap.size := ⟨_, rfl⟩
      rw [← hgb] at hblk hle ⊢
      clear hr1 hb1 hs1 hc hb hI' hj
      have hsz : ss[k].size ≤ 9223372036854775807 := hz _ (List.getElem_mem hkx)
      obtain ⟨wo, hwo⟩ : ∃ wo : World, wo = wr := ⟨_, rfl⟩
      clear hgb hwo
      gi_loopw [18, 3, 4] (fun i h o wi => ∃ (j : Nat) (pre2 : List W16), j ≤ ss[k].size ∧ i = .int .i64 j ∧ pre2.map (·.1) = pairs (catS (ss.take k) ++ ss[k].data.toList.take j) ∧ h = .int .u8 (((catS (ss.take k) ++ ss[k].data.toList.take j).getLastD 0).toNat : Int) ∧ o = .bool (decide ((catS (ss.take k) ++ ss[k].data.toList.take j).length % 2 = 1)) ∧ J pre2 wi ∧ KeepsBytes n₀ W wi ∧ wi.heap[gb]? = some (Obj.cells cs 5 dd))
        (fun i _ _ _ => ss[k].size - (intOf i).toNat)
      case atStart => exact ⟨0, pre, Nat.zero_le _, rfl, by simpa using hp, by simp, by simp, hj1, hB1, hblk⟩
      case round =>
        obtain ⟨j, pre2, hjk, rfl, hp2, rfl, rfl, hj2, hB2, hblk2⟩ := hrel
        clear hblk hB1 hj1 hp
        by_cases h2 : j < ss[k].size
        · have hjl : j < ss[k].data.toList.length := by simpa using h2
          have hrd : wr.cell? ⟨gb, j, none⟩ = some (.int .u8 (ss[k][j].toNat : Int)) := by
            have := hcs j h2
            simp [World.cell?, hblk2, this]
          have htk : ss[k].data.toList.take (j + 1) = ss[k].data.toList.take j ++ [ss[k][j]] := by
            rw [List.take_add_one, List.getElem?_eq_getElem hjl]
            rfl
          have hcat : (catS (ss.take k) ++ ss[k].data.toList.take j).length < (catS ss).length := by have := catS_lt hkx hjl; unfold catS; rw [List.length_append, List.length_take]; omega
          generalize ss[k][j] = b at *
          have hcn : catS (ss.take k) ++ ss[k].data.toList.take (j + 1) = (catS (ss.take k) ++ ss[k].data.toList.take j) ++ [b] := by rw [htk, List.append_assoc]
          obtain ⟨c, hc⟩ : ∃ c, catS (ss.take k) ++ ss[k].data.toList.take j = c := ⟨_, rfl⟩
          rw [hc] at hp2 hcat hcn ⊢
          have hb8 := b.toNat_lt
          have HCN := Lib.hid hcn
          have HP := Lib.hid hp2
          have hpl := congrArg List.length hp2
          rw [List.length_map, pairs_length] at hpl
          clear hc htk hcn hcs hp2 hjl
          by_cases ho : c.length % 2 = 1
          · have hlw : pre2.length < (wordsL (catS ss)).length := by rw [wordsL_length]; omega
            have hh8 := (c.getLastD 0).toNat_lt
            have hps := pairs_snoc_odd ho b
            generalize (c.getLastD 0).toNat = h at *
            have hor := or_word h b.toNat hh8 hb8
            have hx16 : h * 256 + b.toNat < 65536 := by omega
            obtain ⟨fn, tmps, assign, body, hy, hR⟩ := hY pre2 ⟨h * 256 + b.toNat, hx16⟩ wr hj2 hlw
            dsimp only at hy
            have ho' : decide (c.length % 2 = 1) = true := by simpa using ho
            clear hcat hlw hpl
            have HPS := Lib.hid hps
            clear hps
            rw [show ((h * 256 + b.toNat : Nat) : Int) = (h : Int) * 256 + (b.toNat : Int) by push_cast; rfl] at hy
            gi_wp2
            refine hR.mono ?_
            rintro e W3 (⟨rfl, hJ3, hk3⟩ | ⟨rfl, hJx3⟩)
            · have hblk3 := hk3.2 _ _ _ _ (.inl rfl) hblk2
              have hB3 := hB2.trans hk3
              clear hy hR hY
              gi_wp2
              go_roundw
              case rel =>
                refine ⟨j + 1, _, by omega, by go_num, ?_, ?_, ?_, hJ3, hB3, hblk3⟩
                · rw [HCN.out, HPS.out, List.map_append, HP.out]; rfl
                · rw [HCN.out]; simp
                · rw [HCN.out]; simp; omega
              case measure => simp [intOf]; omega
            · clear hy hR hY
              gi_wp2
              refine bodyPost_ret (results_none rfl _ _ _) rfl ?_
              exact ⟨⟨_, rfl⟩, .inr ⟨_, hJx3⟩⟩
          · have hps := pairs_snoc_even ho b
            generalize (c.getLastD 0).toNat = h at *
            have ho' : decide (c.length % 2 = 1) = false := by simpa using ho
            clear hcat hpl
            have HPS := Lib.hid hps
            clear hps
            gi_wp2
            all_goals try refine ⟨fun _ h => (by cases h), ?_⟩
            all_goals gi_wp2
            go_roundw
            case rel =>
              refine ⟨j + 1, pre2, by omega, by go_num, ?_, ?_, ?_, hj2, hB2, hblk2⟩
              · rw [HCN.out, HPS.out]; exact HP.out
              · rw [HCN.out]; simp
              · rw [HCN.out]; simp; omega
            case measure => simp [intOf]; omega
        · obtain rfl : j = ss[k].size := by omega
          have hall : ss[k].data.toList.take ss[k].size = ss[k].data.toList := List.take_of_length_le (by simp)
          have hnx : catS (ss.take (k + 1)) = catS (ss.take k) ++ ss[k].data.toList := catS_succ hkx
          rw [hall, ← hnx] at hp2 ⊢
          have HN := Lib.hid hnx
          have HP := Lib.hid hp2
          clear hall hnx hp2 hY hcs
          gi_wp2
          go_roundw
          case rel => exact ⟨k + 1, pre2, by omega, by go_num, HP.out, rfl, rfl, hj2, hB2⟩
          case measure => simp [intOf]; omega
    · obtain rfl : k = len := by omega
      rw [show ss.take k = ss by rw [← hl]; exact List.take_length] at hp ⊢
      have hpl := congrArg List.length hp
      rw [List.length_map, pairs_length] at hpl
      obtain ⟨c, hc⟩ : ∃ c, catS ss = c := ⟨_, rfl⟩
      rw [hc] at hp hpl hY ⊢
      have HC := Lib.hid hc
      have HP := Lib.hid hp
      clear hc hp
      by_cases ho : c.length % 2 = 1
      · have hlw : pre.length < (wordsL c).length := by rw [wordsL_length]; omega
        have hh8 := (c.getLastD 0).toNat_lt
        have hps := wordsL_odd ho
        generalize (c.getLastD 0).toNat = h at *
        have hx16 : h * 256 < 65536 := by omega
        obtain ⟨fn, tmps, assign, body, hy, hR⟩ := hY pre ⟨h * 256, hx16⟩ wr hj hlw
        dsimp only at hy
        have ho' : decide (c.length % 2 = 1) = true := by simpa using ho
        clear hlw hpl
        have HPS := Lib.hid hps
        clear hps
        rw [show ((h * 256 : Nat) : Int) = (h : Int) * 256 by push_cast; rfl] at hy
        gi_wp2
        refine hR.mono ?_
        rintro e W3 (⟨rfl, hJ3, hk3⟩ | ⟨rfl, hJx3⟩)
        · clear hy hR hY
          gi_wp2
          go_end0
          refine ⟨⟨_, rfl⟩, .inl ⟨_, ?_, hJ3⟩⟩
          rw [HC.out, HPS.out, List.map_append, HP.out]
          rfl
        · clear hy hR hY
          gi_wp2
          go_end0
          exact ⟨⟨_, rfl⟩, .inr ⟨_, hJx3⟩⟩
      · have hps := wordsL_even ho
        have ho' : decide (c.length % 2 = 1) = false := by simpa using ho
        clear hpl
        have HPS := Lib.hid hps
        clear hps hY
        gi_wp2
        go_end0
        refine ⟨⟨_, rfl⟩, .inl ⟨_, ?_, hj⟩⟩
        rw [HC.out, HPS.out, HP.out]
/-- THE ITERATOR's CONTRACT -/
theorem words_stops (n₀ Bs : Nat) (A : Option Addr) (len cap : Nat) (ss : List ByteArray) (hl : ss.length = len) (hm : len ≤ 9223372036854775807) (hz : ∀ s ∈ ss, s.size ≤ maxLen)
    (w : World) (hw : n₀ ≤ w.heap.size) (hB : Bs < w.heap.size) (hBs : w.cell? ⟨Bs, 0, none⟩ = some (.slice A len cap)) (hI : Stable n₀ w A len ss) :
    SeqStopsK Fence.wide 2 Try.prog 98 #[.pointer (some ⟨Bs, 0, none⟩)] (fun x : W16 => #[Value.int .u16 (x.1 : Int)]) (KeepsBytes n₀) (fun ys => ys.map (·.1) = wordsL (catS ss)) (fun _ => True) (wordsL (catS ss)).length w :=
  fun l J Jx W hW hJ _ hY h0 => by
    refine (words1_in n₀ Bs A len cap ss hl hm hz l J Jx W (Nat.le_trans hw hW.size) hJ hY ((hW.cell (p := ⟨Bs, 0, none⟩) hB).trans hBs) (hI.later (KeepsBytes.of_below hw hW)) h0).mono ?_
    rintro e W' ⟨he, h | ⟨pre, hx⟩⟩
    · exact ⟨he, .inl h⟩
    · exact ⟨he, .inr ⟨pre, trivial, hx⟩⟩
end Go.Proofs.Ytengegcnocdkoaa
end
section
namespace Go.Proofs.Ytengegcnocdkoaa
open Go.RowKit Go.Shelf
attribute [local go_sem] Oper.semAt_some
theorem turnL_ones {a b c : Nat} (ha : a < 65536) (hb : b < 65536) (hc : c < 65536) : turnL a b c = 65535 - [65535 - a, 65535 - b, c].foldl ones2 0 := by
  rw [fold_ones0 _ (by simp; omega)]
  simp only [turnL, List.sum_cons, List.sum_nil]
  rw [show 65535 - a + (65535 - b + (c + 0)) = 131070 - a - b + c by omega]
theorem foldOnes_le {l : List Nat} (h : ∀ x ∈ l, x < 65536) : l.foldl ones2 0 ≤ 65535 := by rw [fold_ones0 _ h]; exact nrm_le _
theorem compl16 {a : Nat} (ha : a < 65536) : bits .xor .u16 IntKind.u16.max (a : Int) = ((65535 - a : Nat) : Int) := by
  have e : (65535 : Nat) ^^^ a = 65535 - a := by
    have h := congrArg BitVec.toNat (BitVec.allOnes_xor (x := BitVec.ofNat 16 a))
    rw [BitVec.toNat_xor, BitVec.toNat_not, BitVec.toNat_allOnes, BitVec.toNat_ofNat, Nat.mod_eq_of_lt (by omega)] at h
    exact h
  have := u16_xor_nat 65535 a (by decide) ha
  rw [e] at this
  exact this
set_option maxHeartbeats 1000000 in
theorem turn_any (a b c : Nat) (w : World) (ha : a < 65536) (hb : b < 65536) (hc : c < 65536) :
    Calls Try.prog 84 #[.int .u16 (a : Int), .int .u16 (b : Int), .int .u16 (c : Int)] w fun e w' => e = .returned (.int .u16 ((turnL a b c : Nat) : Int)) ∧ w' = w.alloc (.cells #[.int .u16 ((65535 - a : Nat) : Int), .int .u16 ((65535 - b : Nat) : Int), .int .u16 (c : Int)] 23) := by
  have hv := turnL_ones ha hb hc
  have hx : ∀ x ∈ [65535 - a, 65535 - b, c], x < 65536 := by simp; omega
  have hq := foldOnes_le hx
  have hblk := Blk.new w 23 #[.int .u16 ((65535 - a : Nat) : Int), .int .u16 ((65535 - b : Nat) : Int), .int .u16 (c : Int)]
  have A := ones_any (some ⟨w.heap.size, 0, none⟩) 3 3 [65535 - a, 65535 - b, c] (w.alloc (.cells #[.int .u16 ((65535 - a : Nat) : Int), .int .u16 ((65535 - b : Nat) : Int), .int .u16 (c : Int)] 23)) rfl (by omega) hx (Reads.of_blk hblk (by simp) _ rfl 3 rfl)
  generalize hqq : [65535 - a, 65535 - b, c].foldl ones2 0 = q at *
  have A' := Lib.hid A
  clear A
  have Hv := Lib.hid hv
  clear hv
  have Hx := Lib.hid hx
  clear hx
  clear hblk hqq
  go_enter Try.func84, Try.ntmps84
  go_wp2_with fail
  rw [compl16 ha, compl16 hb]
  refine A'.out.mono ?_
  rintro e w' ⟨rfl, rfl⟩
  go_wp2_with fail
  rw [compl16 (by omega)]
  go_wp2
  go_ret
  exact ⟨ret_nat Hv.out.symm, rfl⟩
end Go.Proofs.Ytengegcnocdkoaa
end
section
namespace Go.Proofs.Ytengegcnocdkoaa
open Go.RowKit Go.Shelf
attribute [local go_sem] Oper.semAt_some
/-- the words of a round's list, summed -/
def foldW (l : List W16) : Nat := (l.map (·.1)).foldl ones2 0
theorem foldW_le (l : List W16) : foldW l ≤ 65535 := foldOnes_le (by intro y hy; obtain ⟨z, _, rfl⟩ := List.mem_map.1 hy; exact z.2)
theorem foldW_snoc (l : List W16) (x : W16) : foldW (l ++ [x]) = ones2 (foldW l) x.1 := by simp only [foldW, List.map_append, List.map_cons, List.map_nil, List.foldl_append, List.foldl_cons, List.foldl_nil]
theorem ones_two {a b : Nat} (ha : a < 65536) : [a, b].foldl ones2 0 = ones2 a b := by
  have h0 : ones2 0 a = a := by unfold ones2; omega
  simp only [List.foldl_cons, List.foldl_nil, h0]
set_option maxRecDepth 100000 in
set_option maxHeartbeats 2000000 in
theorem of_in (A : Option Addr) (len cap : Nat) (ss : List ByteArray) (hl : ss.length = len) (hm : len ≤ 9223372036854775807) (hz : ∀ s ∈ ss, s.size ≤ maxLen)
    (w : World) (hI : Reads w w.heap.size 1 A len (ss.map Value.string)) :
    CallsIn Fence.wide 3 Try.prog 61 #[.slice A len cap] w fun e w' => e = .returned (.int .u16 ((ofL (catS ss) : Nat) : Int)) ∧ Below w.heap.size w w' := by
  refine callsIn_of_wp_marks Try.func61 rfl trivial ?_ rfl
  simp only [Try.ntmps61, List.size_toArray, List.length_cons, List.length_nil, Nat.reduceAdd, Nat.reduceSub, Array.replicate_succ, Array.replicate_zero, List.push_toArray, List.append_toArray, List.nil_append, List.cons_append]
  gi_wp2_with (refine ⟨trivial, ?_⟩; gi_at_call 83; refine (words_in _ _ _ _).mono ?_; rintro e w' ⟨rfl, rfl⟩)
  have bX := Boxed.new w 23 (.int .u16 0)
  have bN := Boxed.new (w.alloc (.cells #[.int .u16 0] 23)) 132 (.slice A len cap)
  rw [World.size_alloc] at bN
  have hB0 : Below w.heap.size w ((w.alloc (.cells #[.int .u16 0] 23)).alloc (.cells #[.slice A len cap] 132)) := ((Below.refl _ w).alloc (Nat.le_refl _) _).alloc (by simp) _
  refine wpIn_rangeFunc_ownG rfl (by omega) (gf := 98) (lb := #[.pointer (some ⟨w.heap.size + 1, 0, none⟩)]) rfl trivial (enters_of Try.func98 (by kernel_rfl) rfl)
    (words_stops w.heap.size (w.heap.size + 1) A len cap ss hl hm hz _ (by simp; omega) (by simp) bN.cell ((Stable.of_low (Nat.le_refl _) hI).later (KeepsBytes.of_below (Nat.le_refl _) hB0))) KeepsBytes.trans (KeepsBytes.putObj (by simp; omega)) (Below.refl _ _) (fun _ => rfl)
    (fun pre W => Boxed W w.heap.size 23 (.int .u16 ((foldW pre : Nat) : Int)) ∧ Below w.heap.size w W)
    (fun _ _ _ => False)
    (OwnFrom.and (Own.from (boxed_own _ _ fun pre : List W16 => .int .u16 ((foldW pre : Nat) : Int)) _) (ownFrom_below (Nat.le_refl _) (by simp; omega)))
    (fun _ _ _ _ _ hs _ _ => hs)
    ⟨bX.alloc _, hB0⟩
    (fun x => { tmps := #[.slice A len cap, undef, .int .u16 0, .pointer (some ⟨w.heap.size, 0, none⟩), .int .u16 (x.1 : Int), .slice A len cap, .func (.func 98) #[] #[.pointer (some ⟨w.heap.size + 1, 0, none⟩)], .int .u16 (x.1 : Int), undef, undef, undef, undef, undef, undef], defers := [] }) ?assign ?body ?done ?stop
  case assign =>
    intro l x W K hK
    gi_wp2
    exact hK
  case body =>
    rintro l pre x W ⟨hb, hB⟩ _
    have hq := foldW_le pre
    have hn := foldW_snoc pre x
    obtain ⟨xv, hxv⟩ := x
    dsimp only at hn ⊢
    generalize foldW pre = q at *
    have HN := Lib.hid hn
    have hx : ∀ y ∈ [q, xv], y < 65536 := by simp; omega
    have hblk := Blk.new W 23 #[.int .u16 (q : Int), .int .u16 (xv : Int)]
    have A := ones_any (some ⟨W.heap.size, 0, none⟩) 2 2 [q, xv] (W.alloc (.cells #[.int .u16 (q : Int), .int .u16 (xv : Int)] 23)) rfl (by omega) hx (Reads.of_blk hblk (by simp) _ rfl 2 rfl)
    rw [ones_two (by omega), ← hn] at A
    clear hx hblk hn
    have HA := Lib.hid A
    clear A
    have hc := hb.cell
    have hf := hb.frozen
    have hc1 := (hb.alloc (.cells #[.int .u16 (q : Int), .int .u16 (xv : Int)] 23)).cell
    have hf1 := (hb.alloc (.cells #[.int .u16 (q : Int), .int .u16 (xv : Int)] 23)).frozen
    gi_wp2_with (refine ⟨trivial, ?_⟩; gi_at_call 92; refine (CallsIn.inRound l (callsIn_wide.2 HA.out)).mono ?_; rintro e w' ⟨rfl, rfl⟩)
    have hg : W.grownBy ((W.alloc (.cells #[.int .u16 (q : Int), .int .u16 (xv : Int)] 23)).setCell ⟨w.heap.size, 0, none⟩ (.int .u16 ((foldW (pre ++ [⟨xv, hxv⟩]) : Nat) : Int))) (some w.heap.size) :=
      only_set (only_alloc (World.grownBy.refl W _) _) 0 _
    have hbl : Below w.heap.size W ((W.alloc (.cells #[.int .u16 (q : Int), .int .u16 (xv : Int)] 23)).setCell ⟨w.heap.size, 0, none⟩ (.int .u16 ((foldW (pre ++ [⟨xv, hxv⟩]) : Nat) : Int))) :=
      ((Below.refl _ W).alloc hB.size _).setCell (p := ⟨w.heap.size, 0, none⟩) (Nat.le_refl _) _
    exact ⟨((KeepsOthers.alloc _ _).trans (KeepsOthers.setCell _ _ _)).from _, KeepsBytes.of_grown hbl hg (by
      intro g e cs t d ht hcs
      cases e
      rw [show W.heap[w.heap.size]? = _ from hb] at hcs
      rcases ht with rfl | rfl <;> cases hcs), (hb.alloc _).set _, hB.trans hbl⟩
  case done =>
    rintro D xs W hD hS ⟨hb, hB⟩ hK
    have hq := foldW_le xs
    have hv : ofL (catS ss) = 65535 - foldW xs := by unfold ofL foldW; rw [hS, fold_ones0 _ (wordsL_lt _)]
    have HV := Lib.hid hv
    clear hv hS
    generalize foldW xs = q at *
    have hc := hb.cell
    gi_wp2_with fail
    rw [compl16 (by omega)]
    gi_wp2
    refine ⟨by simp, .inl ⟨_, _, rfl, run_takeDeferred hK, ?_⟩⟩
    refine ⟨_, results_tmp rfl _ _ _, ?_, ?_⟩
    · exact ret_nat HV.out.symm
    · exact hB.trans (belowK_b (w := w) (Nat.le_refl _) W D _ _ (by simp at hD; omega) hK rfl rfl)
  case stop =>
    rintro D c pre W _ _ h _
    exact h.elim
theorem of_any (A : Option Addr) (len cap : Nat) (ss : List ByteArray) (hl : ss.length = len) (hm : len ≤ 9223372036854775807) (hz : ∀ s ∈ ss, s.size ≤ maxLen)
    (w : World) (hI : Reads w w.heap.size 1 A len (ss.map Value.string)) :
    Calls Try.prog 61 #[.slice A len cap] w fun e w' => e = .returned (.int .u16 ((ofL (catS ss) : Nat) : Int)) ∧ Below w.heap.size w w' :=
  callsIn_wide.1 (of_in A len cap ss hl hm hz w hI)
theorem right_any (A : Option Addr) (len cap : Nat) (ss : List ByteArray) (hl : ss.length = len) (hm : len ≤ 9223372036854775807) (hz : ∀ s ∈ ss, s.size ≤ maxLen)
    (w : World) (hI : Reads w w.heap.size 1 A len (ss.map Value.string)) :
    Calls Try.prog 72 #[.slice A len cap] w fun e w' => e = .returned (.bool ((ofL (catS ss) : Int) == 0)) ∧ Below w.heap.size w w' := by
  have h := of_any A len cap ss hl hm hz w hI
  have hq := ofL_le (catS ss)
  generalize ofL (catS ss) = q at *
  have H := Lib.hid h
  clear h
  go_enter Try.func72, Try.ntmps72
  go_wp2_with fail
  (with_reducible refine (H.out).mono ?_)
  rintro e w2 ⟨rfl, hb⟩
  go_wp2
  go_ret
  exact ⟨rfl, hb⟩
end Go.Proofs.Ytengegcnocdkoaa
end
section
namespace Go.Proofs.Ytengegcnocdkoaa
open Go.RowKit Go.Shelf
theorem of_lit (ss : List ByteArray) (v : Int) (hv : ((ofL (catS ss) : Nat) : Int) = v) (hz : ∀ s ∈ ss, s.size ≤ maxLen) (g n m : Nat) (W : World) (hn : ss.length = n) (hm : n ≤ 9223372036854775807) (hb : Blk W g 9 (ss.map Value.string).toArray) :
    Calls Try.prog 61 #[.slice (some ⟨g, 0, none⟩) n m] W fun e w' => e = .returned (.int .u16 v) ∧ Below W.heap.size W w' := by
  subst hv
  exact of_any _ n m ss hn hm hz W (Reads.of_blk hb hb.lt _ (by simp) _ (by simp [hn]))
theorem right_lit (ss : List ByteArray) (v : Bool) (hv : ((ofL (catS ss) : Int) == 0) = v) (hz : ∀ s ∈ ss, s.size ≤ maxLen) (g n m : Nat) (W : World) (hn : ss.length = n) (hm : n ≤ 9223372036854775807) (hb : Blk W g 9 (ss.map Value.string).toArray) :
    Calls Try.prog 72 #[.slice (some ⟨g, 0, none⟩) n m] W fun e w' => e = .returned (.bool v) ∧ Below W.heap.size W w' := by
  subst hv
  exact right_any _ n m ss hn hm hz W (Reads.of_blk hb hb.lt _ (by simp) _ (by simp [hn]))
end Go.Proofs.Ytengegcnocdkoaa
end
section
namespace Go.Proofs.Ytengegcnocdkoaa
open Go.RowKit
theorem run_bytes_new (w : World) (s : ByteArray) : ∃ (W1 : World) (cap : Nat),
    (convert 9 51 (.string s)).run Try.prog w = .ok (.slice (some ⟨w.heap.size, 0, none⟩) s.size cap) W1 ∧ Below w.heap.size w W1 ∧ W1.heap.size = w.heap.size + 1 ∧
    (∀ j (h : j < s.size), W1.cell? ⟨w.heap.size, j, none⟩ = some (.int .u8 (s[j].toNat : Int))) ∧ (∀ j, j < s.size → W1.frozen? ⟨w.heap.size, j, none⟩ = false) := by
  refine ⟨_, _, Lib.run_convert_string_bytes (P := Try.prog) w 9 51 5 s Try.underlying9 Try.underlying51 Try.underlying5, ?_, Lib.bytesWorld_size .., ?_, ?_⟩
  · refine ⟨?_, ?_, ?_, by rw [Lib.bytesWorld_size]; omega, fun i hi => Lib.bytesWorld_at_old w 5 s i hi⟩
    all_goals unfold Lib.bytesWorld World.freeze; split <;> rfl
  · intro j h
    rw [Lib.bytesWorld_cell w 5 s j h]
    congr 2
    have hl : j < s.data.toList.length := by simpa using h
    simp only [List.getD, List.getElem?_eq_getElem hl, Option.getD_some]
    rfl
  · intro j h
    simp only [World.frozen?, Lib.bytesWorld_at_new]
    have : (Lib.bytesCells w 5 s).size ≥ s.size := by simp [Lib.bytesCells]
    simp
    omega
/-- 'string(b)' where the cells are the bytes l -/
theorem run_bytes_back (w : World) (a : Addr) (n cap : Nat) (l : List UInt8) (hn : n = l.length) (hc : ∀ j (hj : j < l.length), w.cell? (a.add j) = some (.int .u8 (l[j].toNat : Int))) :
    (convert 51 9 (.slice (some a) n cap)).run Try.prog w = .ok (.string ⟨l.toArray⟩) w := by
  subst hn
  exact run_convert_bytes_back w 51 9 5 a cap l Try.underlying51 Try.underlying5 Try.underlying9 hc
theorem add_plain (b o j : Nat) : (⟨b, o, none⟩ : Addr).add j = ⟨b, o + j, none⟩ := by unfold Addr.add; split <;> simp_all
end Go.Proofs.Ytengegcnocdkoaa
end
section
namespace Go.Proofs.Ytengegcnocdkoaa
open Go.RowKit
/-- a world of the class S -/
structure Cls (S : World → Prop) where
  w : World
  h : S w
end Go.Proofs.Ytengegcnocdkoaa
end
section
namespace Go.Proofs.Ytengegcnocdkoaa
open Go.RowKit
/-- a number's bytes -/
def be2 (x : Nat) : List UInt8 := [UInt8.ofNat (x / 256), UInt8.ofNat x]
def be4 (x : Nat) : List UInt8 := [UInt8.ofNat (x / 16777216), UInt8.ofNat (x / 65536), UInt8.ofNat (x / 256), UInt8.ofNat x]
/-- the number that bytes are -/
def numL (l : List UInt8) : Nat := l.foldl (fun x c => (x * 256 + c.toNat) % 4294967296) 0
theorem numL_snoc (l : List UInt8) (c : UInt8) : numL (l ++ [c]) = (numL l * 256 + c.toNat) % 4294967296 := by simp [numL, List.foldl_append]
theorem numL_lt (l : List UInt8) : numL l < 4294967296 := by
  rcases List.eq_nil_or_concat l with rfl | ⟨l, c, rfl⟩
  · decide
  · rw [List.concat_eq_append, numL_snoc]; exact Nat.mod_lt _ (by decide)
theorem u8b (x : Nat) : (((UInt8.ofNat x).toNat : Nat) : Int) = (x : Int) % 256 := by
  rw [UInt8.toNat_ofNat']
  omega
def u8v (b : UInt8) : Value := .int .u8 (b.toNat : Int)
set_option maxHeartbeats 2000000 in
theorem high16 (x : Nat) (w : World) (hx : x < 65536) :
    Calls Try.prog 59 #[.int .u16 (x : Int), .int .i64 2] w fun e w' => e = .returned (.string ⟨(be2 x).toArray⟩) ∧ Below w.heap.size w w' := by
  have hmk : ∀ W : World, (Instr.makeSlice 51 (.int .i64 2) (.int .i64 2)).run Try.prog W = .ok (.slice (some ⟨W.heap.size, 0, none⟩) 2 2) (W.alloc (.cells #[.int .u8 0, .int .u8 0] 5)) := fun _ => by kernel_rfl
  go_enter Try.func59, Try.ntmps59
  go_wp2
  clear hmk
  have h0 := Blk.new w 5 #[.int .u8 0, .int .u8 0]
  have hb0 : Below w.heap.size w (w.alloc (.cells #[.int .u8 0, .int .u8 0] 5)) := (Below.refl _ _).alloc (Nat.le_refl _) _
  obtain ⟨g, hg⟩ : ∃ g, g = w.heap.size := ⟨_, rfl⟩
  rw [← hg] at h0 ⊢
  have hgl : w.heap.size ≤ g := by omega
  clear hg
  go_loopw [11] (fun i wr => Below w.heap.size w wr ∧ ((i = .int .i64 0 ∧ Blk wr g 5 #[.int .u8 0, .int .u8 0]) ∨ (i = .int .i64 1 ∧ Blk wr g 5 #[.int .u8 0, u8v (UInt8.ofNat x)]) ∨ (i = .int .i64 2 ∧ Blk wr g 5 #[u8v (UInt8.ofNat (x / 256)), u8v (UInt8.ofNat x)]))) (fun i _ => 2 - (intOf i).toNat)
  case atStart => exact ⟨hb0, .inl ⟨rfl, h0⟩⟩
  case round =>
    obtain ⟨hb, hrel⟩ := hrel
    clear h0 hb0
    rcases hrel with ⟨rfl, h⟩ | ⟨rfl, h⟩ | ⟨rfl, h⟩
    · have f1 := h.frozen 1
      have c1 := h.cell 1 ; simp at c1
      go_wp2
      go_roundw
      case rel => exact ⟨hb.setCell (by simp; omega) _, .inr (.inl ⟨rfl, by have := h.set_ 1 (u8v (UInt8.ofNat x)); simpa [u8v, u8b] using this⟩)⟩
      case measure => simp [intOf]
    · have f1 := h.frozen 0
      have c0 := h.cell 0 ; simp at c0
      go_wp2
      go_roundw
      case rel => exact ⟨hb.setCell (by simp; omega) _, .inr (.inr (⟨rfl, by
        have := h.set_ 0 (u8v (UInt8.ofNat (x / 256)))
        have ht : (x : Int) / 256 % 256 = (x : Int) / 256 := by omega
        simpa [u8v, u8b, ht] using this⟩))⟩
      case measure => simp [intOf]
    · have hbk := run_bytes_back wr ⟨g, 0, none⟩ 2 2 (be2 x) rfl (by
        intro j hj
        rw [add_plain, Nat.zero_add, h.cell j]
        match j, hj with
        | 0, _ => rfl
        | 1, _ => rfl)
      clear h
      go_wp2
      go_ret
      exact ⟨rfl, hb⟩
set_option maxHeartbeats 2000000 in
theorem high32 (x : Nat) (w : World) (hx : x < 4294967296) :
    Calls Try.prog 60 #[.int .u32 (x : Int), .int .i64 4] w fun e w' => e = .returned (.string ⟨(be4 x).toArray⟩) ∧ Below w.heap.size w w' := by
  have hmk : ∀ W : World, (Instr.makeSlice 51 (.int .i64 4) (.int .i64 4)).run Try.prog W = .ok (.slice (some ⟨W.heap.size, 0, none⟩) 4 4) (W.alloc (.cells #[.int .u8 0, .int .u8 0, .int .u8 0, .int .u8 0] 5)) := fun _ => by kernel_rfl
  go_enter Try.func60, Try.ntmps60
  go_wp2
  clear hmk
  have h0 := Blk.new w 5 #[.int .u8 0, .int .u8 0, .int .u8 0, .int .u8 0]
  have hb0 : Below w.heap.size w (w.alloc (.cells #[.int .u8 0, .int .u8 0, .int .u8 0, .int .u8 0] 5)) := (Below.refl _ _).alloc (Nat.le_refl _) _
  obtain ⟨g, hg⟩ : ∃ g, g = w.heap.size := ⟨_, rfl⟩
  rw [← hg] at h0 ⊢
  have hgl : w.heap.size ≤ g := by omega
  clear hg
  go_loopw [11] (fun i wr => Below w.heap.size w wr ∧ ((i = .int .i64 0 ∧ Blk wr g 5 #[.int .u8 0, .int .u8 0, .int .u8 0, .int .u8 0]) ∨ (i = .int .i64 1 ∧ Blk wr g 5 #[.int .u8 0, .int .u8 0, .int .u8 0, u8v (UInt8.ofNat x)]) ∨ (i = .int .i64 2 ∧ Blk wr g 5 #[.int .u8 0, .int .u8 0, u8v (UInt8.ofNat (x / 256)), u8v (UInt8.ofNat x)]) ∨ (i = .int .i64 3 ∧ Blk wr g 5 #[.int .u8 0, u8v (UInt8.ofNat (x / 65536)), u8v (UInt8.ofNat (x / 256)), u8v (UInt8.ofNat x)]) ∨ (i = .int .i64 4 ∧ Blk wr g 5 #[u8v (UInt8.ofNat (x / 16777216)), u8v (UInt8.ofNat (x / 65536)), u8v (UInt8.ofNat (x / 256)), u8v (UInt8.ofNat x)]))) (fun i _ => 4 - (intOf i).toNat)
  case atStart => exact ⟨hb0, .inl ⟨rfl, h0⟩⟩
  case round =>
    obtain ⟨hb, hrel⟩ := hrel
    clear h0 hb0
    rcases hrel with ⟨rfl, h⟩ | ⟨rfl, h⟩ | ⟨rfl, h⟩ | ⟨rfl, h⟩ | ⟨rfl, h⟩
    · have f1 := h.frozen 3
      have c3 := h.cell 3 ; simp at c3
      go_wp2
      go_roundw
      case rel => exact ⟨hb.setCell (by simp; omega) _, .inr (.inl ⟨rfl, by have := h.set_ 3 (u8v (UInt8.ofNat x)); simpa [u8v, u8b] using this⟩)⟩
      case measure => simp [intOf]
    · have f1 := h.frozen 2
      have c2 := h.cell 2 ; simp at c2
      go_wp2
      go_roundw
      case rel => exact ⟨hb.setCell (by simp; omega) _, .inr (.inr (.inl ⟨rfl, by have := h.set_ 2 (u8v (UInt8.ofNat (x / 256))); simpa [u8v, u8b] using this⟩))⟩
      case measure => simp [intOf]
    · have f1 := h.frozen 1
      have c1 := h.cell 1 ; simp at c1
      go_wp2
      go_roundw
      case rel => exact ⟨hb.setCell (by simp; omega) _, .inr (.inr (.inr (.inl ⟨rfl, by have := h.set_ 1 (u8v (UInt8.ofNat (x / 65536))); simpa [u8v, u8b] using this⟩)))⟩
      case measure => simp [intOf]
    · have f1 := h.frozen 0
      have c0 := h.cell 0 ; simp at c0
      go_wp2
      go_roundw
      case rel => exact ⟨hb.setCell (by simp; omega) _, .inr (.inr (.inr (.inr (⟨rfl, by
        have := h.set_ 0 (u8v (UInt8.ofNat (x / 16777216)))
        have ht : (x : Int) / 16777216 % 256 = (x : Int) / 16777216 := by omega
        simpa [u8v, u8b, ht] using this⟩))))⟩
      case measure => simp [intOf]
    · have hbk := run_bytes_back wr ⟨g, 0, none⟩ 4 4 (be4 x) rfl (by
        intro j hj
        rw [add_plain, Nat.zero_add, h.cell j]
        match j, hj with
        | 0, _ => rfl
        | 1, _ => rfl
        | 2, _ => rfl
        | 3, _ => rfl)
      clear h
      go_wp2
      go_ret
      exact ⟨rfl, hb⟩
theorem u32_or_add (a b : Nat) (ha : a < 4294967296) (hb : b < 256) (h : a % 256 = 0) : bits .or .u32 (a : Int) (b : Int) = ((a + b : Nat) : Int) := by
  rw [u32_or_nat a b ha (by omega), nat_join 8 a b h hb]
theorem numL_step (l : List UInt8) (c : UInt8) : bits .or .u32 ((numL l * 256 % 4294967296 : Nat) : Int) ((c.toNat : Nat) : Int) = ((numL (l ++ [c]) : Nat) : Int) := by
  have hc := c.toNat_lt
  rw [u32_or_add _ _ (Nat.mod_lt _ (by decide)) (by omega) (by omega), numL_snoc]
  congr 1
  omega
theorem take_snoc' (s : ByteArray) (k : Nat) (h : k < s.size) : s.data.toList.take (k + 1) = s.data.toList.take k ++ [s[k]] := by
  rw [List.take_succ_eq_append_getElem (by simpa using h)]; rfl
set_option maxHeartbeats 2000000 in
theorem number_any (s : ByteArray) (w : World) (hs : s.size ≤ maxLen) :
    Calls Try.prog 77 #[.string s] w fun e w' => e = .returned (.int .u32 ((numL s.data.toList : Nat) : Int)) ∧ Below w.heap.size w w' := by
  obtain ⟨W1, cap, hrun, hB, hsz, hcell, _⟩ := run_bytes_new w s
  unfold maxLen at hs
  go_enter Try.func77, Try.ntmps77
  go_wp2
  clear hrun
  have HC := Lib.hid hcell
  clear hcell hsz
  go_loop [2, 8] (fun x i => ∃ k : Nat, k ≤ s.size ∧ i = .int .i64 k ∧ x = .int .u32 ((numL (s.data.toList.take k) : Nat) : Int)) (fun _ i => s.size - (intOf i).toNat)
  case atStart => exact ⟨0, Nat.zero_le _, rfl, rfl⟩
  case round =>
    obtain ⟨k, hk, rfl, rfl⟩ := hrel
    by_cases hlt : k < s.size
    · have c1 := HC.out k hlt
      have hn := numL_lt (s.data.toList.take k)
      have hst := numL_step (s.data.toList.take k) s[k]
      rw [← take_snoc' s k hlt] at hst
      generalize numL (s.data.toList.take k) = n at *
      obtain ⟨n2, hn2⟩ : ∃ n2, n2 = numL (s.data.toList.take (k + 1)) := ⟨_, rfl⟩
      rw [← hn2] at hst
      have HN2 := Lib.hid hn2
      clear hn2
      have hc := (s[k]).toNat_lt
      generalize (s[k]).toNat = c at *
      have hm : ((n * 256 % 4294967296 : Nat) : Int) = (n : Int) * 256 % 4294967296 := by omega
      rw [hm] at hst
      have hw : IntKind.u32.wrap ((n : Int) * 256) = (n : Int) * 256 % 4294967296 := by rw [IntKind.wrap_u32']
      clear hm
      go_wp2
      go_round
      case rel => exact ⟨k + 1, by omega, by go_num, by rw [← HN2.out]⟩
      case measure => simp [intOf]; omega
    · go_wp2
      go_ret
      exact ⟨ret_int (by rw [List.take_of_length_le (by show s.size ≤ k; omega)]), hB⟩
theorem u16_or_add (a b : Nat) (ha : a < 65536) (hb : b < 256) (h : a % 256 = 0) : bits .or .u16 (a : Int) (b : Int) = ((a + b : Nat) : Int) := by
  rw [u16_or_nat a b ha (by omega), nat_join 8 a b h hb]
theorem numL16_step (l : List UInt8) (c : UInt8) : bits .or .u16 ((numL l % 65536 * 256 % 65536 : Nat) : Int) ((c.toNat : Nat) : Int) = ((numL (l ++ [c]) % 65536 : Nat) : Int) := by
  have hc := c.toNat_lt
  rw [u16_or_add _ _ (Nat.mod_lt _ (by decide)) (by omega) (by omega), numL_snoc]
  congr 1
  omega
set_option maxHeartbeats 2000000 in
theorem number16 (s : ByteArray) (w : World) (hs : s.size ≤ maxLen) :
    Calls Try.prog 76 #[.string s] w fun e w' => e = .returned (.int .u16 ((numL s.data.toList % 65536 : Nat) : Int)) ∧ Below w.heap.size w w' := by
  obtain ⟨W1, cap, hrun, hB, hsz, hcell, _⟩ := run_bytes_new w s
  unfold maxLen at hs
  go_enter Try.func76, Try.ntmps76
  go_wp2
  clear hrun
  have HC := Lib.hid hcell
  clear hcell hsz
  go_loop [2, 8] (fun x i => ∃ k : Nat, k ≤ s.size ∧ i = .int .i64 k ∧ x = .int .u16 ((numL (s.data.toList.take k) % 65536 : Nat) : Int)) (fun _ i => s.size - (intOf i).toNat)
  case atStart => exact ⟨0, Nat.zero_le _, rfl, rfl⟩
  case round =>
    obtain ⟨k, hk, rfl, rfl⟩ := hrel
    by_cases hlt : k < s.size
    · have c1 := HC.out k hlt
      have hst := numL16_step (s.data.toList.take k) s[k]
      rw [← take_snoc' s k hlt] at hst
      obtain ⟨n, hn⟩ : ∃ n, n = numL (s.data.toList.take k) % 65536 := ⟨_, rfl⟩
      obtain ⟨n2, hn2⟩ : ∃ n2, n2 = numL (s.data.toList.take (k + 1)) % 65536 := ⟨_, rfl⟩
      rw [← hn, ← hn2] at hst
      rw [← hn]
      have hnl : n < 65536 := by omega
      have HN2 := Lib.hid hn2
      clear hn2 hn
      have hc := (s[k]).toNat_lt
      generalize (s[k]).toNat = c at *
      have hm : ((n * 256 % 65536 : Nat) : Int) = (n : Int) * 256 % 65536 := by omega
      rw [hm] at hst
      have hw : IntKind.u16.wrap ((n : Int) * 256) = (n : Int) * 256 % 65536 := by rw [IntKind.wrap_u16]
      clear hm
      go_wp2
      go_round
      case rel => exact ⟨k + 1, by omega, by go_num, by rw [← HN2.out]⟩
      case measure => simp [intOf]; omega
    · go_wp2
      go_ret
      exact ⟨ret_int (by rw [List.take_of_length_le (by show s.size ≤ k; omega)]), hB⟩
theorem str_two (a b : UInt8) (W : World) (g c : Nat) (h : Blk W g 5 #[u8v a, u8v b]) : (convert 51 9 (.slice (some ⟨g, 0, none⟩) 2 c)).run Try.prog W = .ok (.string ⟨#[a, b]⟩) W :=
  run_bytes_back W ⟨g, 0, none⟩ 2 c [a, b] rfl (by
    intro j hj
    rw [add_plain, Nat.zero_add, h.cell j]
    match j, hj with
    | 0, _ => rfl
    | 1, _ => rfl)
end Go.Proofs.Ytengegcnocdkoaa
end
section
namespace Go.Proofs.Ytengegcnocdkoaa.I
open Go.RowKit
set_option maxHeartbeats 2000000 in
theorem high16 (x : Nat) (w : World) (hx : x < 65536) :
    Calls Try.prog 63 #[.int .u16 (x : Int), .int .i64 2] w fun e w' => e = .returned (.string ⟨(be2 x).toArray⟩) ∧ Below w.heap.size w w' := by
  have hmk : ∀ W : World, (Instr.makeSlice 51 (.int .i64 2) (.int .i64 2)).run Try.prog W = .ok (.slice (some ⟨W.heap.size, 0, none⟩) 2 2) (W.alloc (.cells #[.int .u8 0, .int .u8 0] 5)) := fun _ => by kernel_rfl
  go_enter Try.func63, Try.ntmps63
  go_wp2
  clear hmk
  have h0 := Blk.new w 5 #[.int .u8 0, .int .u8 0]
  have hb0 : Below w.heap.size w (w.alloc (.cells #[.int .u8 0, .int .u8 0] 5)) := (Below.refl _ _).alloc (Nat.le_refl _) _
  obtain ⟨g, hg⟩ : ∃ g, g = w.heap.size := ⟨_, rfl⟩
  rw [← hg] at h0 ⊢
  have hgl : w.heap.size ≤ g := by omega
  clear hg
  go_loopw [11] (fun i wr => Below w.heap.size w wr ∧ ((i = .int .i64 0 ∧ Blk wr g 5 #[.int .u8 0, .int .u8 0]) ∨ (i = .int .i64 1 ∧ Blk wr g 5 #[.int .u8 0, u8v (UInt8.ofNat x)]) ∨ (i = .int .i64 2 ∧ Blk wr g 5 #[u8v (UInt8.ofNat (x / 256)), u8v (UInt8.ofNat x)]))) (fun i _ => 2 - (intOf i).toNat)
  case atStart => exact ⟨hb0, .inl ⟨rfl, h0⟩⟩
  case round =>
    obtain ⟨hb, hrel⟩ := hrel
    clear h0 hb0
    rcases hrel with ⟨rfl, h⟩ | ⟨rfl, h⟩ | ⟨rfl, h⟩
    · have f1 := h.frozen 1
      have c1 := h.cell 1 ; simp at c1
      go_wp2
      go_roundw
      case rel => exact ⟨hb.setCell (by simp; omega) _, .inr (.inl ⟨rfl, by have := h.set_ 1 (u8v (UInt8.ofNat x)); simpa [u8v, u8b] using this⟩)⟩
      case measure => simp [intOf]
    · have f1 := h.frozen 0
      have c0 := h.cell 0 ; simp at c0
      go_wp2
      go_roundw
      case rel => exact ⟨hb.setCell (by simp; omega) _, .inr (.inr (⟨rfl, by
        have := h.set_ 0 (u8v (UInt8.ofNat (x / 256)))
        have ht : (x : Int) / 256 % 256 = (x : Int) / 256 := by omega
        simpa [u8v, u8b, ht] using this⟩))⟩
      case measure => simp [intOf]
    · have hbk := run_bytes_back wr ⟨g, 0, none⟩ 2 2 (be2 x) rfl (by
        intro j hj
        rw [add_plain, Nat.zero_add, h.cell j]
        match j, hj with
        | 0, _ => rfl
        | 1, _ => rfl)
      clear h
      go_wp2
      go_ret
      exact ⟨rfl, hb⟩
set_option maxHeartbeats 2000000 in
theorem high32 (x : Nat) (w : World) (hx : x < 4294967296) :
    Calls Try.prog 64 #[.int .u32 (x : Int), .int .i64 4] w fun e w' => e = .returned (.string ⟨(be4 x).toArray⟩) ∧ Below w.heap.size w w' := by
  have hmk : ∀ W : World, (Instr.makeSlice 51 (.int .i64 4) (.int .i64 4)).run Try.prog W = .ok (.slice (some ⟨W.heap.size, 0, none⟩) 4 4) (W.alloc (.cells #[.int .u8 0, .int .u8 0, .int .u8 0, .int .u8 0] 5)) := fun _ => by kernel_rfl
  go_enter Try.func64, Try.ntmps64
  go_wp2
  clear hmk
  have h0 := Blk.new w 5 #[.int .u8 0, .int .u8 0, .int .u8 0, .int .u8 0]
  have hb0 : Below w.heap.size w (w.alloc (.cells #[.int .u8 0, .int .u8 0, .int .u8 0, .int .u8 0] 5)) := (Below.refl _ _).alloc (Nat.le_refl _) _
  obtain ⟨g, hg⟩ : ∃ g, g = w.heap.size := ⟨_, rfl⟩
  rw [← hg] at h0 ⊢
  have hgl : w.heap.size ≤ g := by omega
  clear hg
  go_loopw [11] (fun i wr => Below w.heap.size w wr ∧ ((i = .int .i64 0 ∧ Blk wr g 5 #[.int .u8 0, .int .u8 0, .int .u8 0, .int .u8 0]) ∨ (i = .int .i64 1 ∧ Blk wr g 5 #[.int .u8 0, .int .u8 0, .int .u8 0, u8v (UInt8.ofNat x)]) ∨ (i = .int .i64 2 ∧ Blk wr g 5 #[.int .u8 0, .int .u8 0, u8v (UInt8.ofNat (x / 256)), u8v (UInt8.ofNat x)]) ∨ (i = .int .i64 3 ∧ Blk wr g 5 #[.int .u8 0, u8v (UInt8.ofNat (x / 65536)), u8v (UInt8.ofNat (x / 256)), u8v (UInt8.ofNat x)]) ∨ (i = .int .i64 4 ∧ Blk wr g 5 #[u8v (UInt8.ofNat (x / 16777216)), u8v (UInt8.ofNat (x / 65536)), u8v (UInt8.ofNat (x / 256)), u8v (UInt8.ofNat x)]))) (fun i _ => 4 - (intOf i).toNat)
  case atStart => exact ⟨hb0, .inl ⟨rfl, h0⟩⟩
  case round =>
    obtain ⟨hb, hrel⟩ := hrel
    clear h0 hb0
    rcases hrel with ⟨rfl, h⟩ | ⟨rfl, h⟩ | ⟨rfl, h⟩ | ⟨rfl, h⟩ | ⟨rfl, h⟩
    · have f1 := h.frozen 3
      have c3 := h.cell 3 ; simp at c3
      go_wp2
      go_roundw
      case rel => exact ⟨hb.setCell (by simp; omega) _, .inr (.inl ⟨rfl, by have := h.set_ 3 (u8v (UInt8.ofNat x)); simpa [u8v, u8b] using this⟩)⟩
      case measure => simp [intOf]
    · have f1 := h.frozen 2
      have c2 := h.cell 2 ; simp at c2
      go_wp2
      go_roundw
      case rel => exact ⟨hb.setCell (by simp; omega) _, .inr (.inr (.inl ⟨rfl, by have := h.set_ 2 (u8v (UInt8.ofNat (x / 256))); simpa [u8v, u8b] using this⟩))⟩
      case measure => simp [intOf]
    · have f1 := h.frozen 1
      have c1 := h.cell 1 ; simp at c1
      go_wp2
      go_roundw
      case rel => exact ⟨hb.setCell (by simp; omega) _, .inr (.inr (.inr (.inl ⟨rfl, by have := h.set_ 1 (u8v (UInt8.ofNat (x / 65536))); simpa [u8v, u8b] using this⟩)))⟩
      case measure => simp [intOf]
    · have f1 := h.frozen 0
      have c0 := h.cell 0 ; simp at c0
      go_wp2
      go_roundw
      case rel => exact ⟨hb.setCell (by simp; omega) _, .inr (.inr (.inr (.inr (⟨rfl, by
        have := h.set_ 0 (u8v (UInt8.ofNat (x / 16777216)))
        have ht : (x : Int) / 16777216 % 256 = (x : Int) / 16777216 := by omega
        simpa [u8v, u8b, ht] using this⟩))))⟩
      case measure => simp [intOf]
    · have hbk := run_bytes_back wr ⟨g, 0, none⟩ 4 4 (be4 x) rfl (by
        intro j hj
        rw [add_plain, Nat.zero_add, h.cell j]
        match j, hj with
        | 0, _ => rfl
        | 1, _ => rfl
        | 2, _ => rfl
        | 3, _ => rfl)
      clear h
      go_wp2
      go_ret
      exact ⟨rfl, hb⟩
set_option maxHeartbeats 2000000 in
theorem number_any (s : ByteArray) (w : World) (hs : s.size ≤ maxLen) :
    Calls Try.prog 71 #[.string s] w fun e w' => e = .returned (.int .u32 ((numL s.data.toList : Nat) : Int)) ∧ Below w.heap.size w w' := by
  obtain ⟨W1, cap, hrun, hB, hsz, hcell, _⟩ := run_bytes_new w s
  unfold maxLen at hs
  go_enter Try.func71, Try.ntmps71
  go_wp2
  clear hrun
  have HC := Lib.hid hcell
  clear hcell hsz
  go_loop [2, 8] (fun x i => ∃ k : Nat, k ≤ s.size ∧ i = .int .i64 k ∧ x = .int .u32 ((numL (s.data.toList.take k) : Nat) : Int)) (fun _ i => s.size - (intOf i).toNat)
  case atStart => exact ⟨0, Nat.zero_le _, rfl, rfl⟩
  case round =>
    obtain ⟨k, hk, rfl, rfl⟩ := hrel
    by_cases hlt : k < s.size
    · have c1 := HC.out k hlt
      have hn := numL_lt (s.data.toList.take k)
      have hst := numL_step (s.data.toList.take k) s[k]
      rw [← take_snoc' s k hlt] at hst
      generalize numL (s.data.toList.take k) = n at *
      obtain ⟨n2, hn2⟩ : ∃ n2, n2 = numL (s.data.toList.take (k + 1)) := ⟨_, rfl⟩
      rw [← hn2] at hst
      have HN2 := Lib.hid hn2
      clear hn2
      have hc := (s[k]).toNat_lt
      generalize (s[k]).toNat = c at *
      have hm : ((n * 256 % 4294967296 : Nat) : Int) = (n : Int) * 256 % 4294967296 := by omega
      rw [hm] at hst
      have hw : IntKind.u32.wrap ((n : Int) * 256) = (n : Int) * 256 % 4294967296 := by rw [IntKind.wrap_u32']
      clear hm
      go_wp2
      go_round
      case rel => exact ⟨k + 1, by omega, by go_num, by rw [← HN2.out]⟩
      case measure => simp [intOf]; omega
    · go_wp2
      go_ret
      exact ⟨ret_int (by rw [List.take_of_length_le (by show s.size ≤ k; omega)]), hB⟩
end Go.Proofs.Ytengegcnocdkoaa.I
end
section
namespace Go.Proofs.Ytengegcnocdkoaa.I
open Go.RowKit
theorem wordsL_app : ∀ (a b : List UInt8), a.length % 2 = 0 → wordsL (a ++ b) = wordsL a ++ wordsL b
  | [], b, _ => rfl
  | [a], b, h => by simp at h
  | a :: c :: t, b, h => by
    have := wordsL_app t b (by simp only [List.length_cons] at h; omega)
    simp only [List.cons_append, wordsL, this]
/-- a head -/
structure IPh where
  src : Nat
  dst : Nat
  proto : UInt8
  ttl : UInt8
  tos : UInt8
  id : Nat
  df : Bool
def IPh.ok (h : IPh) : Prop := h.src < 4294967296 ∧ h.dst < 4294967296 ∧ h.id < 65536
def IPh.cells (h : IPh) : Array Value := #[.int .u32 (h.src : Int), .int .u32 (h.dst : Int), (.int .u8 (h.proto.toNat : Int)), (.int .u8 (h.ttl.toNat : Int)), (.int .u8 (h.tos.toNat : Int)), .int .u16 (h.id : Int), .bool h.df]
def frontL (h : IPh) (n : Nat) : List UInt8 := [69, h.tos] ++ be2 n ++ be2 h.id ++ [if h.df then 64 else 0, 0, h.ttl, h.proto]
def backL (h : IPh) : List UInt8 := be4 h.src ++ be4 h.dst
def sumL (h : IPh) (n : Nat) : Nat := ofL (frontL h n ++ backL h)
def headL (h : IPh) (n s : Nat) : List UInt8 := frontL h n ++ be2 s ++ backL h
def encL (h : IPh) (load : List UInt8) : List UInt8 := headL h (20 + load.length) (sumL h (20 + load.length)) ++ load
theorem frontL_length (h : IPh) (n : Nat) : (frontL h n).length = 10 := rfl
theorem headL_length (h : IPh) (n s : Nat) : (headL h n s).length = 20 := rfl
theorem sumL_lt (h : IPh) (n : Nat) : sumL h n < 65536 := by have := ofL_le (frontL h n ++ backL h); unfold sumL; omega
end Go.Proofs.Ytengegcnocdkoaa.I
end
section
namespace Go.Proofs.Ytengegcnocdkoaa
open Go.RowKit
/-- what an operation gives: a value, in a world -/
def gives (P : Program) (o : Oper) (a : Act) (w : World) (post : Value → World → Prop) : Prop :=
  match (execOp a.eval o).run P w with
  | .ok (.value u) w' => post u w'
  | .ok .skip w' => post undef w'
  | .ok (.enter f args) w' => Calls P f args w' fun e w'' => ∃ v, e = .returned v ∧ post v w''
  | _ => False
theorem wp_of_gives {P : Program} {o : Oper} {a : Act} {w : World} {post : Value → World → Prop} {K : Act → World → Prop} {Q : Exit → Act → World → Prop} (h : gives P o a w post) (hk : ∀ v w', post v w' → K (a.put o.dst v) w') : o.wp P a w K Q := by
  unfold gives at h
  unfold Oper.wp
  generalize (execOp a.eval o).run P w = r at *
  cases r with
  | ok n w' =>
    cases n <;> simp only at h <;> simp only [Oper.upon]
    case value u => exact hk _ _ h
    case skip => exact hk _ _ h
    case enter f args => exact h.mono fun e w'' ⟨v, he, hp⟩ => by subst he; exact hk _ _ hp
  | halt x w' => simp only at h
theorem gives_congr {P : Program} {o : Oper} {a b : Act} {w : World} {post : Value → World → Prop} (he : execOp a.eval o = execOp b.eval o) (h : gives P o b w post) : gives P o a w post := by
  unfold gives at *
  rw [he]
  exact h
section
variable (P : Program) (ops : Array Oper) (C : World → Prop) (R : World → World → Prop)
abbrev Fact := Value → World → Prop
def plainB (N : List (Tmp × Fact)) (o : Oper) : Bool := (o.looksAt ops).all fun t => N.all fun p => p.1 != t
def onlyB (N : List (Tmp × Fact)) (o : Oper) (t : Tmp) : Bool := (o.looksAt ops).contains t && (o.looksAt ops).all fun s => s == t || N.all fun p => p.1 != s
def guardB (N : List (Tmp × Fact)) (o : Oper) : Bool := match o.guard with
  | some (g, _) => match (ops[g]?).bind (·.dst) with
    | some t => N.all fun p => p.1 != t
    | none => true
  | none => true
/-- one operation of the walk -/
def stepR (N : List (Tmp × Fact)) (o : Oper) (a : Act) (next : List (Tmp × Fact) → Act → Prop) : Prop :=
  guardB ops N o = true ∧
  if Region.wanted o (yielded ops a.tmps) = true then
    (plainB ops N o = true ∧ ∃ v, (∀ w, C w → gives P o a w fun u w' => u = v ∧ C w' ∧ R w w') ∧ next N (a.put o.dst v)) ∨
    (plainB ops N o = true ∧ ∃ F t, o.dst = some t ∧ (∀ u w w', R w w' → F u w → F u w') ∧ (∀ w, C w → gives P o a w fun u w' => F u w' ∧ C w' ∧ R w w') ∧ next ((t, F) :: N) (a.put o.dst undef)) ∨
    (∃ t F, (t, F) ∈ N ∧ onlyB ops N o t = true ∧ ∃ v, (∀ w x, C w → F x w → gives P o (a.put (some t) x) w fun u w' => u = v ∧ C w' ∧ R w w') ∧ next N (a.put o.dst v))
  else next N (a.put o.dst undef)
def wpR (End : List (Tmp × Fact) → Act → Prop) : List Oper → List (Tmp × Fact) → Act → Prop
  | [], N, a => End N a
  | o :: rest, N, a => stepR P ops C R N o a (wpR End rest)
/-- the slots that were told by a fact alone get a letter each -/
def endF (Q : Act → Prop) (w : World) : List (Tmp × Fact) → Act → Prop
  | [], a => Q a
  | (t, F) :: N, a => ∀ x, F x w → endF Q w N (a.put (some t) x)
end
def flatB (ops : Array Oper) (n : Nat) : Bool :=
  Region.noSelect ops && (List.range ops.size).all fun i => match ops[i]? with
    | none => true
    | some o => (o.after.all fun e => decide (e.on < i)) && (match o.dst with
        | some t => decide (t < n) && !(o.looksAt ops).contains t
        | none => true) && (List.range ops.size).all fun j => j == i || match ops[j]? with
      | none => true
      | some p => (match o.dst with
          | some t => p.dst != some t
          | none => true) && ((match p.dst with
            | some t => !(o.looksAt ops).contains t
            | none => true) || (o.after.any fun e => Region.binds .any e && e.on == j) || (p.after.any fun e => Region.binds .any e && e.on == i))
theorem flatB_spec {ops : Array Oper} {n : Nat} (h : flatB ops n = true) {i : Nat} {o : Oper} (hi : ops[i]? = some o) :
    (∀ e ∈ o.after, e.on < i) ∧ (∀ t, o.dst = some t → t < n ∧ t ∉ o.looksAt ops) ∧
    (∀ j p, ops[j]? = some p → j ≠ i → (∀ t, o.dst = some t → p.dst ≠ some t) ∧ ((∀ t, p.dst = some t → t ∉ o.looksAt ops) ∨ (∃ e ∈ o.after, Region.binds .any e = true ∧ e.on = j) ∨ (∃ e ∈ p.after, Region.binds .any e = true ∧ e.on = i))) := by
  unfold flatB at h
  rw [Bool.and_eq_true, List.all_eq_true] at h
  have h1 := h.2 i (List.mem_range.2 (Array.getElem?_eq_some_iff.1 hi).1)
  simp only [hi, Bool.and_eq_true, List.all_eq_true] at h1
  obtain ⟨⟨ha, hd⟩, hp⟩ := h1
  refine ⟨fun e he => by simpa using (Array.all_eq_true_iff_forall_mem.1 ha) e he, fun t ht => ?_, fun j p hj hne => ?_⟩
  · rw [ht] at hd
    simpa using hd
  · have h2 := hp j (List.mem_range.2 (Array.getElem?_eq_some_iff.1 hj).1)
    simp only [hj, Bool.or_eq_true, beq_iff_eq, hne, false_or, Bool.and_eq_true] at h2
    refine ⟨fun t ht => ?_, ?_⟩
    · have := h2.1
      rw [ht] at this
      simpa using this
    · rcases h2.2 with (h3 | h3) | h3
      · left
        intro t ht
        rw [ht] at h3
        simpa using h3
      · right; left
        obtain ⟨e, he, hb⟩ := Array.any_eq_true'.1 h3
        simp only [Bool.and_eq_true, beq_iff_eq] at hb
        exact ⟨e, he, hb.1, hb.2⟩
      · right; right
        obtain ⟨e, he, hb⟩ := Array.any_eq_true'.1 h3
        simp only [Bool.and_eq_true, beq_iff_eq] at hb
        exact ⟨e, he, hb.1, hb.2⟩
theorem put_slot_ne (a : Act) (d : Option Tmp) (v : Value) (t : Tmp) (h : d ≠ some t) : (a.put d v).tmps[t]? = a.tmps[t]? := by
  cases d with
  | none => rfl
  | some d =>
    have : d ≠ t := fun e => h (by rw [e])
    simp [Act.put, Array.getElem?_setIfInBounds_ne this]
theorem put_slot (a : Act) (t : Tmp) (v : Value) (h : t < a.tmps.size) : (a.put (some t) v).tmps[t]? = some v := by
  simp [Act.put, h]
theorem put_size (a : Act) (d : Option Tmp) (v : Value) : (a.put d v).tmps.size = a.tmps.size := by
  cases d with
  | none => rfl
  | some d => simp [Act.put]
theorem put_defs (a : Act) (d : Option Tmp) (v : Value) : (a.put d v).defers = a.defers := by cases d <;> rfl
section
variable (P : Program) (ops : Array Oper) (C : World → Prop) (R : World → World → Prop)
/-- what the walk has shown of one operation; 'fin': the frame at the walk's end -/
def caseR (fin : Act) (Nf N : List (Tmp × Fact)) (o : Oper) (b : Act) : Prop :=
  guardB ops N o = true ∧
  if Region.wanted o (yielded ops b.tmps) = true then
    (plainB ops N o = true ∧ ∃ v, (∀ w, C w → gives P o b w fun u w' => u = v ∧ C w' ∧ R w w') ∧ ∀ t, o.dst = some t → fin.tmps[t]? = some v ∧ ∀ F, (t, F) ∉ Nf) ∨
    (plainB ops N o = true ∧ ∃ F t, o.dst = some t ∧ (∀ w, C w → gives P o b w fun u w' => F u w' ∧ C w' ∧ R w w') ∧ (t, F) ∈ Nf ∧ ∀ F', (t, F') ∈ Nf → F' = F) ∨
    (∃ t F, (t, F) ∈ N ∧ onlyB ops N o t = true ∧ ∃ v, (∀ w x, C w → F x w → gives P o (b.put (some t) x) w fun u w' => u = v ∧ C w' ∧ R w w') ∧ ∀ t, o.dst = some t → fin.tmps[t]? = some v ∧ ∀ F, (t, F) ∉ Nf)
  else ∀ t, o.dst = some t → fin.tmps[t]? = some undef ∧ ∀ F, (t, F) ∉ Nf
theorem wpR_out {End : List (Tmp × Fact) → Act → Prop} (G : Nat → Option Oper) (n : Nat) (hd : ∀ (i j : Nat) (o p : Oper) (t : Tmp), G i = some o → G j = some p → o.dst = some t → p.dst = some t → i = j) (hn : ∀ (i : Nat) (o : Oper) (t : Tmp), G i = some o → o.dst = some t → t < n) :
    ∀ (l : List Oper) (k : Nat) (N : List (Tmp × Fact)) (a : Act), (∀ j, l[j]? = G (k + j)) → a.tmps.size = n → (∀ p ∈ N, ∃ i o, i < k ∧ G i = some o ∧ o.dst = some p.1) → (∀ p ∈ N, ∀ u w w', R w w' → p.2 u w → p.2 u w') → wpR P ops C R End l N a →
    ∃ (fin : Act) (Nf : List (Tmp × Fact)), End Nf fin ∧ fin.defers = a.defers ∧ fin.tmps.size = n ∧ (∀ t, (∀ m p, k ≤ m → G m = some p → p.dst ≠ some t) → fin.tmps[t]? = a.tmps[t]?) ∧ (∀ p ∈ N, p ∈ Nf) ∧
      (∀ p ∈ Nf, p ∈ N ∨ ∃ m o, k ≤ m ∧ G m = some o ∧ o.dst = some p.1) ∧ (∀ p ∈ Nf, ∀ u w w', R w w' → p.2 u w → p.2 u w') ∧
      ∀ i o, k ≤ i → G i = some o → ∃ (b : Act) (Nb : List (Tmp × Fact)), (∀ t, (∀ m p, k ≤ m → m < i → G m = some p → p.dst ≠ some t) → b.tmps[t]? = a.tmps[t]?) ∧ (∀ t, (∀ m p, i ≤ m → G m = some p → p.dst ≠ some t) → b.tmps[t]? = fin.tmps[t]?) ∧
        b.tmps.size = n ∧ (∀ p ∈ Nb, p ∈ Nf ∧ ∃ m o', m < i ∧ G m = some o' ∧ o'.dst = some p.1) ∧ (∀ p ∈ Nf, p ∈ Nb ∨ ∃ m o', i ≤ m ∧ G m = some o' ∧ o'.dst = some p.1) ∧ caseR P ops C R fin Nf Nb o b
  | [], k, N, a, hl, hsz, hN, hst, h => by
    have hnone : ∀ m p, k ≤ m → G m = some p → False := fun m p hm hp => by
      have := hl (m - k)
      rw [show k + (m - k) = m by omega, hp] at this
      simp at this
    exact ⟨a, N, h, rfl, hsz, fun _ _ => rfl, fun _ h => h, fun _ h => .inl h, hst, fun i o hi ho => (hnone i o hi ho).elim⟩
  | o :: rest, k, N, a, hl, hsz, hN, hst, h => by
    have hk : G k = some o := by simpa using (hl 0).symm
    have hl' : ∀ j, rest[j]? = G (k + 1 + j) := fun j => by have := hl (j + 1); simpa [Nat.add_assoc, Nat.add_comm 1 j] using this
    -- the rest, once it is known what comes next
    have go : ∀ (N' : List (Tmp × Fact)) (v : Value), (∀ p ∈ N', p ∈ N ∨ o.dst = some p.1) → (∀ p ∈ N, p ∈ N') → (∀ p ∈ N', ∀ u w w', R w w' → p.2 u w → p.2 u w') → wpR P ops C R End rest N' (a.put o.dst v) →
        (∀ fin Nf, (∀ t, o.dst = some t → fin.tmps[t]? = some v) → (∀ p ∈ N', p ∈ Nf) → (∀ p ∈ Nf, p ∈ N' ∨ ∃ m o', k + 1 ≤ m ∧ G m = some o' ∧ o'.dst = some p.1) → caseR P ops C R fin Nf N o a) →
        ∃ (fin : Act) (Nf : List (Tmp × Fact)), End Nf fin ∧ fin.defers = a.defers ∧ fin.tmps.size = n ∧ (∀ t, (∀ m p, k ≤ m → G m = some p → p.dst ≠ some t) → fin.tmps[t]? = a.tmps[t]?) ∧ (∀ p ∈ N, p ∈ Nf) ∧
          (∀ p ∈ Nf, p ∈ N ∨ ∃ m o, k ≤ m ∧ G m = some o ∧ o.dst = some p.1) ∧ (∀ p ∈ Nf, ∀ u w w', R w w' → p.2 u w → p.2 u w') ∧
          ∀ i o, k ≤ i → G i = some o → ∃ (b : Act) (Nb : List (Tmp × Fact)), (∀ t, (∀ m p, k ≤ m → m < i → G m = some p → p.dst ≠ some t) → b.tmps[t]? = a.tmps[t]?) ∧ (∀ t, (∀ m p, i ≤ m → G m = some p → p.dst ≠ some t) → b.tmps[t]? = fin.tmps[t]?) ∧
            b.tmps.size = n ∧ (∀ p ∈ Nb, p ∈ Nf ∧ ∃ m o', m < i ∧ G m = some o' ∧ o'.dst = some p.1) ∧ (∀ p ∈ Nf, p ∈ Nb ∨ ∃ m o', i ≤ m ∧ G m = some o' ∧ o'.dst = some p.1) ∧ caseR P ops C R fin Nf Nb o b := by
      intro N' v hN1 hN2 hN3 hw hcase
      obtain ⟨fin, Nf, he, hdef, hfs, hs, hsub, hNf, hst', hrest⟩ := wpR_out (End := End) G n hd hn rest (k + 1) N' (a.put o.dst v) hl' (by rw [put_size]; exact hsz)
        (fun p hp => by
          rcases hN1 p hp with h1 | h1
          · obtain ⟨i, o', hi, ho', hdst⟩ := hN p h1
            exact ⟨i, o', by omega, ho', hdst⟩
          · exact ⟨k, o, by omega, hk, h1⟩) hN3 hw
      have hfin : ∀ t, o.dst = some t → fin.tmps[t]? = some v := fun t ht => by
        rw [hs t (fun m p hm hp hpt => by have := hd k m o p t hk hp ht hpt; omega), ht]
        exact put_slot a t v (by rw [hsz]; exact hn k o t hk ht)
      refine ⟨fin, Nf, he, by rw [hdef, put_defs], hfs, fun t ht => ?_, fun p hp => hsub p (hN2 p hp), fun p hp => ?_, hst', fun i o' hi ho' => ?_⟩
      · rw [hs t (fun m p hm hp => ht m p (by omega) hp), put_slot_ne a o.dst v t (ht k o (Nat.le_refl _) hk)]
      · rcases hNf p hp with h1 | ⟨m, o', hm, ho', hdst⟩
        · rcases hN1 p h1 with h2 | h2
          · exact .inl h2
          · exact .inr ⟨k, o, Nat.le_refl _, hk, h2⟩
        · exact .inr ⟨m, o', by omega, ho', hdst⟩
      · rcases Nat.lt_or_ge k i with hlt | hge
        · obtain ⟨b, Nb, f1, f2, f3, f4, f5, f6⟩ := hrest i o' (by omega) ho'
          refine ⟨b, Nb, fun t ht => ?_, f2, f3, f4, f5, f6⟩
          rw [f1 t (fun m p hm hmi hp => ht m p (by omega) hmi hp), put_slot_ne a o.dst v t (ht k o (Nat.le_refl _) hlt hk)]
        · obtain rfl : i = k := by omega
          rw [hk] at ho'
          injection ho' with ho'
          subst ho'
          refine ⟨a, N, fun _ _ => rfl, fun t ht => ?_, hsz, fun p hp => ⟨hsub p (hN2 p hp), hN p hp⟩, fun p hp => ?_, hcase fin Nf hfin hsub hNf⟩
          · rw [hs t (fun m p hm hp => ht m p (by omega) hp), put_slot_ne a o.dst v t (ht i o (Nat.le_refl _) hk)]
          · rcases hNf p hp with h1 | ⟨m, o', hm, ho', hdst⟩
            · rcases hN1 p h1 with h2 | h2
              · exact .inl h2
              · exact .inr ⟨i, o, Nat.le_refl _, hk, h2⟩
            · exact .inr ⟨m, o', by omega, ho', hdst⟩
    have noF : ∀ (Nf : List (Tmp × Fact)) (t : Tmp), o.dst = some t → (∀ p ∈ Nf, p ∈ N ∨ ∃ m o', k + 1 ≤ m ∧ G m = some o' ∧ o'.dst = some p.1) → ∀ F, (t, F) ∉ Nf := by
      intro Nf t ht hNf F hF
      rcases hNf _ hF with h1 | ⟨m, o', hm, ho', hdst⟩
      · obtain ⟨i, o', hi, ho', hdst⟩ := hN _ h1
        have := hd i k o' o t ho' hk hdst ht
        omega
      · have := hd m k o' o t ho' hk hdst ht
        omega
    obtain ⟨hg, h⟩ := h
    by_cases hwant : Region.wanted o (yielded ops a.tmps) = true
    · rw [if_pos hwant] at h
      rcases h with ⟨hp, v, hv, hnext⟩ | ⟨hp, F, t, ht, hstab, hF, hnext⟩ | ⟨t, F, hmem, ho, v, hv, hnext⟩
      · exact go N v (fun _ h => .inl h) (fun _ h => h) hst hnext fun fin Nf hfin _ hNf => ⟨hg, by
          rw [if_pos hwant]
          exact .inl ⟨hp, v, hv, fun t ht => ⟨hfin t ht, noF Nf t ht hNf⟩⟩⟩
      · refine go ((t, F) :: N) undef (fun p hp => ?_) (fun p hp => List.mem_cons_of_mem _ hp) (fun p hp => ?_) hnext fun fin Nf hfin hsub hNf => ⟨hg, ?_⟩
        · rcases List.mem_cons.1 hp with rfl | h1
          · exact .inr ht
          · exact .inl h1
        · rcases List.mem_cons.1 hp with rfl | h1
          · exact hstab
          · exact hst p h1
        · rw [if_pos hwant]
          refine .inr (.inl ⟨hp, F, t, ht, hF, hsub _ List.mem_cons_self, fun F' hF' => ?_⟩)
          rcases hNf _ hF' with h1 | ⟨m, o', hm, ho', hdst⟩
          · rcases List.mem_cons.1 h1 with h2 | h2
            · injection h2
            · obtain ⟨i, o', hi, ho', hdst⟩ := hN _ h2
              have := hd i k o' o t ho' hk hdst ht
              omega
          · have := hd m k o' o t ho' hk hdst ht
            omega
      · exact go N v (fun _ h => .inl h) (fun _ h => h) hst hnext fun fin Nf hfin _ hNf => ⟨hg, by
          rw [if_pos hwant]
          exact .inr (.inr ⟨t, F, hmem, ho, v, hv, fun t ht => ⟨hfin t ht, noF Nf t ht hNf⟩⟩)⟩
    · rw [if_neg hwant] at h
      exact go N undef (fun _ h => .inl h) (fun _ h => h) hst h fun fin Nf hfin _ hNf => ⟨hg, by
        rw [if_neg hwant]
        exact fun t ht => ⟨hfin t ht, noF Nf t ht hNf⟩⟩
end
theorem wanted_congr {ops : Array Oper} {o : Oper} {a b : Act} (h : ∀ g x t, o.guard = some (g, x) → (ops[g]?).bind (·.dst) = some t → a.tmps[t]? = b.tmps[t]?) :
    Region.wanted o (yielded ops a.tmps) = Region.wanted o (yielded ops b.tmps) := by
  unfold Region.wanted
  cases hg : o.guard with
  | none => rfl
  | some gw =>
    obtain ⟨g, x⟩ := gw
    have : yielded ops a.tmps g = yielded ops b.tmps g := by
      unfold yielded
      cases ht : (ops[g]?).bind (·.dst) with
      | none => rfl
      | some t => simp only [Option.bind_some]; rw [h g x t hg ht]
    simp only [this]
theorem exec_congr {ops : Array Oper} {o : Oper} {a b : Act} (hs : ∀ cs x, o.op ≠ .select cs x) (h : ∀ t ∈ o.looksAt ops, a.tmps[t]? = b.tmps[t]?) : execOp a.eval o = execOp b.eval o :=
  execOp_congr o hs fun x hx => by
    cases x with
    | tmp t =>
      have := h t (List.mem_append_left _ (List.mem_filterMap.2 ⟨.tmp t, by simpa using hx, rfl⟩))
      simp [Act.eval, Array.getD_eq_getD_getElem?, this]
    | _ => rfl
theorem endF_out {Q : Act → Prop} {w : World} {a : Act} : ∀ (N : List (Tmp × Fact)) (b : Act), endF Q w N b → a.defers = b.defers → a.tmps.size = b.tmps.size → (∀ t F, (t, F) ∈ N → ∃ v, a.tmps[t]? = some v ∧ F v w) →
    (∀ t, (∀ F, (t, F) ∉ N) → a.tmps[t]? = b.tmps[t]?) → Q a
  | [], b, h, hd, hs, _, hr => by
    have : a = b := by
      obtain ⟨at_, ad⟩ := a
      obtain ⟨bt, bd⟩ := b
      simp only at hd hr
      subst hd
      congr 1
      exact Array.ext_getElem? fun t => hr t (fun F h => by cases h)
    rw [this]
    exact h
  | (t, F) :: N, b, h, hd, hs, hf, hr => by
    obtain ⟨v, hv, hF⟩ := hf t F List.mem_cons_self
    have hlt : t < a.tmps.size := (Array.getElem?_eq_some_iff.1 hv).1
    refine endF_out N (b.put (some t) v) (h v hF) (by rw [put_defs]; exact hd) (by rw [put_size]; exact hs) (fun t' F' h' => hf t' F' (List.mem_cons_of_mem _ h')) (fun t' ht' => ?_)
    by_cases e : t = t'
    · subst e
      rw [put_slot b t v (by rw [← hs]; exact hlt)]
      exact hv
    · rw [put_slot_ne b (some t) v t' (by intro h; injection h with h; exact e h)]
      exact hr t' fun F' h' => by
        rcases List.mem_cons.1 h' with h1 | h1
        · injection h1 with h1 _; exact e h1.symm
        · exact ht' F' h1
section
variable (P : Program) (ops : Array Oper) (C : World → Prop) (R : World → World → Prop)
def flatJ (G : Nat → Option Oper) (a0 fin : Act) (Nf : List (Tmp × Fact)) (listed : Array Bool) (a : Act) (w : World) : Prop :=
  C w ∧ a.defers = a0.defers ∧ a.tmps.size = a0.tmps.size ∧ listed.size = ops.size ∧
  (∀ (t : Tmp), (∀ (j : Nat) (p : Oper), G j = some p → p.dst = some t → listed.getD j false = false) → a.tmps[t]? = a0.tmps[t]?) ∧
  (∀ (j : Nat) (p : Oper) (t : Tmp), G j = some p → p.dst = some t → listed.getD j false = true → ∃ v, a.tmps[t]? = some v ∧ (∀ F, (t, F) ∈ Nf → F v w) ∧ ((∀ F, (t, F) ∉ Nf) → fin.tmps[t]? = some v)) ∧
  (∀ (j : Nat) (p : Oper), G j = some p → listed.getD j false = true → ∀ e ∈ p.after, Region.binds .any e = true → listed.getD e.on false = true)
theorem flatJ_step {G : Nat → Option Oper} (hG : ∀ i o, G i = some o → ops[i]? = some o) {a0 fin : Act} {Nf : List (Tmp × Fact)} {listed : Array Bool} {a : Act} {w w' : World} (hd : ∀ (i j : Nat) (o p : Oper) (t : Tmp), G i = some o → G j = some p → o.dst = some t → p.dst = some t → i = j)
    (hn : ∀ (i : Nat) (o : Oper) (t : Tmp), G i = some o → o.dst = some t → t < a0.tmps.size) (hst : ∀ p ∈ Nf, ∀ u w w', R w w' → p.2 u w → p.2 u w')
    (h : flatJ ops C G a0 fin Nf listed a w) {i : Nat} {o : Oper} (ho : G i = some o) (hall : ∀ e ∈ o.after, Region.binds .any e = true → listed.getD e.on false = true) (hC : C w') (hR : R w w') (u : Value)
    (hu : ∀ t, o.dst = some t → (∀ F, (t, F) ∈ Nf → F u w') ∧ ((∀ F, (t, F) ∉ Nf) → fin.tmps[t]? = some u)) : flatJ ops C G a0 fin Nf (listed.setIfInBounds i true) (a.put o.dst u) w' := by
  obtain ⟨_, h1, h2, h3, hU, hL, hD⟩ := h
  have hi : i < listed.size := by rw [h3]; exact (Array.getElem?_eq_some_iff.1 (hG i o ho)).1
  have hself : (listed.setIfInBounds i true).getD i false = true := by simp [hi]
  refine ⟨hC, by rw [put_defs]; exact h1, by rw [put_size]; exact h2, by simpa using h3, fun t ht => ?_, fun j p t hj hp hl => ?_, fun j p hj hl e he hb => ?_⟩
  · have hne : o.dst ≠ some t := fun e => by
      have := ht i o ho e
      rw [hself] at this
      cases this
    rw [put_slot_ne a o.dst u t hne]
    refine hU t fun j p hj hp => ?_
    have := ht j p hj hp
    by_cases e : i = j
    · subst e; rw [hself] at this; cases this
    · rwa [getD_set_ne false e] at this
  · by_cases e : i = j
    · subst e
      rw [ho] at hj
      injection hj with hj
      subst hj
      rw [hp]
      exact ⟨u, put_slot a t u (by rw [h2]; exact hn i o t ho hp), hu t hp⟩
    · rw [getD_set_ne false e] at hl
      obtain ⟨v, hv, hF, hf⟩ := hL j p t hj hp hl
      refine ⟨v, ?_, fun F hm => hst _ hm v w w' hR (hF F hm), hf⟩
      rw [put_slot_ne a o.dst u t (fun h => e (hd i j o p t ho hj h hp))]
      exact hv
  · by_cases e' : i = j
    · subst e'
      rw [ho] at hj
      injection hj with hj
      subst hj
      exact getD_set_true (hall e he hb)
    · rw [getD_set_ne false e'] at hl
      exact getD_set_true (hD j p hj hl e he hb)
theorem ready_false {listed : Array Bool} {i : Nat} (h : i ∈ Region.ready .any ops listed) : ∃ (hi : i < listed.size), listed[i] = false := by
  have := (mem_ready.1 h).1
  rcases Nat.lt_or_ge i listed.size with hl | hl
  · exact ⟨hl, by simpa [hl] using this⟩
  · simp [Array.getElem?_eq_none hl] at this
theorem wpAny_inv {Q : Exit → Act → World → Prop} (J : Array Bool → Act → World → Prop) (hstep : ∀ listed a w, J listed a w → ∀ i ∈ Region.ready .any ops listed, wpOp P ops Q i (J (listed.setIfInBounds i true)) a w)
    (hend : ∀ listed a w, J listed a w → Region.ready .any ops listed = [] → Q .normal a w) :
    ∀ (fuel : Nat) (listed : Array Bool) (a : Act) (w : World), J listed a w → listed.toList.count false ≤ fuel → wpAny P .any ops Q fuel listed a w
  | 0, listed, a, w, h, hc => by
    have : Region.ready .any ops listed = [] := List.eq_nil_iff_forall_not_mem.2 fun i hi => by
      obtain ⟨hl, hf⟩ := ready_false ops hi
      have : 0 < listed.toList.count false := List.count_pos_iff.2 (by rw [← hf]; simp)
      omega
    exact ⟨this, hend _ _ _ h this⟩
  | fuel + 1, listed, a, w, h, hc => by
    refine ⟨fun h0 => hend _ _ _ h h0, fun i hi => wpOp_mono (fun a' w' h' => ?_) (hstep _ _ _ h i hi)⟩
    obtain ⟨hl, hf⟩ := ready_false ops hi
    have hlt : (listed.setIfInBounds i true).toList.count false + 1 = listed.toList.count false := by
      have hpos : 0 < listed.toList.count false := List.count_pos_iff.2 (by rw [← hf]; simp)
      rw [Array.toList_setIfInBounds, List.count_set (by simpa using hl)]
      have e1 : listed.toList[i]'(by simpa using hl) = false := by simpa using hf
      rw [e1, if_pos (by decide), if_neg (by decide)]
      omega
    exact wpAny_inv J hstep hend fuel _ a' w' h' (by omega)
theorem replicate_false (n j : Nat) : (Array.replicate n false).getD j false = false := by
  rw [Array.getD_eq_getD_getElem?, Array.getElem?_replicate]
  split <;> rfl
/-- ONE WALK IN THE ORDER OF THE TEXT serves every order. -/
theorem wp_region_flat (S : World → Prop) (R : World → World → Prop) {P : Program} {id : Nat} {Q : Exit → Act → World → Prop} {a : Act} {w : World} {l : List Oper} (hm : P.follows .mixedOrders = true) (hB : flatB l.toArray a.tmps.size = true) (hRr : ∀ w, R w w) (hS : S w.drew)
    (h : wpR P l.toArray S R (fun N b => ∀ w', S w' → endF (fun b => Q .normal b w') w' N b) l [] a) : (Code.region id l.toArray true).wp P Q a w := by
  have spec := fun i o => flatB_spec (i := i) (o := o) hB
  have hd : ∀ (i j : Nat) (o p : Oper) (t : Tmp), l.toArray[i]? = some o → l.toArray[j]? = some p → o.dst = some t → p.dst = some t → i = j := by
    intro i j o p t ho hp hot hpt
    apply Classical.byContradiction
    intro hne
    exact ((spec i o ho).2.2 j p hp (Ne.symm hne)).1 t hot hpt
  have hn : ∀ (i : Nat) (o : Oper) (t : Tmp), l.toArray[i]? = some o → o.dst = some t → t < a.tmps.size := fun i o t ho ht => ((spec i o ho).2.1 t ht).1
  have hsel : ∀ (j : Nat) (o : Oper) cs b, l.toArray[j]? = some o → o.op ≠ .select cs b := Region.noSelect_spec (by unfold flatB at hB; rw [Bool.and_eq_true] at hB; exact hB.1)
  obtain ⟨fin, Nf, hEnd, hdef, hfs, hun, _, hNf, hst, hops⟩ := wpR_out P l.toArray S R (fun m => l.toArray[m]?) a.tmps.size hd hn l 0 [] a (fun j => by simp) rfl (fun p h => by cases h) (fun p h => by cases h) h
  refine wp_region_any hm (wpAny_inv P l.toArray (flatJ l.toArray S (fun m => l.toArray[m]?) a fin Nf) (fun listed a' w1 hJ i hi => ?_) (fun listed a' w1 hJ hr => ?_) _ _ _ _ ⟨hS, rfl, rfl, by simp, fun _ _ => rfl, fun j p t hj _ hl => ?_, fun j p hj hl => ?_⟩ (by simp))
  · -- a step
    obtain ⟨hun_i, o, ho, hall⟩ := mem_ready.1 hi
    obtain ⟨b, Nb, f1, f2, f3, f4, f5, hguard, hcase⟩ := hops i o (Nat.zero_le _) ho
    obtain ⟨hC1, hdf, hsz, hls, hU, hL, hD⟩ := hJ
    have hJ : flatJ l.toArray S (fun m => l.toArray[m]?) a fin Nf listed a' w1 := ⟨hC1, hdf, hsz, hls, hU, hL, hD⟩
    have hil : listed.getD i false = false := by
      obtain ⟨hl, hf⟩ := ready_false l.toArray hi
      simp [hl, hf]
    -- what is looked at
    have writer : ∀ t ∈ o.looksAt l.toArray, ∀ (j : Nat) (p : Oper), l.toArray[j]? = some p → p.dst = some t → (j < i ∧ listed.getD j false = true) ∨ (i < j ∧ listed.getD j false = false) := by
      intro t ht j p hj hp
      have hne : j ≠ i := by
        rintro rfl
        rw [ho] at hj
        injection hj with hj
        subst hj
        exact ((spec j o ho).2.1 t hp).2 ht
      rcases ((spec i o ho).2.2 j p hj hne).2 with h1 | ⟨e, he, hb, rfl⟩ | ⟨e, he, hb, hei⟩
      · exact absurd ht (h1 t hp)
      · exact .inl ⟨(spec i o ho).1 e he, hall e he hb⟩
      · refine .inr ⟨by have := (spec j p hj).1 e he; omega, ?_⟩
        cases hlj : listed.getD j false with
        | false => rfl
        | true =>
          have := hD j p hj hlj e he hb
          rw [hei, hil] at this
          cases this
    have agree : ∀ t ∈ o.looksAt l.toArray, (∀ F, (t, F) ∉ Nb) → a'.tmps[t]? = b.tmps[t]? := by
      intro t ht hNb
      by_cases hw : ∃ (j : Nat) (p : Oper), l.toArray[j]? = some p ∧ p.dst = some t
      · obtain ⟨j, p, hj, hp⟩ := hw
        rcases writer t ht j p hj hp with ⟨hlt, hlj⟩ | ⟨hlt, hlj⟩
        · obtain ⟨v, hv, _, hfin⟩ := hL j p t hj hp hlj
          rw [hv, f2 t (fun m q hm hq hqt => by have := hd m j q p t hq hj hqt hp; omega)]
          refine (hfin fun F hF => ?_).symm
          rcases f5 _ hF with h1 | ⟨m, q, hm, hq, hqt⟩
          · exact hNb F h1
          · have := hd m j q p t hq hj hqt hp
            omega
        · rw [hU t (fun m q hq hqt => by have := hd m j q p t hq hj hqt hp; rw [this]; exact hlj), f1 t (fun m q _ hm hq hqt => by have := hd m j q p t hq hj hqt hp; omega)]
      · rw [hU t (fun m q hq hqt => (hw ⟨m, q, hq, hqt⟩).elim), f1 t (fun m q _ hm hq hqt => hw ⟨m, q, hq, hqt⟩)]
    have hwant : Region.wanted o (yielded l.toArray a'.tmps) = Region.wanted o (yielded l.toArray b.tmps) := by
      refine wanted_congr fun g x t hg ht => agree t ?_ fun F hF => ?_
      · unfold Oper.looksAt
        refine List.mem_append_right _ ?_
        rw [hg]
        show t ∈ ((l.toArray[g]?).bind (·.dst)).toList
        rw [ht]
        simp
      · unfold guardB at hguard
        rw [hg] at hguard
        simp only [ht] at hguard
        have := List.all_eq_true.1 hguard _ hF
        simp at this
    unfold wpOp
    simp only [ho]
    rw [hwant]
    by_cases hw : Region.wanted o (yielded l.toArray b.tmps) = true
    · rw [if_pos hw]
      rw [if_pos hw] at hcase
      refine .inl ?_
      rcases hcase with ⟨hp, v, hv, hres⟩ | ⟨hp, F, t, ht, hF, hmem, huniq⟩ | ⟨t, F, hmem, hon, v, hv, hres⟩
      · have he : execOp a'.eval o = execOp b.eval o := exec_congr (fun cs x => hsel i o cs x ho) fun t ht => agree t ht fun F hF => by
          have := List.all_eq_true.1 (List.all_eq_true.1 hp t ht) _ hF
          simp at this
        refine wp_of_gives (gives_congr he (hv w1 hC1)) fun u w2 ⟨hu, hC2, hR⟩ => flatJ_step l.toArray S R (fun _ _ h => h) hd hn hst hJ ho hall hC2 hR u fun t ht => ?_
        subst hu
        exact ⟨fun F hF => absurd hF ((hres t ht).2 F), fun _ => (hres t ht).1⟩
      · have he : execOp a'.eval o = execOp b.eval o := exec_congr (fun cs x => hsel i o cs x ho) fun t ht => agree t ht fun F hF => by
          have := List.all_eq_true.1 (List.all_eq_true.1 hp t ht) _ hF
          simp at this
        refine wp_of_gives (gives_congr he (hF w1 hC1)) fun u w2 ⟨hu, hC2, hR⟩ => flatJ_step l.toArray S R (fun _ _ h => h) hd hn hst hJ ho hall hC2 hR u fun t' ht' => ?_
        rw [ht] at ht'
        injection ht' with ht'
        subst ht'
        exact ⟨fun F' hF' => by rw [huniq F' hF']; exact hu, fun hno => absurd hmem (hno F)⟩
      · unfold onlyB at hon
        rw [Bool.and_eq_true, List.all_eq_true] at hon
        obtain ⟨hct, hoth⟩ := hon
        have hct : t ∈ o.looksAt l.toArray := by simpa using hct
        obtain ⟨hmf, m, q, hmi, hq, hqt⟩ := f4 _ hmem
        have hlm : listed.getD m false = true := by
          rcases writer t hct m q hq hqt with ⟨_, h1⟩ | ⟨h1, _⟩
          · exact h1
          · omega
        obtain ⟨x, hx, hFx, _⟩ := hL m q t hq hqt hlm
        have hbs : t < b.tmps.size := by rw [f3]; exact hn m q t hq hqt
        have he : execOp a'.eval o = execOp (b.put (some t) x).eval o := exec_congr (fun cs y => hsel i o cs y ho) fun s hs => by
          by_cases e : s = t
          · subst e
            rw [hx, put_slot b s x hbs]
          · rw [put_slot_ne b (some t) x s (by intro h; injection h with h; exact e h.symm)]
            refine agree s hs fun F' hF' => ?_
            have := hoth s hs
            simp only [Bool.or_eq_true, beq_iff_eq, e, false_or] at this
            have := List.all_eq_true.1 this _ hF'
            simp at this
        refine wp_of_gives (gives_congr he (hv w1 x hC1 (hFx F hmf))) fun u w2 ⟨hu, hC2, hR⟩ => flatJ_step l.toArray S R (fun _ _ h => h) hd hn hst hJ ho hall hC2 hR u fun t ht => ?_
        subst hu
        exact ⟨fun F hF => absurd hF ((hres t ht).2 F), fun _ => (hres t ht).1⟩
    · rw [if_neg hw]
      rw [if_neg hw] at hcase
      exact flatJ_step l.toArray S R (fun _ _ h => h) hd hn hst hJ ho hall hC1 (hRr w1) undef fun t ht => ⟨fun F hF => absurd hF ((hcase t ht).2 F), fun _ => (hcase t ht).1⟩
  · -- the end
    obtain ⟨hC1, hdf, hsz, hls, hU, hL, hD⟩ := hJ
    have hallj : ∀ (j : Nat) (p : Oper), l.toArray[j]? = some p → listed.getD j false = true := by
      intro j
      induction j using Nat.strongRecOn with
      | _ j ih =>
        intro p hp
        cases hlj : listed.getD j false with
        | true => rfl
        | false =>
          exfalso
          have hjl : j < listed.size := by rw [hls]; exact (Array.getElem?_eq_some_iff.1 hp).1
          have : j ∈ Region.ready .any l.toArray listed := mem_ready.2 ⟨by simpa [hjl] using hlj, p, hp, fun e he hb => by
            have hlt := (spec j p hp).1 e he
            have hel : e.on < l.toArray.size := Nat.lt_trans hlt (Array.getElem?_eq_some_iff.1 hp).1
            exact ih e.on hlt _ (Array.getElem?_eq_getElem hel)⟩
          rw [hr] at this
          cases this
    refine endF_out Nf fin (hEnd w1 hC1) (by rw [hdef]; exact hdf) (by rw [hfs]; exact hsz) (fun t F hF => ?_) (fun t ht => ?_)
    · obtain ⟨m, q, hq, hqt⟩ : ∃ (m : Nat) (q : Oper), l.toArray[m]? = some q ∧ q.dst = some t := by
        rcases hNf _ hF with h1 | ⟨m, q, _, hq, hqt⟩
        · cases h1
        · exact ⟨m, q, hq, hqt⟩
      obtain ⟨v, hv, hFv, _⟩ := hL m q t hq hqt (hallj m q hq)
      exact ⟨v, hv, hFv F hF⟩
    · by_cases hw : ∃ (j : Nat) (p : Oper), l.toArray[j]? = some p ∧ p.dst = some t
      · obtain ⟨j, p, hj, hp⟩ := hw
        obtain ⟨v, hv, _, hfin⟩ := hL j p t hj hp (hallj j p hj)
        rw [hv, hfin ht]
      · rw [hU t (fun m q hq hqt => (hw ⟨m, q, hq, hqt⟩).elim), hun t (fun m q _ hq hqt => hw ⟨m, q, hq, hqt⟩)]
  · rw [replicate_false] at hl; cases hl
  · rw [replicate_false] at hl; cases hl
/-- the last operation waits for all others, and no guard names it -/
def lastB (ops : Array Oper) (n : Nat) : Bool := decide (ops.size = n + 1) && (match ops[n]? with
  | some o => (List.range n).all fun i => (o.after.any fun e => Region.binds .any e && e.on == i) || (o.after.any fun e => Region.binds .any e && decide (e.on < n) && (match ops[e.on]? with
    | some p => p.after.any fun f => Region.binds .any f && f.on == i
    | none => false))
  | none => false)
/-- .. where the last operation may do whatever it likes. -/
theorem wp_region_flat1 (n : Nat) (S : World → Prop) (R : World → World → Prop) {P : Program} {id : Nat} {Q : Exit → Act → World → Prop} {a : Act} {w : World} {l : List Oper} (hm : P.follows .mixedOrders = true) (hB : flatB l.toArray a.tmps.size = true) (hLast : lastB l.toArray n = true) (hRr : ∀ w, R w w) (hS : S w.drew)
    (h : wpR P l.toArray S R (fun N b => ∀ w', S w' → endF (fun b => wpList P l.toArray Q (l.drop n) b w') w' N b) (l.take n) [] a) : (Code.region id l.toArray true).wp P Q a w := by
  have spec := fun i o => flatB_spec (i := i) (o := o) hB
  unfold lastB at hLast
  rw [Bool.and_eq_true, decide_eq_true_eq] at hLast
  obtain ⟨hsize, hLast⟩ := hLast
  have hll : l.length = n + 1 := by simpa using hsize
  obtain ⟨ol, hol⟩ : ∃ ol, l.toArray[n]? = some ol := ⟨_, Array.getElem?_eq_getElem (by rw [hsize]; omega)⟩
  rw [hol] at hLast
  simp only [List.all_eq_true, List.mem_range] at hLast
  have hdrop : l.drop n = [ol] := by
    rw [List.drop_eq_getElem_cons (by omega), List.drop_of_length_le (by omega)]
    congr 1
    have : l[n]? = some ol := by simpa using hol
    rw [List.getElem?_eq_getElem (by omega)] at this
    injection this
  obtain ⟨G, hGd⟩ : ∃ G : Nat → Option Oper, G = fun m => if m < n then l.toArray[m]? else none := ⟨_, rfl⟩
  have hG : ∀ i o, G i = some o → l.toArray[i]? = some o := fun i o h => by
    rw [hGd] at h
    by_cases hi : i < n
    · simpa [hi] using h
    · simp [hi] at h
  have hGlt : ∀ i o, G i = some o → i < n := fun i o h => by
    rw [hGd] at h
    by_cases hi : i < n
    · exact hi
    · simp [hi] at h
  have hGof : ∀ i o, i < n → l.toArray[i]? = some o → G i = some o := fun i o hi h => by rw [hGd]; simpa [hi] using h
  have hd : ∀ (i j : Nat) (o p : Oper) (t : Tmp), G i = some o → G j = some p → o.dst = some t → p.dst = some t → i = j := by
    intro i j o p t ho hp hot hpt
    have ho := hG _ _ ho
    have hp := hG _ _ hp
    apply Classical.byContradiction
    intro hne
    exact ((spec i o ho).2.2 j p hp (Ne.symm hne)).1 t hot hpt
  have hn : ∀ (i : Nat) (o : Oper) (t : Tmp), G i = some o → o.dst = some t → t < a.tmps.size := fun i o t ho ht => ((spec i o (hG _ _ ho)).2.1 t ht).1
  have hsel : ∀ (j : Nat) (o : Oper) cs b, l.toArray[j]? = some o → o.op ≠ .select cs b := Region.noSelect_spec (by unfold flatB at hB; rw [Bool.and_eq_true] at hB; exact hB.1)
  obtain ⟨fin, Nf, hEnd, hdef, hfs, hun, _, hNf, hst, hops⟩ := wpR_out P l.toArray S R G a.tmps.size hd hn (l.take n) 0 [] a (fun j => by rw [hGd, Nat.zero_add]; by_cases hj : j < n <;> simp [hj]; omega) rfl (fun p h => by cases h) (fun p h => by cases h) h
  refine wp_region_any hm (wpAny_inv P l.toArray (fun listed a' w1 => (listed.getD n false = false ∧ flatJ l.toArray S G a fin Nf listed a' w1) ∨ (Region.ready .any l.toArray listed = [] ∧ Q .normal a' w1)) (fun listed a' w1 hJ i hi => ?_) (fun listed a' w1 hJ hr => ?_) _ _ _ _ (.inl ⟨replicate_false _ _, hS, rfl, rfl, by simp, fun _ _ => rfl, fun j p t hj _ hl => ?_, fun j p hj hl => ?_⟩) (by simp))
  · -- a step
    rcases hJ with ⟨hnl, hJ⟩ | ⟨hre, _⟩
    case inr => rw [hre] at hi; cases hi
    obtain ⟨hun_i, o, ho', hall⟩ := mem_ready.1 hi
    have hin : i < n + 1 := by rw [← hsize]; exact (Array.getElem?_eq_some_iff.1 ho').1
    by_cases hlt_n : i < n
    case neg =>
      obtain rfl : i = n := by omega
      rw [hol] at ho'
      injection ho' with ho'
      subst ho'
      obtain ⟨hC1, hdf, hsz, hls, hU, hL, hD⟩ := hJ
      have hallj : ∀ (j : Nat) (p : Oper), G j = some p → listed.getD j false = true := fun j p hj => by
        have hj1 := hLast j (hGlt j p hj)
        rw [Bool.or_eq_true] at hj1
        rcases hj1 with hj1 | hj1
        · obtain ⟨e, he, hb⟩ := Array.any_eq_true'.1 hj1
          simp only [Bool.and_eq_true, beq_iff_eq] at hb
          rw [← hb.2]
          exact hall e he hb.1
        · obtain ⟨e, he, hb⟩ := Array.any_eq_true'.1 hj1
          simp only [Bool.and_eq_true, decide_eq_true_eq] at hb
          obtain ⟨⟨hb1, hb2⟩, hb3⟩ := hb
          have hle := hall e he hb1
          cases hq : l.toArray[e.on]? with
          | none => rw [hq] at hb3; cases hb3
          | some q =>
            rw [hq] at hb3
            obtain ⟨f, hf, hc⟩ := Array.any_eq_true'.1 hb3
            simp only [Bool.and_eq_true, beq_iff_eq] at hc
            rw [← hc.2]
            exact hD e.on q (hGof _ _ hb2 hq) hle f hf hc.1
      have hq : wpList P l.toArray Q (l.drop i) a' w1 := by
        refine endF_out Nf fin (hEnd w1 hC1) (by rw [hdef]; exact hdf) (by rw [hfs]; exact hsz) (fun t F hF => ?_) (fun t ht => ?_)
        · obtain ⟨m, q, hq, hqt⟩ : ∃ (m : Nat) (q : Oper), G m = some q ∧ q.dst = some t := by
            rcases hNf _ hF with h1 | ⟨m, q, _, hq, hqt⟩
            · cases h1
            · exact ⟨m, q, hq, hqt⟩
          obtain ⟨v, hv, hFv, _⟩ := hL m q t hq hqt (hallj m q hq)
          exact ⟨v, hv, hFv F hF⟩
        · by_cases hw : ∃ (j : Nat) (p : Oper), G j = some p ∧ p.dst = some t
          · obtain ⟨j, p, hj, hp⟩ := hw
            obtain ⟨v, hv, _, hfin⟩ := hL j p t hj hp (hallj j p hj)
            rw [hv, hfin ht]
          · rw [hU t (fun m q hq hqt => (hw ⟨m, q, hq, hqt⟩).elim), hun t (fun m q _ hq hqt => hw ⟨m, q, hq, hqt⟩)]
      rw [hdrop] at hq
      have hre : Region.ready .any l.toArray (listed.setIfInBounds i true) = [] := List.eq_nil_iff_forall_not_mem.2 fun j hj => by
        obtain ⟨hjl, hjf⟩ := ready_false l.toArray hj
        have hjl' : j < i + 1 := by rw [← hsize, ← hls]; simpa using hjl
        have hj2 : (listed.setIfInBounds i true).getD j false = false := by simp only [Array.getD_eq_getD_getElem?, Array.getElem?_eq_getElem hjl, hjf, Option.getD_some]
        by_cases e : i = j
        · subst e
          have : i < listed.size := by rw [hls, hsize]; omega
          simp [this] at hj2
        · rw [getD_set_ne false e] at hj2
          have hjo : j < l.toArray.size := by rw [hsize]; omega
          have := hallj j _ (hGof j _ (by omega) (Array.getElem?_eq_getElem hjo))
          rw [hj2] at this
          cases this
      unfold wpOp
      simp only [hol]
      simp only [wpList] at hq
      by_cases hwl : Region.wanted ol (yielded l.toArray a'.tmps) = true
      · rw [if_pos hwl] at hq ⊢
        exact hq.imp (fun h => Oper.wp_mono (fun a2 w2 h2 => .inr ⟨hre, h2⟩) h) (fun h => h)
      · rw [if_neg hwl] at hq ⊢
        exact .inr ⟨hre, hq⟩
    have ho : G i = some o := hGof i o hlt_n ho'
    have hkeep : ∀ a2 w2, flatJ l.toArray S G a fin Nf (listed.setIfInBounds i true) a2 w2 → ((listed.setIfInBounds i true).getD n false = false ∧ flatJ l.toArray S G a fin Nf (listed.setIfInBounds i true) a2 w2) ∨ (Region.ready .any l.toArray (listed.setIfInBounds i true) = [] ∧ Q .normal a2 w2) := fun a2 w2 h => .inl ⟨by rw [getD_set_ne false (by omega)]; exact hnl, h⟩
    obtain ⟨b, Nb, f1, f2, f3, f4, f5, hguard, hcase⟩ := hops i o (Nat.zero_le _) ho
    obtain ⟨hC1, hdf, hsz, hls, hU, hL, hD⟩ := hJ
    have hJ : flatJ l.toArray S G a fin Nf listed a' w1 := ⟨hC1, hdf, hsz, hls, hU, hL, hD⟩
    have hil : listed.getD i false = false := by
      obtain ⟨hl, hf⟩ := ready_false l.toArray hi
      simp [hl, hf]
    -- what is looked at
    have writer : ∀ t ∈ o.looksAt l.toArray, ∀ (j : Nat) (p : Oper), G j = some p → p.dst = some t → (j < i ∧ listed.getD j false = true) ∨ (i < j ∧ listed.getD j false = false) := by
      intro t ht j p hj hp
      have hne : j ≠ i := by
        rintro rfl
        rw [ho] at hj
        injection hj with hj
        subst hj
        exact ((spec j o (hG _ _ ho)).2.1 t hp).2 ht
      rcases ((spec i o ho').2.2 j p (hG _ _ hj) hne).2 with h1 | ⟨e, he, hb, rfl⟩ | ⟨e, he, hb, hei⟩
      · exact absurd ht (h1 t hp)
      · exact .inl ⟨(spec i o ho').1 e he, hall e he hb⟩
      · refine .inr ⟨by have := (spec j p (hG _ _ hj)).1 e he; omega, ?_⟩
        cases hlj : listed.getD j false with
        | false => rfl
        | true =>
          have := hD j p hj hlj e he hb
          rw [hei, hil] at this
          cases this
    have agree : ∀ t ∈ o.looksAt l.toArray, (∀ F, (t, F) ∉ Nb) → a'.tmps[t]? = b.tmps[t]? := by
      intro t ht hNb
      by_cases hw : ∃ (j : Nat) (p : Oper), G j = some p ∧ p.dst = some t
      · obtain ⟨j, p, hj, hp⟩ := hw
        rcases writer t ht j p hj hp with ⟨hlt, hlj⟩ | ⟨hlt, hlj⟩
        · obtain ⟨v, hv, _, hfin⟩ := hL j p t hj hp hlj
          rw [hv, f2 t (fun m q hm hq hqt => by have := hd m j q p t hq hj hqt hp; omega)]
          refine (hfin fun F hF => ?_).symm
          rcases f5 _ hF with h1 | ⟨m, q, hm, hq, hqt⟩
          · exact hNb F h1
          · have := hd m j q p t hq hj hqt hp
            omega
        · rw [hU t (fun m q hq hqt => by have := hd m j q p t hq hj hqt hp; rw [this]; exact hlj), f1 t (fun m q _ hm hq hqt => by have := hd m j q p t hq hj hqt hp; omega)]
      · rw [hU t (fun m q hq hqt => (hw ⟨m, q, hq, hqt⟩).elim), f1 t (fun m q _ hm hq hqt => hw ⟨m, q, hq, hqt⟩)]
    have hwant : Region.wanted o (yielded l.toArray a'.tmps) = Region.wanted o (yielded l.toArray b.tmps) := by
      refine wanted_congr fun g x t hg ht => agree t ?_ fun F hF => ?_
      · unfold Oper.looksAt
        refine List.mem_append_right _ ?_
        rw [hg]
        show t ∈ ((l.toArray[g]?).bind (·.dst)).toList
        rw [ht]
        simp
      · unfold guardB at hguard
        rw [hg] at hguard
        simp only [ht] at hguard
        have := List.all_eq_true.1 hguard _ hF
        simp at this
    unfold wpOp
    simp only [ho']
    rw [hwant]
    by_cases hw : Region.wanted o (yielded l.toArray b.tmps) = true
    · rw [if_pos hw]
      rw [if_pos hw] at hcase
      refine .inl ?_
      rcases hcase with ⟨hp, v, hv, hres⟩ | ⟨hp, F, t, ht, hF, hmem, huniq⟩ | ⟨t, F, hmem, hon, v, hv, hres⟩
      · have he : execOp a'.eval o = execOp b.eval o := exec_congr (fun cs x => hsel i o cs x ho') fun t ht => agree t ht fun F hF => by
          have := List.all_eq_true.1 (List.all_eq_true.1 hp t ht) _ hF
          simp at this
        refine wp_of_gives (gives_congr he (hv w1 hC1)) fun u w2 ⟨hu, hC2, hR⟩ => hkeep _ _ <| flatJ_step l.toArray S R hG hd hn hst hJ ho hall hC2 hR u fun t ht => ?_
        subst hu
        exact ⟨fun F hF => absurd hF ((hres t ht).2 F), fun _ => (hres t ht).1⟩
      · have he : execOp a'.eval o = execOp b.eval o := exec_congr (fun cs x => hsel i o cs x ho') fun t ht => agree t ht fun F hF => by
          have := List.all_eq_true.1 (List.all_eq_true.1 hp t ht) _ hF
          simp at this
        refine wp_of_gives (gives_congr he (hF w1 hC1)) fun u w2 ⟨hu, hC2, hR⟩ => hkeep _ _ <| flatJ_step l.toArray S R hG hd hn hst hJ ho hall hC2 hR u fun t' ht' => ?_
        rw [ht] at ht'
        injection ht' with ht'
        subst ht'
        exact ⟨fun F' hF' => by rw [huniq F' hF']; exact hu, fun hno => absurd hmem (hno F)⟩
      · unfold onlyB at hon
        rw [Bool.and_eq_true, List.all_eq_true] at hon
        obtain ⟨hct, hoth⟩ := hon
        have hct : t ∈ o.looksAt l.toArray := by simpa using hct
        obtain ⟨hmf, m, q, hmi, hq, hqt⟩ := f4 _ hmem
        have hlm : listed.getD m false = true := by
          rcases writer t hct m q hq hqt with ⟨_, h1⟩ | ⟨h1, _⟩
          · exact h1
          · omega
        obtain ⟨x, hx, hFx, _⟩ := hL m q t hq hqt hlm
        have hbs : t < b.tmps.size := by rw [f3]; exact hn m q t hq hqt
        have he : execOp a'.eval o = execOp (b.put (some t) x).eval o := exec_congr (fun cs y => hsel i o cs y ho') fun s hs => by
          by_cases e : s = t
          · subst e
            rw [hx, put_slot b s x hbs]
          · rw [put_slot_ne b (some t) x s (by intro h; injection h with h; exact e h.symm)]
            refine agree s hs fun F' hF' => ?_
            have := hoth s hs
            simp only [Bool.or_eq_true, beq_iff_eq, e, false_or] at this
            have := List.all_eq_true.1 this _ hF'
            simp at this
        refine wp_of_gives (gives_congr he (hv w1 x hC1 (hFx F hmf))) fun u w2 ⟨hu, hC2, hR⟩ => hkeep _ _ <| flatJ_step l.toArray S R hG hd hn hst hJ ho hall hC2 hR u fun t ht => ?_
        subst hu
        exact ⟨fun F hF => absurd hF ((hres t ht).2 F), fun _ => (hres t ht).1⟩
    · rw [if_neg hw]
      rw [if_neg hw] at hcase
      exact hkeep _ _ <| flatJ_step l.toArray S R hG hd hn hst hJ ho hall hC1 (hRr w1) undef fun t ht => ⟨fun F hF => absurd hF ((hcase t ht).2 F), fun _ => (hcase t ht).1⟩
  · -- the end
    rcases hJ with ⟨hnl, hC1, hdf, hsz, hls, hU, hL, hD⟩ | ⟨_, hq⟩
    case inr => exact hq
    exfalso
    have hallj : ∀ (j : Nat) (p : Oper), G j = some p → listed.getD j false = true := by
      intro j
      induction j using Nat.strongRecOn with
      | _ j ih =>
        intro p hp
        cases hlj : listed.getD j false with
        | true => rfl
        | false =>
          exfalso
          have hjl : j < listed.size := by rw [hls]; exact (Array.getElem?_eq_some_iff.1 (hG _ _ hp)).1
          have : j ∈ Region.ready .any l.toArray listed := mem_ready.2 ⟨by simpa [hjl] using hlj, p, hG _ _ hp, fun e he hb => by
            have hlt := (spec j p (hG _ _ hp)).1 e he
            have hjn := hGlt j p hp
            have hel : e.on < l.toArray.size := by rw [hsize]; omega
            exact ih e.on hlt _ (hGof e.on _ (by omega) (Array.getElem?_eq_getElem hel))⟩
          rw [hr] at this
          cases this
    have hnl2 : n < listed.size := by rw [hls, hsize]; omega
    have : n ∈ Region.ready .any l.toArray listed := mem_ready.2 ⟨by simpa [hnl2] using hnl, ol, hol, fun e he hb => by
      have hlt := (spec n ol hol).1 e he
      have hel : e.on < l.toArray.size := by rw [hsize]; omega
      exact hallj e.on _ (hGof e.on _ hlt (Array.getElem?_eq_getElem hel))⟩
    rw [hr] at this
    cases this
  · rw [replicate_false] at hl; cases hl
  · rw [replicate_false] at hl; cases hl
end
/-- no call of a Go function -/
def noEnterB (o : Oper) : Bool := match o.op with
  | .call c => match c.callee with
    | .builtin b => match b with
      | .append | .copy | .len | .max | .min => true
      | _ => false
    | _ => false
  | .recv _ _ _ => false
  | .nilCheck _ => false
  | .select _ _ => false
  | _ => true
theorem andThen_value {P : Program} {α : Type} {s : Sem α} {w : World} {g : α → Next} (hg : ∀ x f args, g x ≠ .enter f args) {f : FuncId} {args : Array Value} {w' : World} : ((do let x ← s; pure (g x) : Sem Next)).run P w ≠ .ok (.enter f args) w' := by
  intro h
  simp only [Sem.run_bind, Sem.run_pure] at h
  cases hs : s.run P w with
  | ok x w1 => rw [hs] at h; simp [Result.andThen] at h; exact hg x _ _ h.1
  | halt x w1 => rw [hs] at h; simp [Result.andThen] at h
theorem noEnter {P : Program} {o : Oper} {a : Act} {w w' : World} {f : FuncId} {args : Array Value} (h : noEnterB o = true) : (execOp a.eval o).run P w ≠ .ok (.enter f args) w' := by
  unfold noEnterB at h
  unfold execOp
  cases ho : o.op <;> rw [ho] at h <;> simp only
  all_goals first
    | exact andThen_value (fun _ _ _ e => by cases e)
    | (simp only [Sem.run_pure]; intro e; cases e; done)
    | skip
  case nilCheck x => cases h
  case call c =>
    obtain ⟨callee, args', types⟩ := c
    simp only at h
    cases callee with
    | builtin b =>
      cases b <;> simp only at h <;> first | (cases h; done) | skip
      all_goals simp only [resolve, Sem.run_bind, Sem.run_pure, Result.andThen_ok, invoke, builtin]
      all_goals (generalize Sem.run P (_ : Sem Value) w = r; cases r <;> simp [Result.andThen])
    | _ => cases h
  case recv => cases h
section
variable {P : Program} {ops : Array Oper} {S : World → Prop} {R : World → World → Prop} {End : List (Tmp × Fact) → Act → Prop} {rest : List Oper} {N : List (Tmp × Fact)} {a : Act} {o : Oper}
theorem flat_nil (h : End N a) : wpR P ops S R End [] N a := h
/-- on, with a value in the operation's slot -/
theorem on_value {d : Option Tmp} {v : Value} {Nx : Act → Prop} (t : TypeId) (h : ∀ K : Act → Prop, (∀ a, Nx a → K a) → Oper.quiet P { dst := d, op := .assign (.const v), type := t, pos := "", after := #[], guard := none } a (fun _ => True) K) (w : World) : Nx (a.put d v) := by
  obtain ⟨v', hv, hn⟩ := h Nx (fun _ h => h)
  have h1 := hv w trivial
  simp only [Oper.quietAt, execOp, Sem.run_pure, Oper.quietUpon, Act.eval] at h1
  rw [h1.2]
  exact hn
theorem flat_skip {d : Option Tmp} {op : Op} {t : TypeId} {ps : String} {af : Array Edge} {g : Option (Nat × Bool)} (hg : guardB ops N { dst := d, op := op, type := t, pos := ps, after := af, guard := g } = true) (hw : Region.wanted { dst := d, op := op, type := t, pos := ps, after := af, guard := g } (yielded ops a.tmps) = false) (w0 : World)
    (h : ∀ K : Act → Prop, (∀ a, wpR P ops S R End rest N a → K a) → Oper.quiet P { dst := d, op := .assign (.const undef), type := t, pos := "", after := #[], guard := none } a (fun _ => True) K) : wpR P ops S R End ({ dst := d, op := op, type := t, pos := ps, after := af, guard := g } :: rest) N a :=
  ⟨hg, by rw [if_neg (by rw [hw]; exact Bool.false_ne_true)]; exact on_value t h w0⟩
theorem flat_quiet (hRr : ∀ w, R w w) (hg : guardB ops N o = true) (hw : Region.wanted o (yielded ops a.tmps) = true) (hp : plainB ops N o = true) (hne : noEnterB o = true)
    (h : ∀ K : Act → Prop, (∀ a, wpR P ops S R End rest N a → K a) → o.quiet P a (fun w' => ∃ x : Cls S, w' = x.w) K) : wpR P ops S R End (o :: rest) N a := by
  obtain ⟨v, hv, hn⟩ := h _ (fun _ h => h)
  refine ⟨hg, ?_⟩
  rw [if_pos hw]
  refine .inl ⟨hp, v, fun w hS => ?_, hn⟩
  have h1 := hv w ⟨⟨w, hS⟩, rfl⟩
  unfold Oper.quietAt at h1
  unfold gives
  have hno := fun f args w' => noEnter (P := P) (a := a) (w := w) (w' := w') (f := f) (args := args) hne
  generalize (execOp a.eval o).run P w = r at *
  cases r with
  | ok n w' =>
    cases n <;> simp only [Oper.quietUpon] at h1 <;> simp only
    case value u => obtain ⟨rfl, rfl⟩ := h1; exact ⟨rfl, hS, hRr _⟩
    case skip => obtain ⟨rfl, rfl⟩ := h1; exact ⟨rfl, hS, hRr _⟩
    case enter f args => exact absurd rfl (hno f args w')
  | halt x w' => simp only [Oper.quietUpon] at h1
theorem flat_call {d : Option Tmp} {f : FuncId} {xs : Array Operand} {ts : Array TypeId} {t : TypeId} {ps : String} {af : Array Edge} {g : Option (Nat × Bool)}
    (hcf : ∀ (vals : Array Value) (w : World), (callFunc f vals).run P w = .ok (.enter f vals) w) (vals : Array Value) (hv : xs.map a.eval = vals)
    (hg : guardB ops N { dst := d, op := .call { callee := .value (.func f), args := xs, argTypes := ts }, type := t, pos := ps, after := af, guard := g } = true)
    (hw : Region.wanted { dst := d, op := .call { callee := .value (.func f), args := xs, argTypes := ts }, type := t, pos := ps, after := af, guard := g } (yielded ops a.tmps) = true)
    (hp : plainB ops N { dst := d, op := .call { callee := .value (.func f), args := xs, argTypes := ts }, type := t, pos := ps, after := af, guard := g } = true) (v : Value)
    (hc : ∀ x : Cls S, Calls P f vals x.w fun e w'' => e = .returned v ∧ S w'' ∧ R x.w w'') (w0 : World)
    (h : ∀ K : Act → Prop, (∀ a, wpR P ops S R End rest N a → K a) → Oper.quiet P { dst := d, op := .assign (.const v), type := t, pos := "", after := #[], guard := none } a (fun _ => True) K) :
    wpR P ops S R End ({ dst := d, op := .call { callee := .value (.func f), args := xs, argTypes := ts }, type := t, pos := ps, after := af, guard := g } :: rest) N a := by
  refine ⟨hg, ?_⟩
  rw [if_pos hw]
  refine .inl ⟨hp, v, fun w hS => ?_, on_value t h w0⟩
  have he : (execOp a.eval { dst := d, op := .call { callee := .value (.func f), args := xs, argTypes := ts }, type := t, pos := ps, after := af, guard := g }).run P w = .ok (.enter f vals) w := by
    simp [execOp, resolve, Act.eval, Deferred.ofValue, invoke, hcf, ← hv]
  unfold gives
  rw [he]
  exact (hc ⟨w, hS⟩).mono fun e w'' ⟨he, hs, hr⟩ => ⟨v, he, rfl, hs, hr⟩
/-- what is known of a slice that was just built: it is a row of its own with the cells cs -/
def isNew (E : TypeId) (cs : Array Value) (n : Nat) : Fact := fun u w => ∃ g, u = .slice (some ⟨g, 0, none⟩) n n ∧ Blk w g E cs
theorem isNew_below {E : TypeId} {cs : Array Value} {n : Nat} (u : Value) (w w' : World) (hb : Below w.heap.size w w') (h : isNew E cs n u w) : isNew E cs n u w' := by
  obtain ⟨g, hu, hk⟩ := h
  exact ⟨g, hu, hk.below hb hk.lt⟩
theorem flat_build {E : TypeId} {d T : Nat} {n : Nat} {parts : Array (Nat × Operand)} {t : TypeId} {ps : String} {af : Array Edge} {g : Option (Nat × Bool)} (vals : Array (Nat × Value)) (hv : (parts.map fun (i, x) => (i, a.eval x)) = vals) (cs : Array Value)
    (hrun : ∀ w : World, (Instr.buildSlice T n vals).run P w = .ok (.slice (some ⟨w.heap.size, 0, none⟩) n n) (w.alloc (.cells cs E)))
    (hS : ∀ w w', S w → Below w.heap.size w w' → S w')
    (hg : guardB ops N { dst := some d, op := .buildSlice T n parts, type := t, pos := ps, after := af, guard := g } = true)
    (hw : Region.wanted { dst := some d, op := .buildSlice T n parts, type := t, pos := ps, after := af, guard := g } (yielded ops a.tmps) = true)
    (hp : plainB ops N { dst := some d, op := .buildSlice T n parts, type := t, pos := ps, after := af, guard := g } = true) (w0 : World)
    (h : ∀ K : Act → Prop, (∀ a, wpR P ops S (fun w w' => Below w.heap.size w w') End rest ((d, isNew E cs n) :: N) a → K a) → Oper.quiet P { dst := some d, op := .assign (.const undef), type := t, pos := "", after := #[], guard := none } a (fun _ => True) K) :
    wpR P ops S (fun w w' => Below w.heap.size w w') End ({ dst := some d, op := .buildSlice T n parts, type := t, pos := ps, after := af, guard := g } :: rest) N a := by
  refine ⟨hg, ?_⟩
  rw [if_pos hw]
  refine .inr (.inl ⟨hp, isNew E cs n, d, rfl, fun u w w' hb h => isNew_below u w w' hb h, fun w hs => ?_, on_value (Nx := wpR P ops S (fun w w' => Below w.heap.size w w') End rest ((d, isNew E cs n) :: N)) t h w0⟩)
  have hb : Below w.heap.size w (w.alloc (.cells cs E)) := (Below.refl _ _).alloc (Nat.le_refl _) _
  unfold gives
  simp only [execOp, Sem.run_bind]
  rw [hv, hrun]
  exact ⟨⟨_, rfl, Blk.new _ _ _⟩, hS _ _ hs hb, hb⟩
theorem put_eval (a : Act) (t : Tmp) (v : Value) (h : t < a.tmps.size) : (a.put (some t) v).eval (.tmp t) = v := by
  have := put_slot a t v h
  simp only [Act.eval, Array.getD_eq_getD_getElem?, this, Option.getD_some]
theorem flat_conv {F : Fact} {d : Option Tmp} {y A B : Nat} {t : TypeId} {ps : String} {af : Array Edge} {g : Option (Nat × Bool)} (hy : y < a.tmps.size) (hm : (y, F) ∈ N) (v : Value)
    (hrun : ∀ w x, F x w → (convert A B x).run P w = .ok v w) (hRr : ∀ w, R w w)
    (hg : guardB ops N { dst := d, op := .convert A B (.tmp y), type := t, pos := ps, after := af, guard := g } = true)
    (hw : Region.wanted { dst := d, op := .convert A B (.tmp y), type := t, pos := ps, after := af, guard := g } (yielded ops a.tmps) = true)
    (hp : onlyB ops N { dst := d, op := .convert A B (.tmp y), type := t, pos := ps, after := af, guard := g } y = true) (w0 : World)
    (h : ∀ K : Act → Prop, (∀ a, wpR P ops S R End rest N a → K a) → Oper.quiet P { dst := d, op := .assign (.const v), type := t, pos := "", after := #[], guard := none } a (fun _ => True) K) :
    wpR P ops S R End ({ dst := d, op := .convert A B (.tmp y), type := t, pos := ps, after := af, guard := g } :: rest) N a := by
  refine ⟨hg, ?_⟩
  rw [if_pos hw]
  refine .inr (.inr ⟨y, F, hm, hp, v, fun w x hs hx => ?_, on_value t h w0⟩)
  unfold gives
  simp only [execOp, Sem.run_bind, put_eval a y x hy, hrun w x hx]
  exact ⟨rfl, hs, hRr _⟩
/-- a call of one argument, a slice that was just built -/
theorem flat_call1 {F : Fact} {d : Option Tmp} {f : FuncId} {y : Tmp} {ts : Array TypeId} {t : TypeId} {ps : String} {af : Array Edge} {g : Option (Nat × Bool)}
    (hcf : ∀ (vals : Array Value) (w : World), (callFunc f vals).run P w = .ok (.enter f vals) w) (hy : y < a.tmps.size) (hm : (y, F) ∈ N)
    (hg : guardB ops N { dst := d, op := .call { callee := .value (.func f), args := #[.tmp y], argTypes := ts }, type := t, pos := ps, after := af, guard := g } = true)
    (hw : Region.wanted { dst := d, op := .call { callee := .value (.func f), args := #[.tmp y], argTypes := ts }, type := t, pos := ps, after := af, guard := g } (yielded ops a.tmps) = true)
    (hp : onlyB ops N { dst := d, op := .call { callee := .value (.func f), args := #[.tmp y], argTypes := ts }, type := t, pos := ps, after := af, guard := g } y = true) (v : Value)
    (hc : ∀ (x : Cls S) (u : Value), F u x.w → Calls P f #[u] x.w fun e w'' => e = .returned v ∧ S w'' ∧ R x.w w'') (w0 : World)
    (h : ∀ K : Act → Prop, (∀ a, wpR P ops S R End rest N a → K a) → Oper.quiet P { dst := d, op := .assign (.const v), type := t, pos := "", after := #[], guard := none } a (fun _ => True) K) :
    wpR P ops S R End ({ dst := d, op := .call { callee := .value (.func f), args := #[.tmp y], argTypes := ts }, type := t, pos := ps, after := af, guard := g } :: rest) N a := by
  refine ⟨hg, ?_⟩
  rw [if_pos hw]
  refine .inr (.inr ⟨y, F, hm, hp, v, fun w x hs hx => ?_, on_value t h w0⟩)
  have he : (execOp (a.put (some y) x).eval { dst := d, op := .call { callee := .value (.func f), args := #[.tmp y], argTypes := ts }, type := t, pos := ps, after := af, guard := g }).run P w = .ok (.enter f #[x]) w := by
    have h1 : (#[Operand.tmp y].map (a.put (some y) x).eval) = #[x] := by simp [put_eval a y x hy]
    simp only [execOp, resolve, h1]
    simp [Act.eval, Deferred.ofValue, invoke, hcf]
  unfold gives
  rw [he]
  exact (hc ⟨w, hs⟩ x hx).mono fun e w'' ⟨he, hs, hr⟩ => ⟨v, he, rfl, hs, hr⟩
/-- 'len' of a slice that was just built -/
theorem flat_len {E : TypeId} {cs : Array Value} {n : Nat} (m : Int) {d : Option Tmp} {y : Tmp} {ts : Array TypeId} {t : TypeId} {ps : String} {af : Array Edge} {g : Option (Nat × Bool)} (hy : y < a.tmps.size) (hm : (y, isNew E cs n) ∈ N)
    (hrun : ∀ (w : World) (x : Value), isNew E cs n x w → (Builtin.len_ ts t #[x]).run P w = .ok (.int .i64 m) w) (hRr : ∀ w, R w w)
    (hg : guardB ops N { dst := d, op := .call { callee := .builtin .len, args := #[.tmp y], argTypes := ts }, type := t, pos := ps, after := af, guard := g } = true)
    (hw : Region.wanted { dst := d, op := .call { callee := .builtin .len, args := #[.tmp y], argTypes := ts }, type := t, pos := ps, after := af, guard := g } (yielded ops a.tmps) = true)
    (hp : onlyB ops N { dst := d, op := .call { callee := .builtin .len, args := #[.tmp y], argTypes := ts }, type := t, pos := ps, after := af, guard := g } y = true) (w0 : World)
    (h : ∀ K : Act → Prop, (∀ a, wpR P ops S R End rest N a → K a) → Oper.quiet P { dst := d, op := .assign (.const (.int .i64 m)), type := t, pos := "", after := #[], guard := none } a (fun _ => True) K) :
    wpR P ops S R End ({ dst := d, op := .call { callee := .builtin .len, args := #[.tmp y], argTypes := ts }, type := t, pos := ps, after := af, guard := g } :: rest) N a := by
  refine ⟨hg, ?_⟩
  rw [if_pos hw]
  refine .inr (.inr ⟨y, isNew E cs n, hm, hp, _, fun w x hs hx => ?_, on_value t h w0⟩)
  have h1 : (#[Operand.tmp y].map (a.put (some y) x).eval) = #[x] := by simp [put_eval a y x hy]
  unfold gives
  simp only [execOp, resolve, h1, Sem.run_bind, Sem.run_pure, Result.andThen_ok, invoke, builtin]
  rw [hrun w x hx]
  exact ⟨rfl, hs, hRr _⟩
theorem below_call {S : World → Prop} (hS : ∀ W W', S W → Below W.heap.size W W' → S W') {P : Program} {f : FuncId} {args : Array Value} {v : Value} (x : Cls S)
    (h : Calls P f args x.w fun e w' => e = .returned v ∧ Below x.w.heap.size x.w w') : Calls P f args x.w fun e w'' => e = .returned v ∧ S w'' ∧ Below x.w.heap.size x.w w'' :=
  h.mono fun e w' ⟨he, hb⟩ => ⟨he, hS _ _ x.h hb, hb⟩
end
/-- nothing that was there in w has turned, and the block x has the cells cs -/
def KeepS (w : World) (x : Nat) (T : TypeId) (cs : Array Value) (W : World) : Prop := Below w.heap.size w W ∧ Blk W x T cs
theorem KeepS.below {w : World} {x : Nat} {T : TypeId} {cs : Array Value} (W W' : World) (h : KeepS w x T cs W) (hb : Below W.heap.size W W') : KeepS w x T cs W' := ⟨h.1.trans (hb.mono h.1.size), h.2.below hb h.2.lt⟩
theorem KeepS.size {w : World} {x : Nat} {T : TypeId} {cs : Array Value} (W : World) (h : KeepS w x T cs W) : w.heap.size ≤ W.heap.size := h.1.size
theorem KeepS.drew {w W : World} {x : Nat} {T : TypeId} {cs : Array Value} (h : KeepS w x T cs W) : KeepS w x T cs W.drew := KeepS.below _ _ h (Below.drew (Below.refl _ _))
/-- nothing that was there in w has turned -/
def OldS (w W : World) : Prop := Below w.heap.size w W
theorem OldS.below {w : World} (W W' : World) (h : OldS w W) (hb : Below W.heap.size W W') : OldS w W' := h.trans (hb.mono h.size)
theorem OldS.drew {w W : World} (h : OldS w W) : OldS w W.drew := Below.drew h
end Go.Proofs.Ytengegcnocdkoaa
end
section
namespace Go.Proofs.Ytengegcnocdkoaa.I
open Go.RowKit Go.BigFrame
theorem str_cat (a b : List UInt8) : (⟨a.toArray⟩ : ByteArray) ++ ⟨b.toArray⟩ = ⟨(a ++ b).toArray⟩ := by
  apply ByteArray.ext
  rw [ByteArray.data_append]
  simp
theorem str_four (a b c d : UInt8) (W : World) (g k : Nat) (h : Blk W g 5 #[u8v a, u8v b, u8v c, u8v d]) : (convert 51 9 (.slice (some ⟨g, 0, none⟩) 4 k)).run Try.prog W = .ok (.string ⟨#[a, b, c, d]⟩) W :=
  run_bytes_back W ⟨g, 0, none⟩ 4 k [a, b, c, d] rfl (by
    intro j hj
    rw [add_plain, Nat.zero_add, h.cell j]
    match j, hj with
    | 0, _ => rfl
    | 1, _ => rfl
    | 2, _ => rfl
    | 3, _ => rfl)
set_option maxRecDepth 100000 in
set_option maxHeartbeats 4000000 in
theorem enc_ok (h : IPh) (load : ByteArray) (w : World) (ho : h.ok) (hl : 20 + load.size ≤ 65535) :
    Calls Try.prog 29 #[.agg h.cells, .string load] w fun e w' => e = .returned (.tuple #[.string ⟨(encL h load.data.toList).toArray⟩, .int .i64 0]) ∧ Below w.heap.size w w' := by
  obtain ⟨src, dst, proto, ttl, tos, id, df⟩ := h
  obtain ⟨o1, o2, o3⟩ := ho
  simp only at o1 o2 o3
  unfold IPh.cells
  simp only
  obtain ⟨n, hn⟩ : ∃ n, n = 20 + load.size := ⟨_, rfl⟩
  have e1 : (20 : Int) + (load.size : Int) = (n : Int) := by omega
  have hn2 : n ≤ 65535 := by omega
  have b1 := fun W => high16 n W (by omega)
  have b2 := fun W => high16 id W (by omega)
  have b3 := fun W => high32 src W (by omega)
  have b4 := fun W => high32 dst W (by omega)
  have i1 : (load.size : Int) ≤ 65515 := by omega
  have B1 := Lib.hid b1
  clear b1
  have B2 := Lib.hid b2
  clear b2
  have B3 := Lib.hid b3
  clear b3
  have B4 := Lib.hid b4
  clear b4
  have Hn := Lib.hid hn
  clear hn
  have hx := Blk.new w 63 #[.int .u32 (src : Int), .int .u32 (dst : Int), .int .u8 (proto.toNat : Int), .int .u8 (ttl.toNat : Int), .int .u8 (tos.toNat : Int), .int .u16 (id : Int), .bool df]
  have hb0 : Below w.heap.size w (w.alloc (.cells #[.int .u32 (src : Int), .int .u32 (dst : Int), .int .u8 (proto.toNat : Int), .int .u8 (ttl.toNat : Int), .int .u8 (tos.toNat : Int), .int .u16 (id : Int), .bool df] 63)) := (Below.refl _ _).alloc (Nat.le_refl _) _
  have Hx := Lib.hid hx
  clear hx
  have Hb0 := Lib.hid hb0
  clear hb0
  cases df
  · go_enter Try.func29, Try.ntmps29
    go_upto_region 7 with fail
    generalize w.alloc _ = W at *
    obtain ⟨x, hxe⟩ : ∃ x, x = w.heap.size := ⟨_, rfl⟩
    rw [← hxe] at Hx ⊢
    clear hxe
    have hS0 : KeepS w x 63 #[.int .u32 (src : Int), .int .u32 (dst : Int), .int .u8 (proto.toNat : Int), .int .u8 (ttl.toNat : Int), .int .u8 (tos.toNat : Int), .int .u16 (id : Int), .bool false] W := ⟨Hb0.out, Hx.out⟩
    have ne : Nonempty (Cls (KeepS w x 63 #[.int .u32 (src : Int), .int .u32 (dst : Int), .int .u8 (proto.toNat : Int), .int .u8 (ttl.toNat : Int), .int .u8 (tos.toNat : Int), .int .u16 (id : Int), .bool false])) := ⟨⟨W, hS0⟩⟩
    have k2 : ∀ y : Cls (KeepS w x 63 #[.int .u32 (src : Int), .int .u32 (dst : Int), .int .u8 (proto.toNat : Int), .int .u8 (ttl.toNat : Int), .int .u8 (tos.toNat : Int), .int .u16 (id : Int), .bool false]), y.w.cell? ⟨x, 2, none⟩ = some (.int .u8 (proto.toNat : Int)) := fun y => y.h.2.cell 2
    have k3 : ∀ y : Cls (KeepS w x 63 #[.int .u32 (src : Int), .int .u32 (dst : Int), .int .u8 (proto.toNat : Int), .int .u8 (ttl.toNat : Int), .int .u8 (tos.toNat : Int), .int .u16 (id : Int), .bool false]), y.w.cell? ⟨x, 3, none⟩ = some (.int .u8 (ttl.toNat : Int)) := fun y => y.h.2.cell 3
    have k4 : ∀ y : Cls (KeepS w x 63 #[.int .u32 (src : Int), .int .u32 (dst : Int), .int .u8 (proto.toNat : Int), .int .u8 (ttl.toNat : Int), .int .u8 (tos.toNat : Int), .int .u16 (id : Int), .bool false]), y.w.cell? ⟨x, 4, none⟩ = some (.int .u8 (tos.toNat : Int)) := fun y => y.h.2.cell 4
    have k5 : ∀ y : Cls (KeepS w x 63 #[.int .u32 (src : Int), .int .u32 (dst : Int), .int .u8 (proto.toNat : Int), .int .u8 (ttl.toNat : Int), .int .u8 (tos.toNat : Int), .int .u16 (id : Int), .bool false]), y.w.cell? ⟨x, 5, none⟩ = some (.int .u16 (id : Int)) := fun y => y.h.2.cell 5
    have cf : ∀ (vals : Array Value) (w : World), (callFunc 63 vals).run Try.prog w = .ok (.enter 63 vals) w := fun _ _ => by kernel_rfl
    have r1 : ∀ W : World, (Instr.buildSlice 51 2 #[(0, .int .u8 69), (1, .int .u8 (tos.toNat : Int))]).run Try.prog W = .ok (.slice (some ⟨W.heap.size, 0, none⟩) 2 2) (W.alloc (.cells #[.int .u8 69, .int .u8 (tos.toNat : Int)] 5)) := fun _ => by kernel_rfl
    have r2 : ∀ W : World, (Instr.buildSlice 51 4 #[(0, .int .u8 0), (1, .int .u8 0), (2, .int .u8 (ttl.toNat : Int)), (3, .int .u8 (proto.toNat : Int))]).run Try.prog W = .ok (.slice (some ⟨W.heap.size, 0, none⟩) 4 4) (W.alloc (.cells #[.int .u8 0, .int .u8 0, .int .u8 (ttl.toNat : Int), .int .u8 (proto.toNat : Int)] 5)) := fun _ => by kernel_rfl
    have q1 : ∀ W u, isNew 5 #[.int .u8 69, .int .u8 (tos.toNat : Int)] 2 u W → (convert 51 9 u).run Try.prog W = .ok (.string ⟨#[69, tos]⟩) W := by
      rintro W u ⟨g, rfl, h⟩
      exact str_two 69 tos W g 2 h
    have q2 : ∀ W u, isNew 5 #[.int .u8 0, .int .u8 0, .int .u8 (ttl.toNat : Int), .int .u8 (proto.toNat : Int)] 4 u W → (convert 51 9 u).run Try.prog W = .ok (.string ⟨#[0, 0, ttl, proto]⟩) W := by
      rintro W u ⟨g, rfl, h⟩
      exact str_four 0 0 ttl proto W g 4 h
    have Cf := Lib.hid cf
    clear cf
    have R1 := Lib.hid r1
    clear r1
    have R2 := Lib.hid r2
    clear r2
    have Q1 := Lib.hid q1
    clear q1
    have Q2 := Lib.hid q2
    clear q2
    have z2 : ∀ n, (be2 n).length = 2 := fun _ => rfl
    have z4 : ∀ n, (be4 n).length = 4 := fun _ => rfl
    refine wp_region_flat (KeepS w x 63 #[.int .u32 (src : Int), .int .u32 (dst : Int), .int .u8 (proto.toNat : Int), .int .u8 (ttl.toNat : Int), .int .u8 (tos.toNat : Int), .int .u16 (id : Int), .bool false]) (fun w w' => Below w.heap.size w w') (by kernel_rfl) (by kernel_rfl) (fun w => Below.refl _ _) hS0.drew ?_
    clear hS0
    repeat (first
      | (refine flat_quiet (fun w => Below.refl _ _) rfl rfl rfl rfl ?_; intro K hK; go_big_quiet_op; go_big_quiet_on)
      | (refine flat_call Cf.out _ ?_ rfl rfl rfl _ (fun y => below_call KeepS.below y (B1.out _)) W ?_; (focus (simp only [List.map_toArray, List.map_cons, List.map_nil]; rfl)); intro K hK; go_big_quiet_op; go_big_quiet_on)
      | (refine flat_call Cf.out _ ?_ rfl rfl rfl _ (fun y => below_call KeepS.below y (B2.out _)) W ?_; (focus (simp only [List.map_toArray, List.map_cons, List.map_nil]; rfl)); intro K hK; go_big_quiet_op; go_big_quiet_on)
      | (refine flat_build (E := 5) _ ?_ _ R1.out KeepS.below rfl rfl rfl W ?_; (focus (simp only [List.map_toArray, List.map_cons, List.map_nil]; rfl)); intro K hK; go_big_quiet_op; go_big_quiet_on)
      | (refine flat_build (E := 5) _ ?_ _ R2.out KeepS.below rfl rfl rfl W ?_; (focus (simp only [List.map_toArray, List.map_cons, List.map_nil]; rfl)); intro K hK; go_big_quiet_op; go_big_quiet_on)
      | (refine flat_conv ?_ List.mem_cons_self _ Q1.out (fun w => Below.refl _ _) rfl rfl rfl W ?_; (focus (simp)); intro K hK; go_big_quiet_op; go_big_quiet_on)
      | (refine flat_conv ?_ List.mem_cons_self _ Q2.out (fun w => Below.refl _ _) rfl rfl rfl W ?_; (focus (simp)); intro K hK; go_big_quiet_op; go_big_quiet_on))
    refine flat_nil ?_
    intro W7 hW7 x34 _ x19 _
    simp only [endF, Act.put, List.setIfInBounds_toArray, List.set_cons_succ, List.set_cons_zero]
    have hfront : (⟨#[69, tos]⟩ : ByteArray) ++ ⟨(be2 n).toArray⟩ ++ ⟨(be2 id).toArray⟩ ++ ⟨#[0, 0, ttl, proto]⟩ = ⟨(frontL ⟨src, dst, proto, ttl, tos, id, false⟩ n).toArray⟩ := by
      rw [show (⟨#[69, tos]⟩ : ByteArray) = ⟨[69, tos].toArray⟩ from rfl, show (⟨#[0, 0, ttl, proto]⟩ : ByteArray) = ⟨[0, 0, ttl, proto].toArray⟩ from rfl, str_cat, str_cat, str_cat]
      rfl
    rw [hfront]
    obtain ⟨fr, hfr⟩ : ∃ fr : List UInt8, fr = frontL ⟨src, dst, proto, ttl, tos, id, false⟩ n := ⟨_, rfl⟩
    rw [← hfr]
    have zf : fr.length = 10 := by rw [hfr]; rfl
    have Hfr := Lib.hid hfr
    clear hfr
    clear hfront
    clear k2 k3 k4 k5
    have k0 : ∀ y : Cls (KeepS w x 63 #[.int .u32 (src : Int), .int .u32 (dst : Int), .int .u8 (proto.toNat : Int), .int .u8 (ttl.toNat : Int), .int .u8 (tos.toNat : Int), .int .u16 (id : Int), .bool false]), y.w.cell? ⟨x, 0, none⟩ = some (.int .u32 (src : Int)) := fun y => y.h.2.cell 0
    have k1 : ∀ y : Cls (KeepS w x 63 #[.int .u32 (src : Int), .int .u32 (dst : Int), .int .u8 (proto.toNat : Int), .int .u8 (ttl.toNat : Int), .int .u8 (tos.toNat : Int), .int .u16 (id : Int), .bool false]), y.w.cell? ⟨x, 1, none⟩ = some (.int .u32 (dst : Int)) := fun y => y.h.2.cell 1
    have cf4 : ∀ (vals : Array Value) (w : World), (callFunc 64 vals).run Try.prog w = .ok (.enter 64 vals) w := fun _ _ => by kernel_rfl
    have Cf4 := Lib.hid cf4
    clear cf4
    go_upto_region 8 with fail
    refine wp_region_flat (KeepS w x 63 #[.int .u32 (src : Int), .int .u32 (dst : Int), .int .u8 (proto.toNat : Int), .int .u8 (ttl.toNat : Int), .int .u8 (tos.toNat : Int), .int .u16 (id : Int), .bool false]) (fun w w' => Below w.heap.size w w') (by kernel_rfl) (by kernel_rfl) (fun w => Below.refl _ _) hW7.drew ?_
    repeat (first
      | (refine flat_quiet (fun w => Below.refl _ _) rfl rfl rfl rfl ?_; intro K hK; go_big_quiet_op; go_big_quiet_on)
      | (refine flat_call Cf4.out _ ?_ rfl rfl rfl _ (fun y => below_call KeepS.below y (B3.out _)) W ?_; (focus (simp only [List.map_toArray, List.map_cons, List.map_nil]; rfl)); intro K hK; go_big_quiet_op; go_big_quiet_on)
      | (refine flat_call Cf4.out _ ?_ rfl rfl rfl _ (fun y => below_call KeepS.below y (B4.out _)) W ?_; (focus (simp only [List.map_toArray, List.map_cons, List.map_nil]; rfl)); intro K hK; go_big_quiet_op; go_big_quiet_on))
    refine flat_nil ?_
    intro W8 hW8
    simp only [endF]
    clear k0 k1 ne
    go_wp2_with fail
    have hback : (⟨(be4 src).toArray⟩ : ByteArray) ++ ⟨(be4 dst).toArray⟩ = ⟨(backL ⟨src, dst, proto, ttl, tos, id, false⟩).toArray⟩ := by rw [str_cat]; rfl
    rw [hback]
    obtain ⟨bk, hbk⟩ : ∃ bk : List UInt8, bk = backL ⟨src, dst, proto, ttl, tos, id, false⟩ := ⟨_, rfl⟩
    rw [← hbk]
    have zb : bk.length = 8 := by rw [hbk]; rfl
    obtain ⟨sm, hsm⟩ : ∃ sm, sm = sumL ⟨src, dst, proto, ttl, tos, id, false⟩ n := ⟨_, rfl⟩
    have hsl : sm < 65536 := by rw [hsm]; exact sumL_lt _ _
    have hsv : ((ofL (catS [⟨fr.toArray⟩, ⟨bk.toArray⟩]) : Nat) : Int) = (sm : Int) := by
      have : catS [⟨fr.toArray⟩, ⟨bk.toArray⟩] = fr ++ bk := by simp [catS]
      rw [this, hsm, Hfr.out, hbk]
      rfl
    have ol := fun W g (h : Blk W g 9 #[.string ⟨fr.toArray⟩, .string ⟨bk.toArray⟩]) => of_lit [⟨fr.toArray⟩, ⟨bk.toArray⟩] (sm : Int) hsv (by
      intro s hs
      simp only [List.mem_cons, List.not_mem_nil, or_false] at hs
      rcases hs with rfl | rfl
      · show fr.length ≤ maxLen; rw [zf]; decide
      · show bk.length ≤ maxLen; rw [zb]; decide) g 2 2 W rfl (by omega) h
    have Hbk := Lib.hid hbk
    clear hbk
    have Hsm := Lib.hid hsm
    clear hsm
    have Ol := Lib.hid ol
    clear ol
    clear hback hsv
    with_reducible refine (Ol.out _ _ (Blk.new _ _ _)).mono ?_
    rintro e w9 ⟨rfl, hb9⟩
    go_wp2_with fail
    (with_reducible refine (high16 sm _ hsl).mono ?_)
    rintro e w10 ⟨rfl, hb10⟩
    go_wp2
    go_ret2
    refine ⟨?_, ?_⟩
    · have e2 : (⟨fr.toArray⟩ : ByteArray) ++ ⟨(be2 sm).toArray⟩ ++ ⟨bk.toArray⟩ ++ load = ⟨(encL ⟨src, dst, proto, ttl, tos, id, false⟩ load.data.toList).toArray⟩ := by
        have el : load = ⟨load.data.toList.toArray⟩ := by simp
        rw [el, str_cat, str_cat, str_cat]
        unfold encL headL
        rw [show (20 + load.data.toList.length) = n from Hn.out.symm, ← Hfr.out, ← Hbk.out, ← Hsm.out]
      rw [← e2]
      rfl
    · have h0 : Below w.heap.size w W8 := hW8.1
      have h1 : Below W8.heap.size W8 w10 := ((Below.refl _ _).alloc (Nat.le_refl _) _).trans ((hb9.mono (by simp)).trans (hb10.mono (by have := hb9.size; simp at this; omega)))
      exact h0.trans (h1.mono h0.size)
  · go_enter Try.func29, Try.ntmps29
    go_upto_region 7 with fail
    generalize w.alloc _ = W at *
    obtain ⟨x, hxe⟩ : ∃ x, x = w.heap.size := ⟨_, rfl⟩
    rw [← hxe] at Hx ⊢
    clear hxe
    have hS0 : KeepS w x 63 #[.int .u32 (src : Int), .int .u32 (dst : Int), .int .u8 (proto.toNat : Int), .int .u8 (ttl.toNat : Int), .int .u8 (tos.toNat : Int), .int .u16 (id : Int), .bool true] W := ⟨Hb0.out, Hx.out⟩
    have ne : Nonempty (Cls (KeepS w x 63 #[.int .u32 (src : Int), .int .u32 (dst : Int), .int .u8 (proto.toNat : Int), .int .u8 (ttl.toNat : Int), .int .u8 (tos.toNat : Int), .int .u16 (id : Int), .bool true])) := ⟨⟨W, hS0⟩⟩
    have k2 : ∀ y : Cls (KeepS w x 63 #[.int .u32 (src : Int), .int .u32 (dst : Int), .int .u8 (proto.toNat : Int), .int .u8 (ttl.toNat : Int), .int .u8 (tos.toNat : Int), .int .u16 (id : Int), .bool true]), y.w.cell? ⟨x, 2, none⟩ = some (.int .u8 (proto.toNat : Int)) := fun y => y.h.2.cell 2
    have k3 : ∀ y : Cls (KeepS w x 63 #[.int .u32 (src : Int), .int .u32 (dst : Int), .int .u8 (proto.toNat : Int), .int .u8 (ttl.toNat : Int), .int .u8 (tos.toNat : Int), .int .u16 (id : Int), .bool true]), y.w.cell? ⟨x, 3, none⟩ = some (.int .u8 (ttl.toNat : Int)) := fun y => y.h.2.cell 3
    have k4 : ∀ y : Cls (KeepS w x 63 #[.int .u32 (src : Int), .int .u32 (dst : Int), .int .u8 (proto.toNat : Int), .int .u8 (ttl.toNat : Int), .int .u8 (tos.toNat : Int), .int .u16 (id : Int), .bool true]), y.w.cell? ⟨x, 4, none⟩ = some (.int .u8 (tos.toNat : Int)) := fun y => y.h.2.cell 4
    have k5 : ∀ y : Cls (KeepS w x 63 #[.int .u32 (src : Int), .int .u32 (dst : Int), .int .u8 (proto.toNat : Int), .int .u8 (ttl.toNat : Int), .int .u8 (tos.toNat : Int), .int .u16 (id : Int), .bool true]), y.w.cell? ⟨x, 5, none⟩ = some (.int .u16 (id : Int)) := fun y => y.h.2.cell 5
    have cf : ∀ (vals : Array Value) (w : World), (callFunc 63 vals).run Try.prog w = .ok (.enter 63 vals) w := fun _ _ => by kernel_rfl
    have r1 : ∀ W : World, (Instr.buildSlice 51 2 #[(0, .int .u8 69), (1, .int .u8 (tos.toNat : Int))]).run Try.prog W = .ok (.slice (some ⟨W.heap.size, 0, none⟩) 2 2) (W.alloc (.cells #[.int .u8 69, .int .u8 (tos.toNat : Int)] 5)) := fun _ => by kernel_rfl
    have r2 : ∀ W : World, (Instr.buildSlice 51 4 #[(0, .int .u8 64), (1, .int .u8 0), (2, .int .u8 (ttl.toNat : Int)), (3, .int .u8 (proto.toNat : Int))]).run Try.prog W = .ok (.slice (some ⟨W.heap.size, 0, none⟩) 4 4) (W.alloc (.cells #[.int .u8 64, .int .u8 0, .int .u8 (ttl.toNat : Int), .int .u8 (proto.toNat : Int)] 5)) := fun _ => by kernel_rfl
    have q1 : ∀ W u, isNew 5 #[.int .u8 69, .int .u8 (tos.toNat : Int)] 2 u W → (convert 51 9 u).run Try.prog W = .ok (.string ⟨#[69, tos]⟩) W := by
      rintro W u ⟨g, rfl, h⟩
      exact str_two 69 tos W g 2 h
    have q2 : ∀ W u, isNew 5 #[.int .u8 64, .int .u8 0, .int .u8 (ttl.toNat : Int), .int .u8 (proto.toNat : Int)] 4 u W → (convert 51 9 u).run Try.prog W = .ok (.string ⟨#[64, 0, ttl, proto]⟩) W := by
      rintro W u ⟨g, rfl, h⟩
      exact str_four 64 0 ttl proto W g 4 h
    have Cf := Lib.hid cf
    clear cf
    have R1 := Lib.hid r1
    clear r1
    have R2 := Lib.hid r2
    clear r2
    have Q1 := Lib.hid q1
    clear q1
    have Q2 := Lib.hid q2
    clear q2
    have z2 : ∀ n, (be2 n).length = 2 := fun _ => rfl
    have z4 : ∀ n, (be4 n).length = 4 := fun _ => rfl
    refine wp_region_flat (KeepS w x 63 #[.int .u32 (src : Int), .int .u32 (dst : Int), .int .u8 (proto.toNat : Int), .int .u8 (ttl.toNat : Int), .int .u8 (tos.toNat : Int), .int .u16 (id : Int), .bool true]) (fun w w' => Below w.heap.size w w') (by kernel_rfl) (by kernel_rfl) (fun w => Below.refl _ _) hS0.drew ?_
    clear hS0
    repeat (first
      | (refine flat_quiet (fun w => Below.refl _ _) rfl rfl rfl rfl ?_; intro K hK; go_big_quiet_op; go_big_quiet_on)
      | (refine flat_call Cf.out _ ?_ rfl rfl rfl _ (fun y => below_call KeepS.below y (B1.out _)) W ?_; (focus (simp only [List.map_toArray, List.map_cons, List.map_nil]; rfl)); intro K hK; go_big_quiet_op; go_big_quiet_on)
      | (refine flat_call Cf.out _ ?_ rfl rfl rfl _ (fun y => below_call KeepS.below y (B2.out _)) W ?_; (focus (simp only [List.map_toArray, List.map_cons, List.map_nil]; rfl)); intro K hK; go_big_quiet_op; go_big_quiet_on)
      | (refine flat_build (E := 5) _ ?_ _ R1.out KeepS.below rfl rfl rfl W ?_; (focus (simp only [List.map_toArray, List.map_cons, List.map_nil]; rfl)); intro K hK; go_big_quiet_op; go_big_quiet_on)
      | (refine flat_build (E := 5) _ ?_ _ R2.out KeepS.below rfl rfl rfl W ?_; (focus (simp only [List.map_toArray, List.map_cons, List.map_nil]; rfl)); intro K hK; go_big_quiet_op; go_big_quiet_on)
      | (refine flat_conv ?_ List.mem_cons_self _ Q1.out (fun w => Below.refl _ _) rfl rfl rfl W ?_; (focus (simp)); intro K hK; go_big_quiet_op; go_big_quiet_on)
      | (refine flat_conv ?_ List.mem_cons_self _ Q2.out (fun w => Below.refl _ _) rfl rfl rfl W ?_; (focus (simp)); intro K hK; go_big_quiet_op; go_big_quiet_on))
    refine flat_nil ?_
    intro W7 hW7 x34 _ x19 _
    simp only [endF, Act.put, List.setIfInBounds_toArray, List.set_cons_succ, List.set_cons_zero]
    have hfront : (⟨#[69, tos]⟩ : ByteArray) ++ ⟨(be2 n).toArray⟩ ++ ⟨(be2 id).toArray⟩ ++ ⟨#[64, 0, ttl, proto]⟩ = ⟨(frontL ⟨src, dst, proto, ttl, tos, id, true⟩ n).toArray⟩ := by
      rw [show (⟨#[69, tos]⟩ : ByteArray) = ⟨[69, tos].toArray⟩ from rfl, show (⟨#[64, 0, ttl, proto]⟩ : ByteArray) = ⟨[64, 0, ttl, proto].toArray⟩ from rfl, str_cat, str_cat, str_cat]
      rfl
    rw [hfront]
    obtain ⟨fr, hfr⟩ : ∃ fr : List UInt8, fr = frontL ⟨src, dst, proto, ttl, tos, id, true⟩ n := ⟨_, rfl⟩
    rw [← hfr]
    have zf : fr.length = 10 := by rw [hfr]; rfl
    have Hfr := Lib.hid hfr
    clear hfr
    clear hfront
    clear k2 k3 k4 k5
    have k0 : ∀ y : Cls (KeepS w x 63 #[.int .u32 (src : Int), .int .u32 (dst : Int), .int .u8 (proto.toNat : Int), .int .u8 (ttl.toNat : Int), .int .u8 (tos.toNat : Int), .int .u16 (id : Int), .bool true]), y.w.cell? ⟨x, 0, none⟩ = some (.int .u32 (src : Int)) := fun y => y.h.2.cell 0
    have k1 : ∀ y : Cls (KeepS w x 63 #[.int .u32 (src : Int), .int .u32 (dst : Int), .int .u8 (proto.toNat : Int), .int .u8 (ttl.toNat : Int), .int .u8 (tos.toNat : Int), .int .u16 (id : Int), .bool true]), y.w.cell? ⟨x, 1, none⟩ = some (.int .u32 (dst : Int)) := fun y => y.h.2.cell 1
    have cf4 : ∀ (vals : Array Value) (w : World), (callFunc 64 vals).run Try.prog w = .ok (.enter 64 vals) w := fun _ _ => by kernel_rfl
    have Cf4 := Lib.hid cf4
    clear cf4
    go_upto_region 8 with fail
    refine wp_region_flat (KeepS w x 63 #[.int .u32 (src : Int), .int .u32 (dst : Int), .int .u8 (proto.toNat : Int), .int .u8 (ttl.toNat : Int), .int .u8 (tos.toNat : Int), .int .u16 (id : Int), .bool true]) (fun w w' => Below w.heap.size w w') (by kernel_rfl) (by kernel_rfl) (fun w => Below.refl _ _) hW7.drew ?_
    repeat (first
      | (refine flat_quiet (fun w => Below.refl _ _) rfl rfl rfl rfl ?_; intro K hK; go_big_quiet_op; go_big_quiet_on)
      | (refine flat_call Cf4.out _ ?_ rfl rfl rfl _ (fun y => below_call KeepS.below y (B3.out _)) W ?_; (focus (simp only [List.map_toArray, List.map_cons, List.map_nil]; rfl)); intro K hK; go_big_quiet_op; go_big_quiet_on)
      | (refine flat_call Cf4.out _ ?_ rfl rfl rfl _ (fun y => below_call KeepS.below y (B4.out _)) W ?_; (focus (simp only [List.map_toArray, List.map_cons, List.map_nil]; rfl)); intro K hK; go_big_quiet_op; go_big_quiet_on))
    refine flat_nil ?_
    intro W8 hW8
    simp only [endF]
    clear k0 k1 ne
    go_wp2_with fail
    have hback : (⟨(be4 src).toArray⟩ : ByteArray) ++ ⟨(be4 dst).toArray⟩ = ⟨(backL ⟨src, dst, proto, ttl, tos, id, true⟩).toArray⟩ := by rw [str_cat]; rfl
    rw [hback]
    obtain ⟨bk, hbk⟩ : ∃ bk : List UInt8, bk = backL ⟨src, dst, proto, ttl, tos, id, true⟩ := ⟨_, rfl⟩
    rw [← hbk]
    have zb : bk.length = 8 := by rw [hbk]; rfl
    obtain ⟨sm, hsm⟩ : ∃ sm, sm = sumL ⟨src, dst, proto, ttl, tos, id, true⟩ n := ⟨_, rfl⟩
    have hsl : sm < 65536 := by rw [hsm]; exact sumL_lt _ _
    have hsv : ((ofL (catS [⟨fr.toArray⟩, ⟨bk.toArray⟩]) : Nat) : Int) = (sm : Int) := by
      have : catS [⟨fr.toArray⟩, ⟨bk.toArray⟩] = fr ++ bk := by simp [catS]
      rw [this, hsm, Hfr.out, hbk]
      rfl
    have ol := fun W g (h : Blk W g 9 #[.string ⟨fr.toArray⟩, .string ⟨bk.toArray⟩]) => of_lit [⟨fr.toArray⟩, ⟨bk.toArray⟩] (sm : Int) hsv (by
      intro s hs
      simp only [List.mem_cons, List.not_mem_nil, or_false] at hs
      rcases hs with rfl | rfl
      · show fr.length ≤ maxLen; rw [zf]; decide
      · show bk.length ≤ maxLen; rw [zb]; decide) g 2 2 W rfl (by omega) h
    have Hbk := Lib.hid hbk
    clear hbk
    have Hsm := Lib.hid hsm
    clear hsm
    have Ol := Lib.hid ol
    clear ol
    clear hback hsv
    with_reducible refine (Ol.out _ _ (Blk.new _ _ _)).mono ?_
    rintro e w9 ⟨rfl, hb9⟩
    go_wp2_with fail
    (with_reducible refine (high16 sm _ hsl).mono ?_)
    rintro e w10 ⟨rfl, hb10⟩
    go_wp2
    go_ret2
    refine ⟨?_, ?_⟩
    · have e2 : (⟨fr.toArray⟩ : ByteArray) ++ ⟨(be2 sm).toArray⟩ ++ ⟨bk.toArray⟩ ++ load = ⟨(encL ⟨src, dst, proto, ttl, tos, id, true⟩ load.data.toList).toArray⟩ := by
        have el : load = ⟨load.data.toList.toArray⟩ := by simp
        rw [el, str_cat, str_cat, str_cat]
        unfold encL headL
        rw [show (20 + load.data.toList.length) = n from Hn.out.symm, ← Hfr.out, ← Hbk.out, ← Hsm.out]
      rw [← e2]
      rfl
    · have h0 : Below w.heap.size w W8 := hW8.1
      have h1 : Below W8.heap.size W8 w10 := ((Below.refl _ _).alloc (Nat.le_refl _) _).trans ((hb9.mono (by simp)).trans (hb10.mono (by have := hb9.size; simp at this; omega)))
      exact h0.trans (h1.mono h0.size)
end Go.Proofs.Ytengegcnocdkoaa.I
end
section
namespace Go.Proofs.Ytengegcnocdkoaa.I
open Go.RowKit Go.BigFrame
set_option maxHeartbeats 1000000 in
theorem enc_long (h : IPh) (load : ByteArray) (w : World) (hl : 65535 < 20 + load.size) (hm : load.size ≤ 131072) :
    Calls Try.prog 29 #[.agg h.cells, .string load] w fun e w' => e = .returned (.tuple #[.string ⟨#[]⟩, .int .i64 4]) ∧ Below w.heap.size w w' := by
  obtain ⟨src, dst, proto, ttl, tos, id, df⟩ := h
  unfold IPh.cells
  simp only
  have i1 : (65535 : Int) < 20 + (load.size : Int) := by omega
  have i2 : (load.size : Int) ≤ 131072 := by omega
  go_enter Try.func29, Try.ntmps29
  go_wp2
  go_ret2
  exact ⟨rfl, (Below.refl _ _).alloc (Nat.le_refl _) _⟩
end Go.Proofs.Ytengegcnocdkoaa.I
end
section
namespace Go.Proofs.Ytengegcnocdkoaa.I
open Go.RowKit
def at0 (l : List UInt8) (i : Nat) : Nat := (l.getD i 0).toNat
/-- what is wrong with bytes (0: nothing) -/
def decE (l : List UInt8) : Nat :=
  if l.length < 20 then 50 else if at0 l 0 / 16 ≠ 4 then 51 else if at0 l 0 % 16 ≠ 5 then 52 else if numL ((l.drop 2).take 2) ≠ l.length then 53
  else if ofL (l.take 20) ≠ 0 then 55 else if (at0 l 6 ≠ 0 ∧ at0 l 6 ≠ 64) ∨ at0 l 7 ≠ 0 then 54 else 0
def decH (l : List UInt8) : IPh := ⟨numL ((l.drop 12).take 4), numL ((l.drop 16).take 4), l.getD 9 0, l.getD 8 0, l.getD 1 0, numL ((l.drop 4).take 2) % 65536, at0 l 6 == 64⟩
def zeroC : Array Value := #[.int .u32 0, .int .u32 0, .int .u8 0, .int .u8 0, .int .u8 0, .int .u16 0, .bool false]
def badV (e : Nat) : Value := .tuple #[.agg zeroC, .string ⟨#[]⟩, .int .i64 (e : Int)]
def decV (l : List UInt8) : Value := if decE l = 0 then .tuple #[.agg (decH l).cells, .string ⟨(l.drop 20).toArray⟩, .int .i64 0] else badV (decE l)
theorem decV_bad {l : List UInt8} {e : Nat} (h : decE l = e) (h0 : e ≠ 0) : decV l = badV e := by
  unfold decV
  rw [h, if_neg h0]
theorem decV_ok {l : List UInt8} (h : decE l = 0) : decV l = .tuple #[.agg (decH l).cells, .string ⟨(l.drop 20).toArray⟩, .int .i64 0] := by
  unfold decV
  rw [if_pos h]
theorem at0_get (s : ByteArray) (i : Nat) (h : i < s.size) : at0 s.data.toList i = (s[i]'h).toNat := by
  unfold at0
  have hl : i < s.data.toList.length := h
  simp only [List.getD, List.getElem?_eq_getElem hl, Option.getD_some]
  rfl
theorem getD_get (s : ByteArray) (i : Nat) (h : i < s.size) : s.data.toList.getD i 0 = s[i]'h := by
  have hl : i < s.data.toList.length := h
  simp only [List.getD, List.getElem?_eq_getElem hl, Option.getD_some]
  rfl
theorem andNot64 : ∀ c : UInt8, (bits .andNot .u8 (c.toNat : Int) 64 != 0) = decide (c.toNat ≠ 0 ∧ c.toNat ≠ 64) := by
  have h : ∀ n : Fin 256, (bits .andNot .u8 (n.val : Int) 64 != 0) = decide (n.val ≠ 0 ∧ n.val ≠ 64) := by decide +kernel
  intro c
  exact h ⟨c.toNat, c.toNat_lt⟩
theorem decE_of (s : ByteArray) (h20 : 20 ≤ s.size) {b0 b1 b2 b3 b4 ok : Bool} (e0 : (((s[0]'(by omega)).toNat : Int) / 16 != 4) = b0) (e1 : (((s[0]'(by omega)).toNat : Int) % 16 != 5) = b1) {nl : Nat} (hnl : nl = numL ((s.data.toList.drop 2).take 2)) (e2 : ((nl : Int) != (s.size : Int)) = b2)
    (hok : ok = ((ofL (s.data.toList.take 20) : Int) == 0)) (e3 : (bits .andNot .u8 ((s[6]'(by omega)).toNat : Int) 64 != 0) = b3) (e4 : (((s[7]'(by omega)).toNat : Int) != 0) = b4) :
    decE s.data.toList = if b0 = true then 51 else if b1 = true then 52 else if b2 = true then 53 else if ok = false then 55 else if b3 = true ∨ b4 = true then 54 else 0 := by
  have hl : s.data.toList.length = s.size := rfl
  unfold decE
  rw [at0_get s 0 (by omega), at0_get s 6 (by omega), at0_get s 7 (by omega), if_neg (by omega)]
  rw [andNot64] at e3
  have p0 : (b0 = true) = ((s[0]'(by omega)).toNat / 16 ≠ 4) := by rw [← e0, bne_iff_ne, eq_iff_iff]; omega
  have p1 : (b1 = true) = ((s[0]'(by omega)).toNat % 16 ≠ 5) := by rw [← e1, bne_iff_ne, eq_iff_iff]; omega
  have p2 : (b2 = true) = (numL ((s.data.toList.drop 2).take 2) ≠ s.data.toList.length) := by rw [← e2, ← hnl, bne_iff_ne, eq_iff_iff, hl]; omega
  have p3 : (ok = false) = (ofL (s.data.toList.take 20) ≠ 0) := by rw [hok, beq_eq_false_iff_ne, eq_iff_iff]; omega
  have p4 : (b3 = true ∨ b4 = true) = (((s[6]'(by omega)).toNat ≠ 0 ∧ (s[6]'(by omega)).toNat ≠ 64) ∨ (s[7]'(by omega)).toNat ≠ 0) := by
    rw [← e3, ← e4, bne_iff_ne, decide_eq_true_iff, eq_iff_iff]
    omega
  simp only [p0, p1, p2, p3, p4]
theorem below_set7 {B x : Nat} {w W : World} (h : Below B w W) (hx : B ≤ x) (v0 v1 v2 v3 v4 v5 v6 : Value) :
    Below B w (((((((W.setCell ⟨x, 0, none⟩ v0).setCell ⟨x, 1, none⟩ v1).setCell ⟨x, 2, none⟩ v2).setCell ⟨x, 3, none⟩ v3).setCell ⟨x, 4, none⟩ v4).setCell ⟨x, 5, none⟩ v5).setCell ⟨x, 6, none⟩ v6) :=
  ((((((h.setCell hx v0).setCell hx v1).setCell hx v2).setCell hx v3).setCell hx v4).setCell hx v5).setCell hx v6
theorem blk_set7 {W : World} {x : Nat} {T : TypeId} {a0 a1 a2 a3 a4 a5 a6 : Value} (h : Blk W x T #[a0, a1, a2, a3, a4, a5, a6]) (v0 v1 v2 v3 v4 v5 v6 : Value) :
    Blk (((((((W.setCell ⟨x, 0, none⟩ v0).setCell ⟨x, 1, none⟩ v1).setCell ⟨x, 2, none⟩ v2).setCell ⟨x, 3, none⟩ v3).setCell ⟨x, 4, none⟩ v4).setCell ⟨x, 5, none⟩ v5).setCell ⟨x, 6, none⟩ v6) x T #[v0, v1, v2, v3, v4, v5, v6] := by
  have := ((((((h.set_ 0 v0).set_ 1 v1).set_ 2 v2).set_ 3 v3).set_ 4 v4).set_ 5 v5).set_ 6 v6
  simpa using this
theorem num_ext (s : ByteArray) (i j : Nat) : numL (s.extract i j).data.toList = numL ((s.data.toList.drop i).take (j - i)) := by
  rw [ByteArray.data_extract, Array.toList_extract, List.extract_eq_take_drop]
theorem str_drop (s : ByteArray) (i : Nat) : (⟨(s.data.toList.drop i).toArray⟩ : ByteArray) = s.extract i s.size := by
  apply ByteArray.ext
  apply Array.toList_inj.1
  rw [ByteArray.data_extract, Array.toList_extract, List.extract_eq_take_drop]
  exact (List.take_of_length_le (by simp)).symm
theorem decV_done (s : ByteArray) (h20 : 20 ≤ s.size) (h : decE s.data.toList = 0) {u1 u2 u3 : Nat} (h1 : u1 = numL (s.extract 4 6).data.toList) (h2 : u2 = numL (s.extract 12 16).data.toList) (h3 : u3 = numL (s.extract 16 20).data.toList) {df : Bool} (hdf : (((s[6]'(by omega)).toNat : Int) == 64) = df) :
    decV s.data.toList = .tuple #[.agg #[.int .u32 (u2 : Int), .int .u32 (u3 : Int), .int .u8 ((s[9]'(by omega)).toNat : Int), .int .u8 ((s[8]'(by omega)).toNat : Int), .int .u8 ((s[1]'(by omega)).toNat : Int), .int .u16 ((u1 : Int) % 65536), .bool df], .string (s.extract 20 s.size), .int .i64 0] := by
  rw [decV_ok h, str_drop]
  unfold decH IPh.cells
  simp only [getD_get s 9 (by omega), getD_get s 8 (by omega), getD_get s 1 (by omega), at0_get s 6 (by omega)]
  rw [h1, h2, h3, num_ext, num_ext, num_ext]
  have e : ((s[6]'(by omega)).toNat == 64) = df := by
    rw [← hdf, Bool.eq_iff_iff, beq_iff_eq, beq_iff_eq]
    omega
  rw [e]
  simp
end Go.Proofs.Ytengegcnocdkoaa.I
end
