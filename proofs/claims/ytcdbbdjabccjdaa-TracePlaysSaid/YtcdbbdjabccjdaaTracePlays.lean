/- The statement TracePlays: the code plays as the document's answer, act by act and as a whole. -/
import Derived.Test.YtcdbbdjabccjdaaTraceU
import Derived.Test.YtcdbbdjabccjdaaFlowUA
import Derived.Test.YtcdbbdjabccjdaaTraceQ
import Derived.Test.YtcdbbdjabccjdaaTraceP
set_option linter.unusedVariables false
set_option linter.unusedSimpArgs false
namespace Go.Proofs.Ytcdbbdjabccjdaa.tracePlays
open Go.ChangeShapes Go.WideShapes Go.ChangeAt Go.RowKit
open Go.ChangeMaps (open_string shut_string)


section
variable {P : Program} {ops : Array Oper} {S : World → Prop} {R : Nat → World → World → Prop} {U : List (Nat × (World → Prop))} {End : List Tmp → List Fc → Act → Prop} {rest : List Oper} {k : Nat} {T : List Tmp} {N : List Fc} {a : Act} {o : Oper}
/-- an operator on two slots, each told by a fact -/
theorem flowu_two {d : Option Tmp} {c : BinOp} {ty ty2 : TypeId} {y z : Tmp} {t : TypeId} {ps : String} {af : Array Edge} {g : Option (Nat × Bool)}
    (v : Value) (ψ : List Value → World → Prop) (hst : ∀ l i w w', R i w w' → ψ l w → ψ l w') (hRr : ∀ i w, R i w w) (j j' : Nat) {i i' : Nat} {φ φ' : List Value → World → Prop} (hj : N[j]? = some ⟨i, [y], φ⟩) (hj' : N[j']? = some ⟨i', [z], φ'⟩)
    (hwt : waitsB { dst := d, op := .binOp c ty (.tmp y) (.tmp z) ty2, type := t, pos := ps, after := af, guard := g } i = true) (hwt' : waitsB { dst := d, op := .binOp c ty (.tmp y) (.tmp z) ty2, type := t, pos := ps, after := af, guard := g } i' = true)
    (hyT : T.contains y = true) (hzT : T.contains z = true) (hy : y < a.tmps.size) (hz : z < a.tmps.size)
    (hx : ∀ u u' w, S w → φ [u] w → φ' [u'] w → (eqGuard c ty (.tmp y) (.tmp z) u u' >>= fun _ => binOp c ty u u').run P w = .ok v w ∧ ψ [] w)
    (hg : guardW ops T { dst := d, op := .binOp c ty (.tmp y) (.tmp z) ty2, type := t, pos := ps, after := af, guard := g } = true) (hw : Region.wanted { dst := d, op := .binOp c ty (.tmp y) (.tmp z) ty2, type := t, pos := ps, after := af, guard := g } (yielded ops a.tmps) = true) (w0 : World)
    (h : ∀ K : Act → Prop, (∀ a, wpU P ops S R U End (k + 1) rest T (⟨k, [], ψ⟩ :: N) a → K a) → Oper.quiet P { dst := d, op := .assign (.const v), type := t, pos := "", after := #[], guard := none } a (fun _ => True) K) :
    wpU P ops S R U End k ({ dst := d, op := .binOp c ty (.tmp y) (.tmp z) ty2, type := t, pos := ps, after := af, guard := g } :: rest) T N a :=
  flowu_stay v ψ hst (fun w f hS hN hut => by
    obtain ⟨h1, h2⟩ := hx _ _ _ hS (known_at hN j hj hwt) (known_at hN j' hj' hwt')
    unfold gives
    simp only [execOp]
    rw [fill_eval (by simpa using hyT) hy, fill_eval (by simpa using hzT) hz, Sem.run_bind, h1]
    exact ⟨⟨rfl, h2⟩, hS, hRr _ _⟩) hg hw w0 h
end

/-- the code's and the document's, at the same place -/
def Twin (w : World) (b gx : Nat) (t : Tr) (wr : World) : Prop := Szd t ∧ TrAt wr b t ∧ RfAt wr gx t ∧ Below w.heap.size w wr
/-- what the operations of an act's region may do -/
def RU (b gx : Nat) (t' : Tr) (i : Nat) (w w' : World) : Prop := Below w.heap.size w w' ∨ (i = 5 ∧ w.grownBy w' (some b) ∧ TrAt w' b t') ∨ (i = 11 ∧ w.grownBy w' (some gx) ∧ RfAt w' gx t')
theorem RU.refl (b gx : Nat) (t' : Tr) (i : Nat) (w : World) : RU b gx t' i w w := .inl (Below.refl _ _)
theorem RU.old {b gx : Nat} {t' t : Tr} {i : Nat} {w w' : World} (hne : b ≠ gx) (hi : i ≠ 5) (h : RU b gx t' i w w') (ha : TrAt w b t) : TrAt w' b t := by
  rcases h with h | ⟨h1, _⟩ | ⟨_, h2, _⟩
  · exact ha.below h ha.lt
  · exact absurd h1 hi
  · exact ha.grown h2 (fun e => by injection e with e; exact hne e)
theorem RU.oldR {b gx : Nat} {t' t : Tr} {i : Nat} {w w' : World} (hne : b ≠ gx) (hi : i ≠ 11) (h : RU b gx t' i w w') (ha : RfAt w gx t) : RfAt w' gx t := by
  rcases h with h | ⟨_, h2, _⟩ | ⟨h1, _⟩
  · exact ha.below h ha.lt
  · exact ha.grown h2 (fun e => by injection e with e; exact hne e.symm)
  · exact absurd h1 hi
theorem RU.new {b gx : Nat} {t' : Tr} {i : Nat} {w w' : World} (hne : b ≠ gx) (h : RU b gx t' i w w') (ha : TrAt w b t') : TrAt w' b t' := by
  by_cases hi : i = 5
  · rcases h with h | ⟨_, _, h2⟩ | ⟨h1, _⟩
    · exact ha.below h ha.lt
    · exact h2
    · omega
  · exact h.old hne hi ha
theorem RU.newR {b gx : Nat} {t' : Tr} {i : Nat} {w w' : World} (hne : b ≠ gx) (h : RU b gx t' i w w') (ha : RfAt w gx t') : RfAt w' gx t' := by
  by_cases hi : i = 11
  · rcases h with h | ⟨h1, _⟩ | ⟨_, _, h2⟩
    · exact ha.below h ha.lt
    · omega
    · exact h2
  · exact h.oldR hne hi ha
def FiT (b : Nat) (c : Int) (t' : Tr) (l : List Value) (w : World) : Prop := l = [.int .i64 c] ∧ TrAt w b t'
def FiR (gx : Nat) (c : Int) (t' : Tr) (l : List Value) (w : World) : Prop := l = [.int .i64 c] ∧ RfAt w gx t'
def FiB (b gx : Nat) (t' : Tr) (l : List Value) (w : World) : Prop := TrAt w b t' ∧ RfAt w gx t'

/-- a world in which a block holds other cells -/
theorem other_cells {B g : Nat} {w0 w : World} {T : TypeId} {cs : Array Value} (cs' : Array Value) (h : Blk w g T cs) (hsz : cs'.size = cs.size) (hB : Below B w0 w) (hg : B ≤ g) :
    ∀ n : Nat, ∃ (W : World) (d : Array Value), Blk W g T d ∧ d.size = cs'.size ∧ (∀ i, i < n → d[i]? = cs'[i]?) ∧ Below B w0 W ∧ ∀ g' T' c', g' ≠ g → Blk w g' T' c' → Blk W g' T' c'
  | 0 => ⟨w, cs, h, hsz.symm, (fun i hi => absurd hi (Nat.not_lt_zero _)), hB, fun _ _ _ _ h => h⟩
  | n + 1 => by
    obtain ⟨W, d, h1, h2, h3, h4, h5⟩ := other_cells cs' h hsz hB hg n
    refine ⟨W.setCell ⟨g, n, none⟩ (cs'.getD n undef), d.setIfInBounds n (cs'.getD n undef), Blk.set_ h1 n _, by simp [h2], fun i hi => ?_, h4.setCell hg _, fun g' T' c' hne hc => (h5 g' T' c' hne hc).far hne _⟩
    rw [Array.getElem?_setIfInBounds]
    by_cases he : n = i
    · subst he
      rw [if_pos rfl]
      by_cases hn : n < d.size
      · rw [if_pos hn, Array.getElem?_eq_getElem (by omega)]
        simp [Array.getD, show n < cs'.size by omega]
      · rw [if_neg hn, Array.getElem?_eq_none (by omega)]
    · rw [if_neg he]
      exact h3 i (by omega)
theorem other_world {B g : Nat} {w0 w : World} {T : TypeId} {cs : Array Value} (cs' : Array Value) (h : Blk w g T cs) (hsz : cs'.size = cs.size) (hB : Below B w0 w) (hg : B ≤ g) :
    ∃ W, Blk W g T cs' ∧ Below B w0 W ∧ ∀ g' T' c', g' ≠ g → Blk w g' T' c' → Blk W g' T' c' := by
  obtain ⟨W, d, h1, h2, h3, h4, h5⟩ := other_cells cs' h hsz hB hg cs'.size
  have : d = cs' := by
    apply Array.ext_getElem?
    intro i
    by_cases hi : i < cs'.size
    · exact h3 i hi
    · rw [Array.getElem?_eq_none (by omega), Array.getElem?_eq_none (by omega)]
  subst this
  exact ⟨W, h1, h4, h5⟩
theorem twin_world {w wr : World} {b gx : Nat} {t : Tr} (t' : Tr) (hne : b ≠ gx) (ha : TrAt wr b t) (hr : RfAt wr gx t) (hB : Below w.heap.size w wr) (hb : w.heap.size ≤ b) (hgx : w.heap.size ≤ gx) : ∃ W, Below w.heap.size w W ∧ TrAt W b t' ∧ RfAt W gx t' := by
  obtain ⟨W, h1, h2, h3⟩ := other_world (trC t') ha (by simp [trC]) hB hb
  obtain ⟨W', h4, h5, h6⟩ := other_world (rfC t') (h3 _ _ _ hne.symm hr) (by simp [rfC]) h2 hgx
  exact ⟨W', h5, h6 _ _ _ hne h1, h4⟩

set_option maxRecDepth 100000 in
set_option maxHeartbeats 4000000 in
theorem core (a0 : Option Addr) (len0 cap0 : Nat) (l : List AAct) (w : World) (hrow : ARow w a0 len0 l) (hsz : ∀ k, k < len0 → (l.getD k aNil).s.size ≤ 140737488351232) (hlen : len0 ≤ 9223372036854775807) :
    Calls Try.prog 3 #[.slice a0 len0 cap0] w fun e w' => e = .returned (.bool true) ∧ Below w.heap.size w w' := by
  have hb0 : Below w.heap.size w w := Below.refl _ _
  have HB := Lib.hid hb0
  clear hb0
  have hhv := heavy_at w a0 len0 cap0 l hrow hsz hlen
  have Hrow := Lib.hid hrow
  clear hrow
  have Hsz := Lib.hid hsz
  clear hsz
  have Hhv := Lib.hid hhv
  clear hhv
  go_enter Try.func3, Try.ntmps3
  go_wp2_with fail
  refine Hhv.out.mono ?_
  clear Hhv
  rintro e w2 ⟨r, rfl, rfl, hr⟩
  cases r
  case true =>
    clear hr
    go_wp2_with fail
    refine (alive31 _).mono ?_
    rintro e w9 ⟨rfl, hb9⟩
    go_wp2
    go_ret
    exact ⟨rfl, hb9⟩
  obtain ⟨h200, hsm⟩ := hr rfl
  have Hsm := Lib.hid hsm
  clear hsm
  clear hr Hsz
  go_wp2_with fail
  (with_reducible refine (new_at _).mono ?_)
  rintro e w3 ⟨b, rfl, hb, ht, hB0⟩
  have hB := HB.out.trans hB0
  have hw3 := hB0.size
  clear HB hB0
  have HB := Lib.hid hB
  clear hB
  have Ht := Lib.hid ht
  clear ht
  go_wp2_with fail
  have hx := Blk.new w3 32 #[.bool false, .string ⟨#[]⟩, .int .i64 0, .bool false, .bool false, .bool false, .bool false, .string ⟨#[]⟩, .int .i64 0, .bool false, .bool false, .bool false, .bool false]
  have ht := Blk.alloc Ht.out (.cells #[.bool false, .string ⟨#[]⟩, .int .i64 0, .bool false, .bool false, .bool false, .bool false, .string ⟨#[]⟩, .int .i64 0, .bool false, .bool false, .bool false, .bool false] 32)
  clear Ht
  have hB := HB.out.alloc HB.out.size (.cells #[.bool false, .string ⟨#[]⟩, .int .i64 0, .bool false, .bool false, .bool false, .bool false, .string ⟨#[]⟩, .int .i64 0, .bool false, .bool false, .bool false, .bool false] 32)
  clear HB
  obtain ⟨gx, hge⟩ : ∃ g, g = w3.heap.size := ⟨_, rfl⟩
  rw [← hge] at hx ⊢
  have hle_x : w3.heap.size ≤ gx := by omega
  clear hge
  generalize w3.alloc _ = w4 at *
  have Ht := Lib.hid ht
  clear ht
  have Hx := Lib.hid hx
  clear hx
  have HB := Lib.hid hB
  clear hB
  have hrx : RfAt w4 gx T0 := Hx.out
  have hne : b ≠ gx := fun e => Blk.ne_ Ht.out hrx (by decide) e
  have hgx : w.heap.size ≤ gx := by omega
  have hp0 : Twin w b gx T0 w4 := ⟨szd_0, Ht.out, hrx, HB.out⟩
  clear hrx Hx Ht HB hle_x
  have Hp0 := Lib.hid hp0
  clear hp0
  have Hne := Lib.hid hne
  clear hne
  go_wp2
  go_loopw [5] (fun i wr => ∃ k : Nat, k ≤ len0 ∧ i = .int .i64 (k : Int) ∧ ∃ t, Twin w b gx t wr) (fun i _ => len0 - (intOf i).toNat)
  case atStart => exact ⟨0, Nat.zero_le _, rfl, T0, Hp0.out⟩
  case round =>
    obtain ⟨k, hk, rfl, t, hz, hat, hrf, hB⟩ := hrel
    clear Hp0
    by_cases hlt : k < len0
    · obtain ⟨r, off, rfl, hrl, y0, y1, y2⟩ := Hrow.out.2 k hlt
      have hsk := Hsm.out k
      generalize hx : l.getD k aNil = x at *
      clear hx
      have e1' : decide (k < len0) = true := decide_eq_true hlt
      obtain ⟨e, d, s⟩ := x
      simp only at y0 y1 y2 hsk
      have z0 : ∀ y : Cls (OldS w), y.w.cell? ⟨r, off + k * 3, none⟩ = some (.int .i64 e) := fun y => (y.h.cell (p := ⟨r, off + k * 3, none⟩) hrl).trans y0
      have z1 : ∀ y : Cls (OldS w), y.w.cell? ⟨r, off + k * 3 + 1, none⟩ = some (.int .u8 (d : Int)) := fun y => (y.h.cell (p := ⟨r, off + k * 3 + 1, none⟩) hrl).trans y1
      have z2 : ∀ y : Cls (OldS w), y.w.cell? ⟨r, off + k * 3 + 2, none⟩ = some (.string s) := fun y => (y.h.cell (p := ⟨r, off + k * 3 + 2, none⟩) hrl).trans y2
      clear y0 y1 y2 hrl
      obtain ⟨rr, hrr⟩ : ∃ z, z = doM t e d s := ⟨_, rfl⟩
      have hdo : ∀ W, TrAt W b t → _ := fun W (h : TrAt W b t) => do_at W b t e d s h hz (by omega)
      have hrdo : ∀ W, RfAt W gx t → _ := fun W (h : RfAt W gx t) => rdo_at W gx t e d s h hz (by omega)
      have hszr : Szd rr.2 := by rw [hrr]; exact szd_step hz ⟨e, d, s⟩
      rw [← hrr] at hdo hrdo
      clear hrr
      have hS0 : OldS w wr := hB
      have hN := Hne.out
      obtain ⟨re, t'⟩ := rr
      simp only at hdo hrdo hszr
      have stT : ∀ l i w w', RU b gx t' i w w' → FiT b re t' l w → FiT b re t' l w' := fun l i w w' h ⟨q1, q2⟩ => ⟨q1, h.new hN q2⟩
      have stR : ∀ l i w w', RU b gx t' i w w' → FiR gx re t' l w → FiR gx re t' l w' := fun l i w w' h ⟨q1, q2⟩ => ⟨q1, h.newR hN q2⟩
      have stB : ∀ l i w w', RU b gx t' i w w' → FiB b gx t' l w → FiB b gx t' l w' := fun l i w w' h ⟨q1, q2⟩ => ⟨h.new hN q1, h.newR hN q2⟩
      have hc5 : ∀ w1, OldS w w1 → untilU [(5, fun W => TrAt W b t), (11, fun W => RfAt W gx t)] 5 w1 → Calls Try.prog 12 #[.pointer (some ⟨b, 0, none⟩), .agg #[.int .i64 e, .int .u8 (d : Int), .string s]] w1 fun e w'' => ∃ v, e = .returned v ∧ FiT b re t' [v] w'' ∧ OldS w w'' ∧ RU b gx t' 5 w1 w'' := fun w1 h1 h2 => (hdo w1 (h2 (5, fun W => TrAt W b t) (.head _) rfl)).mono fun e w'' ⟨q1, q2, q3⟩ => ⟨_, q1, ⟨rfl, q2⟩, below_only h1 q3 hb h1.size, .inr (.inl ⟨rfl, q3, q2⟩)⟩
      have hc11 : ∀ w1, OldS w w1 → untilU [(5, fun W => TrAt W b t), (11, fun W => RfAt W gx t)] 11 w1 → Calls Try.prog 13 #[.pointer (some ⟨gx, 0, none⟩), .agg #[.int .i64 e, .int .u8 (d : Int), .string s]] w1 fun e w'' => ∃ v, e = .returned v ∧ FiR gx re t' [v] w'' ∧ OldS w w'' ∧ RU b gx t' 11 w1 w'' := fun w1 h1 h2 => (hrdo w1 (h2 (11, fun W => RfAt W gx t) (.tail _ (.head _)) rfl)).mono fun e w'' ⟨q1, q2, q3⟩ => ⟨_, q1, ⟨rfl, q2⟩, below_only h1 q3 hgx h1.size, .inr (.inr ⟨rfl, q3, q2⟩)⟩
      have hk0 : ∀ k w1, OldS w w1 → FiB b gx t' [] w1 → Calls Try.prog 14 #[.pointer (some ⟨b, 0, none⟩), .int .i64 0] w1 fun e w'' => e = .returned (.agg #[.bool t'.s0.opn, .string t'.s0.wr, .int .i64 (t'.s0.rd : Int), .bool t'.s0.cl, .bool t'.s0.eof, .bool t'.s0.dd]) ∧ OldS w w'' ∧ RU b gx t' k w1 w'' := fun k w1 h1 h2 => (side_0 w1 b t' h2.1).mono fun e w' ⟨he, hb⟩ => ⟨he, OldS.below _ _ h1 hb, .inl hb⟩
      have hk1 : ∀ k w1, OldS w w1 → FiB b gx t' [] w1 → Calls Try.prog 14 #[.pointer (some ⟨b, 0, none⟩), .int .i64 1] w1 fun e w'' => e = .returned (.agg #[.bool t'.s1.opn, .string t'.s1.wr, .int .i64 (t'.s1.rd : Int), .bool t'.s1.cl, .bool t'.s1.eof, .bool t'.s1.dd]) ∧ OldS w w'' ∧ RU b gx t' k w1 w'' := fun k w1 h1 h2 => (side_1 w1 b t' h2.1).mono fun e w' ⟨he, hb⟩ => ⟨he, OldS.below _ _ h1 hb, .inl hb⟩
      have hk2 : ∀ k w1, OldS w w1 → FiB b gx t' [] w1 → Calls Try.prog 15 #[.pointer (some ⟨b, 0, none⟩)] w1 fun e w'' => e = .returned (.bool t'.cause) ∧ OldS w w'' ∧ RU b gx t' k w1 w'' := fun k w1 h1 h2 => (cause_at w1 b t' h2.1).mono fun e w' ⟨he, hb⟩ => ⟨he, hb ▸ h1, hb ▸ RU.refl _ _ _ _ _⟩
      have hk3 : ∀ k w1, OldS w w1 → FiB b gx t' [] w1 → Calls Try.prog 16 #[.pointer (some ⟨b, 0, none⟩)] w1 fun e w'' => e = .returned (.bool (t'.s0.over && t'.s1.over)) ∧ OldS w w'' ∧ RU b gx t' k w1 w'' := fun k w1 h1 h2 => (over_at w1 b t' h2.1).mono fun e w' ⟨he, hb⟩ => ⟨he, OldS.below _ _ h1 hb, .inl hb⟩
      have hk4 : ∀ k w1, OldS w w1 → FiB b gx t' [] w1 → Calls Try.prog 17 #[.pointer (some ⟨gx, 0, none⟩)] w1 fun e w'' => e = .returned (.bool (t'.s0.over && t'.s1.over)) ∧ OldS w w'' ∧ RU b gx t' k w1 w'' := fun k w1 h1 h2 => (rover_at w1 gx t' h2.2).mono fun e w' ⟨he, hb⟩ => ⟨he, hb ▸ h1, hb ▸ RU.refl _ _ _ _ _⟩
      have cf0 : ∀ (vals : Array Value) (w : World), (callFunc 12 vals).run Try.prog w = .ok (.enter 12 vals) w := fun _ _ => by kernel_rfl
      have cf1 : ∀ (vals : Array Value) (w : World), (callFunc 13 vals).run Try.prog w = .ok (.enter 13 vals) w := fun _ _ => by kernel_rfl
      have cf2 : ∀ (vals : Array Value) (w : World), (callFunc 14 vals).run Try.prog w = .ok (.enter 14 vals) w := fun _ _ => by kernel_rfl
      have cf3 : ∀ (vals : Array Value) (w : World), (callFunc 15 vals).run Try.prog w = .ok (.enter 15 vals) w := fun _ _ => by kernel_rfl
      have cf4 : ∀ (vals : Array Value) (w : World), (callFunc 16 vals).run Try.prog w = .ok (.enter 16 vals) w := fun _ _ => by kernel_rfl
      have cf5 : ∀ (vals : Array Value) (w : World), (callFunc 17 vals).run Try.prog w = .ok (.enter 17 vals) w := fun _ _ => by kernel_rfl
      have hU0 : ∀ q ∈ ([(5, fun W => TrAt W b t), (11, fun W => RfAt W gx t)] : List (Nat × (World → Prop))), q.2 wr.drew := by
        intro q hq
        simp only [List.mem_cons, List.not_mem_nil, or_false] at hq
        rcases hq with rfl | rfl
        · exact hat
        · exact hrf
      have hUs : ∀ q ∈ ([(5, fun W => TrAt W b t), (11, fun W => RfAt W gx t)] : List (Nat × (World → Prop))), ∀ i w w', i ≠ q.1 → RU b gx t' i w w' → q.2 w → q.2 w' := by
        intro q hq
        simp only [List.mem_cons, List.not_mem_nil, or_false] at hq
        rcases hq with rfl | rfl
        · exact fun i w w' hi h hq => h.old hN hi hq
        · exact fun i w w' hi h hq => h.oldR hN hi hq
      have hx12 : ∀ u u' w1, OldS w w1 → FiT b re t' [u] w1 → FiR gx re t' [u'] w1 → (eqGuard .neq 3 (.tmp 28) (.tmp 34) u u' >>= fun _ => binOp .neq 3 u u').run Try.prog w1 = .ok (.bool false) w1 ∧ FiB b gx t' [] w1 := by
        rintro u u' w1 h1 ⟨q1, q2⟩ ⟨q3, q4⟩
        injection q1 with q1
        injection q3 with q3
        subst q1 q3
        exact ⟨by go_simp, q2, q4⟩
      have r0 : ∀ y : Cls (fun W => OldS w W ∧ FiB b gx t' [] W), y.w.cell? ⟨gx, 0, none⟩ = some (.bool t'.s0.opn) := fun y => by have := y.h.2.2.cell 0; simpa [rfC] using this
      have r1 : ∀ y : Cls (fun W => OldS w W ∧ FiB b gx t' [] W), y.w.cell? ⟨gx, 1, none⟩ = some (.string t'.s0.wr) := fun y => by have := y.h.2.2.cell 1; simpa [rfC] using this
      have r2 : ∀ y : Cls (fun W => OldS w W ∧ FiB b gx t' [] W), y.w.cell? ⟨gx, 2, none⟩ = some (.int .i64 (t'.s0.rd : Int)) := fun y => by have := y.h.2.2.cell 2; simpa [rfC] using this
      have r3 : ∀ y : Cls (fun W => OldS w W ∧ FiB b gx t' [] W), y.w.cell? ⟨gx, 3, none⟩ = some (.bool t'.s0.cl) := fun y => by have := y.h.2.2.cell 3; simpa [rfC] using this
      have r4 : ∀ y : Cls (fun W => OldS w W ∧ FiB b gx t' [] W), y.w.cell? ⟨gx, 4, none⟩ = some (.bool t'.s0.eof) := fun y => by have := y.h.2.2.cell 4; simpa [rfC] using this
      have r5 : ∀ y : Cls (fun W => OldS w W ∧ FiB b gx t' [] W), y.w.cell? ⟨gx, 5, none⟩ = some (.bool t'.s0.dd) := fun y => by have := y.h.2.2.cell 5; simpa [rfC] using this
      have r6 : ∀ y : Cls (fun W => OldS w W ∧ FiB b gx t' [] W), y.w.cell? ⟨gx, 6, none⟩ = some (.bool t'.s1.opn) := fun y => by have := y.h.2.2.cell 6; simpa [rfC] using this
      have r7 : ∀ y : Cls (fun W => OldS w W ∧ FiB b gx t' [] W), y.w.cell? ⟨gx, 7, none⟩ = some (.string t'.s1.wr) := fun y => by have := y.h.2.2.cell 7; simpa [rfC] using this
      have r8 : ∀ y : Cls (fun W => OldS w W ∧ FiB b gx t' [] W), y.w.cell? ⟨gx, 8, none⟩ = some (.int .i64 (t'.s1.rd : Int)) := fun y => by have := y.h.2.2.cell 8; simpa [rfC] using this
      have r9 : ∀ y : Cls (fun W => OldS w W ∧ FiB b gx t' [] W), y.w.cell? ⟨gx, 9, none⟩ = some (.bool t'.s1.cl) := fun y => by have := y.h.2.2.cell 9; simpa [rfC] using this
      have r10 : ∀ y : Cls (fun W => OldS w W ∧ FiB b gx t' [] W), y.w.cell? ⟨gx, 10, none⟩ = some (.bool t'.s1.eof) := fun y => by have := y.h.2.2.cell 10; simpa [rfC] using this
      have r11 : ∀ y : Cls (fun W => OldS w W ∧ FiB b gx t' [] W), y.w.cell? ⟨gx, 11, none⟩ = some (.bool t'.s1.dd) := fun y => by have := y.h.2.2.cell 11; simpa [rfC] using this
      have r12 : ∀ y : Cls (fun W => OldS w W ∧ FiB b gx t' [] W), y.w.cell? ⟨gx, 12, none⟩ = some (.bool t'.cause) := fun y => by have := y.h.2.2.cell 12; simpa [rfC] using this
      have n0 := neq_same t'.s0
      have n1 := neq_same t'.s1
      have Hc5 := Lib.hid hc5
      clear hc5
      have Hc11 := Lib.hid hc11
      clear hc11
      have Hk0 := Lib.hid hk0
      clear hk0
      have Hk1 := Lib.hid hk1
      clear hk1
      have Hk2 := Lib.hid hk2
      clear hk2
      have Hk3 := Lib.hid hk3
      clear hk3
      have Hk4 := Lib.hid hk4
      clear hk4
      have Cf0 := Lib.hid cf0
      clear cf0
      have Cf1 := Lib.hid cf1
      clear cf1
      have Cf2 := Lib.hid cf2
      clear cf2
      have Cf3 := Lib.hid cf3
      clear cf3
      have Cf4 := Lib.hid cf4
      clear cf4
      have Cf5 := Lib.hid cf5
      clear cf5
      have HU0 := Lib.hid hU0
      clear hU0
      have HUs := Lib.hid hUs
      clear hUs
      have Hx12 := Lib.hid hx12
      clear hx12
      have StT := Lib.hid stT
      clear stT
      have StR := Lib.hid stR
      clear stR
      have StB := Lib.hid stB
      clear stB
      have Hszr := Lib.hid hszr
      clear hszr
      obtain ⟨Wk, hWk⟩ := twin_world t' hN hat hrf hB hb hgx
      have hneK : Nonempty (Cls (fun W => OldS w W ∧ FiB b gx t' [] W)) := ⟨⟨Wk, hWk⟩⟩
      clear hWk Wk
      have HneK := Lib.hid hneK
      clear hneK
      clear hdo hrdo hz hat hrf hB
      go_upto_region 8 with fail
      have ne : Nonempty (Cls (OldS w)) := ⟨⟨wr, hS0⟩⟩
      refine wp_region_flowu 49 (OldS w) (RU b gx t') [(5, fun W => TrAt W b t), (11, fun W => RfAt W gx t)] (by kernel_rfl) (by kernel_rfl) (by kernel_rfl) (RU.refl _ _ _) HUs.out HU0.out (OldS.drew hS0) ?_
      simp only [List.take_succ_cons, List.take_zero, List.drop_succ_cons, List.drop_zero]
      repeat (first
        | (refine flowu_quiet (RU.refl _ _ _) rfl rfl rfl rfl ?_; intro K hK; go_big_quiet_op; go_big_quiet_on))
      refine flowu_callX (FiT b re t') StT.out Cf0.out _ ?_ rfl Hc5.out rfl rfl wr ?_
      focus (simp only [List.map_toArray, List.map_cons, List.map_nil]; rfl)
      intro K hK; go_big_quiet_op; go_big_quiet_on
      repeat (first
        | (refine flowu_quiet (RU.refl _ _ _) rfl rfl rfl rfl ?_; intro K hK; go_big_quiet_op; go_big_quiet_on))
      refine flowu_callX (FiR gx re t') StR.out Cf1.out _ ?_ rfl Hc11.out rfl rfl wr ?_
      focus (simp only [List.map_toArray, List.map_cons, List.map_nil]; rfl)
      intro K hK; go_big_quiet_op; go_big_quiet_on
      refine flowu_two (.bool false) (FiB b gx t') StB.out (RU.refl _ _ _) 1 0 rfl rfl rfl rfl rfl rfl (by simp) (by simp) Hx12.out rfl rfl wr ?_
      intro K hK; go_big_quiet_op; go_big_quiet_on
      have neK : Nonempty (Cls (fun W => OldS w W ∧ FiB b gx t' [] W)) := HneK.out
      repeat (first
        | (refine flowu_keep (.bool false) 0 rfl rfl StB.out (RU.refl _ _ _) (fun _ => rfl) (fun _ _ h => by cases h) rfl rfl rfl wr ?_; intro K hK; go_big_quiet_op; go_big_quiet_on)
        | (refine flowu_quiet (RU.refl _ _ _) rfl rfl rfl rfl ?_; intro K hK; go_big_quiet_op; go_big_quiet_on)
        | (refine flowu_nilCheck ⟨gx, 0, none⟩ rfl (RU.refl _ _ _) rfl rfl rfl wr ?_; intro K hK; go_big_quiet_op; go_big_quiet_on)
        | (refine flowu_quietK 0 rfl rfl (RU.refl _ _ _) rfl rfl rfl rfl ?_; intro K hK; go_big_quiet_op; go_big_quiet_on)
        | (refine flowu_callK 0 rfl rfl Cf2.out _ ?_ rfl rfl rfl _ (Hk0.out _) wr ?_; (focus (simp only [List.map_toArray, List.map_cons, List.map_nil]; rfl)); intro K hK; go_big_quiet_op; go_big_quiet_on)
        | (refine flowu_callK 0 rfl rfl Cf2.out _ ?_ rfl rfl rfl _ (Hk1.out _) wr ?_; (focus (simp only [List.map_toArray, List.map_cons, List.map_nil]; rfl)); intro K hK; go_big_quiet_op; go_big_quiet_on)
        | (refine flowu_callK 0 rfl rfl Cf3.out _ ?_ rfl rfl rfl _ (Hk2.out _) wr ?_; (focus (simp only [List.map_toArray, List.map_cons, List.map_nil]; rfl)); intro K hK; go_big_quiet_op; go_big_quiet_on)
        | (refine flowu_callK 0 rfl rfl Cf4.out _ ?_ rfl rfl rfl _ (Hk3.out _) wr ?_; (focus (simp only [List.map_toArray, List.map_cons, List.map_nil]; rfl)); intro K hK; go_big_quiet_op; go_big_quiet_on)
        | (refine flowu_callK 0 rfl rfl Cf5.out _ ?_ rfl rfl rfl _ (Hk4.out _) wr ?_; (focus (simp only [List.map_toArray, List.map_cons, List.map_nil]; rfl)); intro K hK; go_big_quiet_op; go_big_quiet_on))
      refine flowu_nil ?_
      intro W f hW hF
      have hB2 : FiB b gx t' [] W := hF _ (.head _)
      have hrel : ∃ t, Twin w b gx t W := ⟨t', Hszr.out, hB2.1, hB2.2, hW⟩
      have Hrel := Lib.hid hrel
      clear hrel
      clear hF hB2 hW r0 r1 r2 r3 r4 r5 r6 r7 r8 r9 r10 r11 r12 n0 n1 ne neK hS0 z0 z1 z2
      clear HneK Hc5 Hc11 Hk0 Hk1 Hk2 Hk3 Hk4 Cf0 Cf1 Cf2 Cf3 Cf4 Cf5 HU0 HUs Hx12 StT StR StB Hszr
      simp only [fillW, Act.put, List.setIfInBounds_toArray, List.set_cons_succ, List.set_cons_zero]
      generalize f 28 = f28
      generalize f 34 = f34
      go_wp2
      go_roundw
      case rel => exact ⟨k + 1, by omega, by go_num, Hrel.out⟩
      case measure => simp [intOf]; omega
    · obtain rfl : k = len0 := by omega
      have e1 : decide (k < k) = false := by simp
      obtain ⟨ans, hans⟩ : ∃ a, a = allM T0 l 0 := ⟨_, rfl⟩
      have hc1 : ∀ W, ARow W a0 k l → Calls Try.prog 18 #[.slice a0 k cap0] W fun e w' => e = .returned (.tuple #[.int .i64 (ans.1 : Int), .int .i64 ans.2]) ∧ Below W.heap.size W w' := fun W h => by rw [hans]; exact all_at W a0 k cap0 l h (by omega) (fun j => Nat.le_trans (Hsm.out j) (by decide))
      have hc2 : ∀ W, ARow W a0 k l → Calls Try.prog 19 #[.slice a0 k cap0] W fun e w' => e = .returned (.tuple #[.int .i64 (ans.1 : Int), .int .i64 ans.2]) ∧ Below W.heap.size W w' := fun W h => by rw [hans]; exact rall_at W a0 k cap0 l h (by omega) (fun j => Nat.le_trans (Hsm.out j) (by decide))
      have hrowr := Hrow.out.below hB
      clear hans hrf hz
      have HB := Lib.hid hB
      have Hc1 := Lib.hid hc1
      clear hc1
      have Hc2 := Lib.hid hc2
      clear hc2
      have Hrowr := Lib.hid hrowr
      clear hrowr
      have Hat := Lib.hid hat
      clear hat
      clear hB
      go_wp2_with fail
      refine (Hc1.out _ Hrowr.out).mono ?_
      rintro e w5 ⟨rfl, hb5⟩
      have hB := HB.out.trans (hb5.mono HB.out.size)
      have hat := Hat.out.below hb5 Hat.out.lt
      have hrow5 := Hrow.out.below hB
      clear HB Hat hb5
      have HB := Lib.hid hB
      have Hat := Lib.hid hat
      clear hat
      have Hrow5 := Lib.hid hrow5
      clear hrow5
      clear hB
      go_wp2_with fail
      refine (Hc2.out _ Hrow5.out).mono ?_
      rintro e w6 ⟨rfl, hb6⟩
      have hB := HB.out.trans (hb6.mono HB.out.size)
      have hat := Hat.out.below hb6 Hat.out.lt
      clear HB Hat hb6
      have HB := Lib.hid hB
      have Hat := Lib.hid hat
      clear hat
      clear hB Hc1 Hc2 Hrowr Hrow5
      go_upto_region 13 with fail
      have hz7 := Blk.new w6 29 #[.bool false, .string ⟨#[]⟩, .int .i64 0, .bool false, .bool false, .bool false]
      have hbz : Below w6.heap.size w6 (w6.alloc (.cells #[.bool false, .string ⟨#[]⟩, .int .i64 0, .bool false, .bool false, .bool false] 29)) := (Below.refl _ _).alloc (Nat.le_refl _) _
      have hB := HB.out.trans (hbz.mono HB.out.size)
      have hat := Hat.out.below hbz Hat.out.lt
      obtain ⟨gz, hgz⟩ : ∃ gz, gz = w6.heap.size := ⟨_, rfl⟩
      rw [← hgz] at hz7 ⊢
      clear HB Hat hbz hgz
      generalize w6.alloc _ = w7 at *
      have hS0 : OldS w7 w7 := Below.refl _ _
      have k0 : ∀ y : Cls (OldS w7), y.w.cell? ⟨gz, 0, none⟩ = some (.bool false) := fun y => (y.h.cell (p := ⟨gz, 0, none⟩) hz7.lt).trans (hz7.cell 0)
      have k1 : ∀ y : Cls (OldS w7), y.w.cell? ⟨gz, 1, none⟩ = some (.string ⟨#[]⟩) := fun y => (y.h.cell (p := ⟨gz, 1, none⟩) hz7.lt).trans (hz7.cell 1)
      have k2 : ∀ y : Cls (OldS w7), y.w.cell? ⟨gz, 2, none⟩ = some (.int .i64 0) := fun y => (y.h.cell (p := ⟨gz, 2, none⟩) hz7.lt).trans (hz7.cell 2)
      have k3 : ∀ y : Cls (OldS w7), y.w.cell? ⟨gz, 3, none⟩ = some (.bool false) := fun y => (y.h.cell (p := ⟨gz, 3, none⟩) hz7.lt).trans (hz7.cell 3)
      have k4 : ∀ y : Cls (OldS w7), y.w.cell? ⟨gz, 4, none⟩ = some (.bool false) := fun y => (y.h.cell (p := ⟨gz, 4, none⟩) hz7.lt).trans (hz7.cell 4)
      have k5 : ∀ y : Cls (OldS w7), y.w.cell? ⟨gz, 5, none⟩ = some (.bool false) := fun y => (y.h.cell (p := ⟨gz, 5, none⟩) hz7.lt).trans (hz7.cell 5)
      have hm0 : ∀ y : Cls (OldS w7), Calls Try.prog 14 #[.pointer (some ⟨b, 0, none⟩), .int .i64 2] y.w fun e w'' => e = .returned (.agg #[.bool false, .string ⟨#[]⟩, .int .i64 0, .bool false, .bool false, .bool false]) ∧ OldS w7 w'' ∧ Below y.w.heap.size y.w w'' := fun y => (side_out y.w b t 2 (hat.below y.h hat.lt) (.inr (by decide))).mono fun e w' ⟨he, hb⟩ => ⟨he, OldS.below _ _ y.h hb, hb⟩
      have hm1 : ∀ y : Cls (OldS w7), Calls Try.prog 14 #[.pointer (some ⟨b, 0, none⟩), .int .i64 (-1)] y.w fun e w'' => e = .returned (.agg #[.bool false, .string ⟨#[]⟩, .int .i64 0, .bool false, .bool false, .bool false]) ∧ OldS w7 w'' ∧ Below y.w.heap.size y.w w'' := fun y => (side_out y.w b t (-1) (hat.below y.h hat.lt) (.inl (by decide))).mono fun e w' ⟨he, hb⟩ => ⟨he, OldS.below _ _ y.h hb, hb⟩
      have hm2 : ∀ y : Cls (OldS w7), Calls Try.prog 10 #[] y.w fun e w'' => e = .returned (.bool true) ∧ OldS w7 w'' ∧ Below y.w.heap.size y.w w'' := fun y => (alive31 y.w).mono fun e w' ⟨he, hb⟩ => ⟨he, OldS.below _ _ y.h hb, hb⟩
      have cf : ∀ (vals : Array Value) (w : World), (callFunc 14 vals).run Try.prog w = .ok (.enter 14 vals) w := fun _ _ => by kernel_rfl
      have cf2 : ∀ (vals : Array Value) (w : World), (callFunc 10 vals).run Try.prog w = .ok (.enter 10 vals) w := fun _ _ => by kernel_rfl
      have q0 : ∀ W, (binOp .eql 29 (.agg #[.bool false, .string ⟨#[]⟩, .int .i64 0, .bool false, .bool false, .bool false]) (.agg #[.bool false, .string ⟨#[]⟩, .int .i64 0, .bool false, .bool false, .bool false])).run Try.prog W = .ok (.bool true) W := fun _ => by kernel_rfl
      have Hm0 := Lib.hid hm0
      have Hm1 := Lib.hid hm1
      have Hm2 := Lib.hid hm2
      have Cf := Lib.hid cf
      have Cf2 := Lib.hid cf2
      have HB := Lib.hid hB
      clear hm0 hm1 hm2 cf cf2 hB hat hz7
      have ne : Nonempty (Cls (OldS w7)) := ⟨⟨w7, hS0⟩⟩
      refine wp_region_flow 24 (OldS w7) (fun w w' => Below w.heap.size w w') (by kernel_rfl) (by kernel_rfl) (by kernel_rfl) (fun w => Below.refl _ _) (OldS.drew hS0) ?_
      simp only [List.take_succ_cons, List.take_zero, List.drop_succ_cons, List.drop_zero]
      repeat (first
        | (refine flow_quiet (fun w => Below.refl _ _) rfl rfl rfl rfl ?_; intro K hK; go_big_quiet_op; go_big_quiet_on)
        | (refine flow_call Cf.out _ ?_ rfl rfl rfl _ Hm0.out w7 ?_; (focus (simp only [List.map_toArray, List.map_cons, List.map_nil]; rfl)); intro K hK; go_big_quiet_op; go_big_quiet_on)
        | (refine flow_call Cf.out _ ?_ rfl rfl rfl _ Hm1.out w7 ?_; (focus (simp only [List.map_toArray, List.map_cons, List.map_nil]; rfl)); intro K hK; go_big_quiet_op; go_big_quiet_on)
        | (refine flow_call Cf2.out _ ?_ rfl rfl rfl _ Hm2.out w7 ?_; (focus (simp)); intro K hK; go_big_quiet_op; go_big_quiet_on))
      refine flow_nil ?_
      intro W f hW hF
      have hBW := HB.out.trans (Below.mono hW HB.out.size)
      have HBW := Lib.hid hBW
      clear hBW hW hF k0 k1 k2 k3 k4 k5 q0 ne hS0
      simp only [fillW]
      go_wp2
      go_ret
      exact ⟨rfl, HBW.out⟩
theorem walk (a0 : Option Addr) (len0 cap0 : Nat) (w : World) (w0 : StrRows2 w [(.inl (.inl .i64)), (.inl (.inl .u8)), (.inl (.inr false))] a0 len0) :
    Calls Try.prog 3 #[.slice a0 len0 cap0] w fun e w' => e = .returned (.bool true) ∧ Below w.heap.size w w' := by
  obtain ⟨l, hl, hs⟩ := rows_acts w0
  have := w0.1
  unfold maxLen at this
  exact core a0 len0 cap0 l w hl hs (by omega)

theorem own : ownKnob Try.prog.godebug = none := by kernel_rfl
theorem laidOut : laidOutB Try.prog = true := by kernel_rfl
set_option maxRecDepth 100000 in
theorem lifted (os : Os) (started : os.Started) (H : Type) (enc : TypeId × Value → H) :
    ReturnsInHanded {} Try.checked os 3 .any (Rows.tracePlaysSpec.pre6 enc Try.prog Try.f3 Rows.tracePlaysRow.domain false) (Rows.tracePlaysSpec.post enc Try.prog Try.f3 false true false false) := by
  refine returnsInHanded_of_change_sized (C := Try.checked) own started (by kernel_rfl) Try.func3
    (ChangeSpec.witness6 (enc := enc) (C := Try.checked) false ⟨#[], #[.slice none 0 0], []⟩ 8 (by kernel_rfl) (by kernel_rfl) (by kernel_rfl) (by kernel_rfl)) ?_
  intro W base args ds gs before hval0 hW hcnd hsz0 _
  have hsz : (DataW.weightsEach Try.prog (Try.f3.params.toList ++ Rows.tracePlaysSpec.plain.varTypes Try.prog) (ds ++ gs)).all (· ≤ reachBytes) = true := hsz0
  have hval : ∀ (j : Nat) t v, Try.f3.params[j]? = some t → args[j]? = some v → Value.okWide Try.prog W .any base t v := hval0
  have hW' := hW
  obtain ⟨p, q, hA0, hV, rfl, hfz, hnd⟩ := hW
  have hA : DataW.TrodAll enc Try.prog W 0 (fun _ => true) true Try.f3.params.toList args.toList ds p := hA0
  rw [Try.params3] at hA hval
  obtain ⟨v0, vs0, d0, ds0, p0, q0, hargs, rfl, rfl, h0, r0⟩ := trodAll_cons hA
  obtain ⟨rfl, rfl, rfl⟩ := trodAll_nil r0
  obtain rfl : args = #[v0] := by cases args; simp_all
  obtain ⟨rfl, rfl⟩ := trodVars_none hV
  obtain ⟨a0, len0, cap0, rfl⟩ := okWide_slice Try.underlying22 (hval 0 22 v0 rfl rfl)
  have k0 := h0
  have lt0 : ∀ x ∈ p0, x.block < W.heap.size := by obtain ⟨m, hm⟩ := k0; exact DataW.trod_lt m _ _ _ hm
  have w0 : StrRows2 W [(.inl (.inl .i64)), (.inl (.inl .u8)), (.inl (.inr false))] a0 len0 := str_rows2 Try.underlying22 Try.underlying36 (by kernel_rfl) (by kernel_rfl) (by kernel_rfl) (by decide) h0 (reach_of hsz 0 rfl rfl)
  clear hA0 hval0
  refine (walk a0 len0 cap0 W w0).mono fun e W' ⟨he, bel⟩ => ?_
  subst he
  exact ⟨_, rfl, _, _, _, [], _, [], hW', trodAll_mk1 (shut_bool Try.underlying4 _), (trodAll_cons_mk (Below.trod laidOut (by kernel_rfl) (of_decide_eq_true (by kernel_rfl)) k0 bel lt0) trodAll_mk0), rfl, bel.frame _, fun h => by cases h⟩

theorem over : Rows.tracePlaysRow.holds Try.pinned (OpenSpec.ofChange Rows.tracePlaysSpec) :=
  OpenClaim.holds_of_wide 3 Try.f3 rfl rfl rfl rfl rfl rfl rfl ⟨rfl, rfl, rfl, rfl, rfl⟩ rfl rfl rfl rfl rfl (by kernel_rfl) Try.func3 (by kernel_rfl)
    (of_decide_eq_true (by kernel_rfl)) (by unfold Func.isWrapper; first | (rw [if_pos (by decide +kernel)]; kernel_rfl) | (rw [if_neg (by decide +kernel)]; exact ⟨rfl, rfl⟩))
    (fun os started H enc _ => lifted os started H enc)

/-- THE STATEMENT -/
theorem proved : Rows.TracePlaysSaid := over
#print axioms proved
end Go.Proofs.Ytcdbbdjabccjdaa.tracePlays
