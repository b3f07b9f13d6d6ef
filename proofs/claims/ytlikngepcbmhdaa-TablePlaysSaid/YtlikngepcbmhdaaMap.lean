/- A map in memory that reads as a function from keys to values, with so many entries: for any program, any type of keys that may be read. -/
import Derived.Test.YtlikngepcbmhdaaWords
import Derived.Maps.OwnOps
import Derived.Maps.OwnSet
import Derived.WideKeyEntry
set_option linter.unusedVariables false
set_option linter.unusedSimpArgs false
namespace Go.Proofs.Ytlikngepcbmhdaa
open Go.ChangeShapes Go.WideShapes Go.ChangeAt Go.RowKit Go.Maps
open Go.MapKept (Stamped)
open Go.ChangeMaps (setBlock)

/-- how any element reads: as itself -/
def asHeld (v : Value) : Option (DataW Value × List MemPlace) := some (.held v, [])

/-- block b is a map with n entries: M tells what stands at a key -/
def MapIs (P : Program) (k : TypeId) (w : World) (b n : Nat) (M : Lit → Option Value) : Prop :=
  ∃ D : DataW Value, w.ownsMap P k asHeld b n D ∧ Maps.size D = n ∧ ∀ kl, WideAt.IsKeyLit kl → ((M kl = none ∧ Maps.has D kl = false) ∨ ∃ v, M kl = some v ∧ Maps.has D kl = true ∧ ∀ z, D.atKey kl z = .held v)

open Classical in
/-- a function, changed at one key -/
noncomputable def updM (M : Lit → Option Value) (kl : Lit) (v : Option Value) : Lit → Option Value := fun x => if x = kl then v else M x
theorem updM_same (M : Lit → Option Value) (kl : Lit) (v : Option Value) : updM M kl v kl = v := by simp [updM]
theorem updM_other (M : Lit → Option Value) {kl x : Lit} (v : Option Value) (h : x ≠ kl) : updM M kl v x = M x := by simp [updM, h]

section
variable {P : Program} {k : TypeId} {w : World} {b n : Nat} {M : Lit → Option Value}

theorem MapIs.lt (h : MapIs P k w b n M) : b < w.heap.size := by obtain ⟨D, h1, _⟩ := h; exact h1.lt
theorem MapIs.kept {w' : World} {row : Option Nat} (h : MapIs P k w b n M) (hg : w.grownBy w' row) (hne : some b ≠ row) : MapIs P k w' b n M := by
  obtain ⟨D, h1, h2⟩ := h; exact ⟨D, h1.kept hg hne, h2⟩
theorem MapIs.alloc (h : MapIs P k w b n M) (o : Obj) : MapIs P k (w.alloc o) b n M := h.kept (World.grownBy_alloc w o none) (by simp)
theorem MapIs.drew (h : MapIs P k w b n M) : MapIs P k w.drew b n M := h
theorem MapIs.drewN (h : MapIs P k w b n M) (q : Nat) : MapIs P k (w.drewN q) b n M := h
theorem MapIs.setCell (h : MapIs P k w b n M) {a : Addr} (ha : b ≠ a.block) (u : Value) : MapIs P k (w.setCell a u) b n M := by
  obtain ⟨D, h1, h2⟩ := h; exact ⟨D, h1.setCell ha u, h2⟩
theorem MapIs.made (P : Program) (k : TypeId) (w : World) : MapIs P k (w.alloc (.map #[] 0)) w.heap.size 0 (fun _ => none) :=
  ⟨_, World.ownsMap_made w P k asHeld, rfl, fun kl _ => .inl ⟨rfl, rfl⟩⟩
theorem MapIs.below {w' : World} {N : Nat} (h : MapIs P k w b n M) (hb : Below N w w') (hN : b < N) : MapIs P k w' b n M := by
  obtain ⟨D, ⟨es, clock, h1, r⟩, h2⟩ := h
  exact ⟨D, ⟨es, clock, (hb.block b hN).trans h1, r⟩, h2⟩

/-- m[k] -/
theorem MapIs.look {t e : TypeId} (h : MapIs P k w b n M) (K : Keyed P k) (ht : P.underlying t = some (.map k e)) {z : Value} (hz : (zeroValue e).run P w = .ok z w)
    {key : Value} {kl : Lit} (hkey : keyOf P k key = some kl) : (Instr.lookup t (.map (some b)) key false).run P w = .ok ((M kl).getD z) w := by
  obtain ⟨D, h1, _, h2⟩ := h
  obtain ⟨v, ps, hr, hv⟩ := h1.lookup K ht hz (zd := .held z) rfl hkey
  rw [hr]
  simp only [asHeld, Option.some.injEq, Prod.mk.injEq] at hv
  rcases h2 kl (K.key hkey) with ⟨e1, e2⟩ | ⟨u, e1, e2, e3⟩
  · rw [atKey_of_not_has e2] at hv
    rw [e1]; injection hv.1 with e; rw [e]; rfl
  · rw [e3] at hv
    rw [e1]; injection hv.1 with e; rw [e]; rfl
/-- v, ok := m[k] -/
theorem MapIs.look_ok {t e : TypeId} (h : MapIs P k w b n M) (K : Keyed P k) (ht : P.underlying t = some (.map k e)) {z : Value} (hz : (zeroValue e).run P w = .ok z w)
    {key : Value} {kl : Lit} (hkey : keyOf P k key = some kl) : (Instr.lookup t (.map (some b)) key true).run P w = .ok (.tuple #[(M kl).getD z, .bool (M kl).isSome]) w := by
  obtain ⟨D, h1, _, h2⟩ := h
  obtain ⟨v, ps, hr, hv⟩ := h1.look_ok K ht hz (zd := .held z) rfl hkey
  rw [hr]
  simp only [asHeld, Option.some.injEq, Prod.mk.injEq] at hv
  rcases h2 kl (K.key hkey) with ⟨e1, e2⟩ | ⟨u, e1, e2, e3⟩
  · rw [atKey_of_not_has e2] at hv
    rw [e1, e2]; injection hv.1 with e; rw [e]; rfl
  · rw [e3] at hv
    rw [e1, e2]; injection hv.1 with e; rw [e]; rfl
/-- len(m) -/
theorem MapIs.len {t e : TypeId} (h : MapIs P k w b n M) (ht : P.underlying t = some (.map k e)) (ty : TypeId) : (Builtin.len_ #[t] ty #[.map (some b)]).run P w = .ok (.int .i64 n) w := by
  obtain ⟨D, h1, h2, _⟩ := h
  rw [h1.len ht ty, h2]
/-- m[k] = v -/
theorem MapIs.store {t e : TypeId} (h : MapIs P k w b n M) (K : Keyed P k) (ht : P.underlying t = some (.map k e)) (hn : n < maxLen) {key val : Value} {kl : Lit}
    (hkey : keyOf P k key = some kl) : ∃ w', (Instr.mapUpdate t (.map (some b)) key val).run P w = .ok () w' ∧ MapIs P k w' b (if (M kl).isSome then n else n + 1) (updM M kl (some val)) ∧ w.mapTurned w' b := by
  obtain ⟨D, h1, h3, h2⟩ := h
  obtain ⟨w', hr, ho, hg⟩ := h1.store K ht hn hkey (val := val) (d := .held val) (ps := []) rfl
  have hik := K.key hkey
  have hti := h1.tidy K
  have hsz : Maps.size (D.put kl (.held val)) = if (M kl).isSome then n else n + 1 := by
    rw [Maps.size_put hti, h3]
    rcases h2 kl hik with ⟨e1, e2⟩ | ⟨u, e1, e2, e3⟩ <;> rw [e1, e2] <;> rfl
  refine ⟨w', hr, ⟨D.put kl (.held val), ?_, hsz, ?_⟩, hg⟩
  · obtain ⟨es, clock, q1, q2, q3, q4⟩ := ho
    refine ⟨es, clock, q1, q2, ?_, q4⟩
    rw [← hsz, q4]
    simp [Maps.size, length_sorted]
  · intro x hx
    by_cases hxe : x = kl
    · subst hxe
      rw [updM_same]
      exact .inr ⟨val, rfl, has_put_same hti.isMap hx _, fun z => atKey_put_same hti.isMap hx _ z⟩
    · rw [updM_other M _ hxe]
      rcases h2 x hx with ⟨e1, e2⟩ | ⟨u, e1, e2, e3⟩
      · exact .inl ⟨e1, by rw [has_put_other hxe]; exact e2⟩
      · exact .inr ⟨u, e1, by rw [has_put_other hxe]; exact e2, fun z => by rw [atKey_put_other hxe]; exact e3 z⟩
/-- delete(m, k) -/
theorem MapIs.drop {t e : TypeId} (h : MapIs P k w b n M) (K : Keyed P k) (ht : P.underlying t = some (.map k e)) {key : Value} {kl : Lit} (hkey : keyOf P k key = some kl) (ty : TypeId) :
    ∃ w', (Builtin.delete_ #[t, k] ty #[.map (some b), key]).run P w = .ok (.tuple #[]) w' ∧ MapIs P k w' b (if (M kl).isSome then n - 1 else n) (updM M kl none) ∧ w.mapTurned w' b := by
  obtain ⟨D, h1, h3, h2⟩ := h
  obtain ⟨w', hr, ho, hg⟩ := h1.drop K ht hkey ty
  have hik := K.key hkey
  have hti := h1.tidy K
  have hsz : Maps.size (D.del kl) = if (M kl).isSome then n - 1 else n := by
    have := Maps.size_del (k := kl) hti
    rw [h3] at this
    rcases h2 kl hik with ⟨e1, e2⟩ | ⟨u, e1, e2, e3⟩ <;> rw [e2] at this <;> rw [e1] <;> simp at this ⊢ <;> omega
  refine ⟨w', hr, ⟨D.del kl, ?_, hsz, ?_⟩, hg⟩
  · obtain ⟨es, clock, q1, q2, q3, q4⟩ := ho
    refine ⟨es, clock, q1, q2, ?_, q4⟩
    rw [← hsz, q4]
    simp [Maps.size, length_sorted]
  · intro x hx
    by_cases hxe : x = kl
    · subst hxe
      rw [updM_same]
      exact .inl ⟨rfl, has_del_same⟩
    · rw [updM_other M _ hxe]
      rcases h2 x hx with ⟨e1, e2⟩ | ⟨u, e1, e2, e3⟩
      · exact .inl ⟨e1, by rw [has_del_other hxe]; exact e2⟩
      · exact .inr ⟨u, e1, by rw [has_del_other hxe]; exact e2, fun z => by rw [atKey_del_other hxe]; exact e3 z⟩
/-- so many entries -/
theorem MapIs.size (h : MapIs P k w b n M) : ∃ es clock, w.heap[b]? = some (.map es clock) ∧ es.size = n := by
  obtain ⟨D, ⟨es, clock, q1, q2, q3, q4⟩, h3, h2⟩ := h
  refine ⟨es, clock, q1, ?_⟩
  rw [q4] at h3
  simpa [Maps.size, length_sorted] using h3
/-- m[k] = v of a new key, in two steps: the entry is made, then it is written: what the block is ahead, between, and behind -/
theorem MapIs.entry {t e : TypeId} (h : MapIs P k w b n M) (K : Keyed P k) (ht : P.underlying t = some (.map k e)) (hn : n < maxLen) {z : Value} (hz : ∀ u : World, (zeroValue e).run P u = .ok z u) {key : Value} {kl : Lit} (hkey : keyOf P k key = some kl) (hno : M kl = none) :
    ∃ (st : Nat) (O0 O1 : Obj) (O2 : Value → Obj), w.heap[b]? = some O0 ∧ (∀ u : World, u.heap[b]? = some O0 → (Instr.mapEntry t (.map (some b)) key).run P u = .ok (.tuple #[z, goInt st]) (setBlock u b O1)) ∧
      (∀ (u : World) (val : Value), u.heap[b]? = some O1 → (Instr.entryStore t (.map (some b)) (goInt st) val).run P u = .ok () (setBlock u b (O2 val))) ∧
      (∀ (u : World) (val : Value), u.heap[b]? = some (O2 val) → MapIs P k u b (n + 1) (updM M kl (some val))) ∧ O0 ≠ O1 ∧ (∀ val, O2 val ≠ O0) ∧ ∀ val, val ≠ z → O2 val ≠ O1 := by
  obtain ⟨D, ⟨es, clock, hb, F, hs, hD⟩, h3, h2⟩ := h
  have hM : MapIs P k w b n M := ⟨D, ⟨es, clock, hb, F, hs, hD⟩, h3, h2⟩
  obtain ⟨s1, s2, _⟩ := F.stamped
  have hsz : es.size = n := by
    obtain ⟨es', clock', q1, q2⟩ := hM.size
    rw [hb] at q1
    injection q1 with q1
    injection q1 with q1 _
    rw [q1]; exact q2
  have fin : ∀ (val : Value) (es' : Array MapEntry) (clock' : Nat), (Instr.mapUpdate t (.map (some b)) key val).run P w = .ok () (setBlock w b (.map es' clock')) →
      es'.size = n + 1 ∧ ∀ u : World, u.heap[b]? = some (.map es' clock') → MapIs P k u b (n + 1) (updM M kl (some val)) := by
    intro val es' clock' hu
    obtain ⟨w', hr, hm, _⟩ := hM.store K ht hn hkey (val := val)
    rw [hu] at hr
    injection hr with _ hr
    subst hr
    rw [hno] at hm
    have hm : MapIs P k _ b (n + 1) (updM M kl (some val)) := hm
    obtain ⟨es2, clock2, q1, q2⟩ := hm.size
    rw [ChangeMaps.heap_setBlock_same hb] at q1
    injection q1 with q1
    injection q1 with q1 _
    refine ⟨by rw [q1]; exact q2, fun u hu2 => ?_⟩
    obtain ⟨D', ⟨es2, clock2, r1, r2⟩, hm2⟩ := hm
    rw [ChangeMaps.heap_setBlock_same hb] at r1
    exact ⟨D', ⟨es2, clock2, hu2.trans r1, r2⟩, hm2⟩
  rcases K.find w hkey es.toList F.keys with ⟨h1, h2⟩ | ⟨j, e0, h1, h2, h3⟩
  · have up : ∀ val, (Instr.mapUpdate t (.map (some b)) key val).run P w = .ok () (setBlock w b (.map (es.push ⟨key, val, clock⟩) (clock + 1))) := fun val => by
      simp [Instr.mapUpdate, run_underlying ht, MapKept.run_getObj_map hb, K.check w false hkey, h1, MapKept.run_setObj_map _ hb, Result.andThen, ChangeMaps.setBlock]
    refine ⟨clock, .map es clock, .map (es.push ⟨key, z, clock⟩) (clock + 1), fun val => .map (es.push ⟨key, val, clock⟩) (clock + 1), hb, fun u hu => ?_, fun u val hu => ?_, fun u val hu => (fin val _ _ (up val)).2 u hu, ?_, ?_, ?_⟩
    · have h1' : (Instr.findKey k key es.toList).run P u = .ok none u := by
        rcases K.find u hkey es.toList F.keys with ⟨q1, _⟩ | ⟨j, e0, q1, q2, q3⟩
        · exact q1
        · exact absurd q3 (h2 e0 (List.mem_of_getElem? q2))
      simp [Instr.mapEntry, run_underlying ht, MapKept.run_getObj_map hu, K.check u false hkey, h1', hz, MapKept.run_setObj_map _ hu, Result.andThen, ChangeMaps.setBlock]
    · have hidx : (es.push ⟨key, z, clock⟩).findIdx? (fun e => ((e.born : Nat) : Int) == ((clock : Nat) : Int)) = some es.size := by
        rw [WideElems.findIdx_arr]
        exact WideElems.findIdx_born (l := (es.push ⟨key, z, clock⟩).toList) (j := es.size) (e0 := ⟨key, z, clock⟩) (by
          simp only [Array.toList_push, List.map_append, List.map_cons, List.map_nil]
          refine List.nodup_append.2 ⟨s2, by simp, fun a ha c hc e1 => ?_⟩
          simp only [List.mem_singleton] at hc
          obtain ⟨x, hx, rfl⟩ := List.mem_map.1 ha
          have := s1 x hx
          omega) (by simp)
      have hmod : (es.push ⟨key, z, clock⟩).modify es.size (fun e => { e with val := val }) = es.push ⟨key, val, clock⟩ := by
        apply Array.ext'
        rw [Array.toList_modify, Array.toList_push, Array.toList_push, ← Array.length_toList, WideElems.modify_last]
      simp [Instr.entryStore, MapKept.run_getObj_map hu, asInt, asIntOf, goInt, hidx, hmod, MapKept.run_setObj_map _ hu, Result.andThen, ChangeMaps.setBlock]
    · intro e
      injection e with e _
      have := congrArg Array.size e
      simp at this
    · intro val e
      injection e with e _
      have := congrArg Array.size e
      simp at this
    · intro val hv e
      injection e with e _
      have := congrArg Array.toList e
      simp only [Array.toList_push] at this
      have := List.append_cancel_left this
      injection this with this _
      injection this with _ this _
      exact hv this
  · exfalso
    have hj : es[j]? = some e0 := by simpa using h2
    have := (fin z (es.modify j (fun e' => { e' with key := key, val := z })) clock (by
      simp [Instr.mapUpdate, run_underlying ht, MapKept.run_getObj_map hb, K.check w false hkey, h1, hj, h3, K.stays w hkey, MapKept.run_setObj_map _ hb, Result.andThen, ChangeMaps.setBlock])).1
    simp at this
    omega
/-- a block that holds a map is not written to by a turn of another one -/
theorem MapIs.turned {w' : World} {b2 : Nat} (h : MapIs P k w b n M) (ht : w.mapTurned w' b2) (hne : b ≠ b2) : MapIs P k w' b n M := h.kept ht.grown (by intro e; injection e with e; exact hne e)
theorem MapIs.congr {M' : Lit → Option Value} {n' : Nat} (h : MapIs P k w b n M) (hM : M = M') (hn : n = n') : MapIs P k w b n' M' := by subst hM hn; exact h
end

/-! at the operations, for the walk -/
section
variable {P : Program} {ops : Array Oper} {rest : List Oper} {o : Oper} {a : Act} {Q : Exit → Act → World → Prop}
theorem wpList_lookup_is (w : World) (hg : o.guard = none) (m x : Operand) (t : TypeId) (hop : o.op = Op.lookup t m x false)
    (k e : TypeId) (K : Keyed P k) (ht : P.underlying t = some (.map k e)) (z : Value) (hz : (zeroValue e).run P w = .ok z w) (b n : Nat) (M : Lit → Option Value)
    (hm : a.eval m = .map (some b)) (hown : MapIs P k w b n M) (key : Value) (kl : Lit) (hx : a.eval x = key) (hkey : keyOf P k key = some kl) (v : Value) (hv : (M kl).getD z = v)
    (hK : wpList P ops Q rest (a.put o.dst v) w) : wpList P ops Q (o :: rest) a w := by
  refine wpList_plain hg fun K' hK' => ?_
  unfold Oper.wp
  simp [execOp, hop, hm, hx, hown.look K ht hz hkey, Result.andThen, hv]
  exact hK' _ _ hK
theorem wpList_lookup_ok_is (w : World) (hg : o.guard = none) (m x : Operand) (t : TypeId) (hop : o.op = Op.lookup t m x true)
    (k e : TypeId) (K : Keyed P k) (ht : P.underlying t = some (.map k e)) (z : Value) (hz : (zeroValue e).run P w = .ok z w) (b n : Nat) (M : Lit → Option Value)
    (hm : a.eval m = .map (some b)) (hown : MapIs P k w b n M) (key : Value) (kl : Lit) (hx : a.eval x = key) (hkey : keyOf P k key = some kl) (v : Value) (hv : (M kl).getD z = v) (q : Bool) (hq : (M kl).isSome = q)
    (hK : wpList P ops Q rest (a.put o.dst (.tuple #[v, .bool q])) w) : wpList P ops Q (o :: rest) a w := by
  refine wpList_plain hg fun K' hK' => ?_
  unfold Oper.wp
  have hr := hown.look_ok K ht hz hkey
  rw [hv, hq] at hr
  simp [execOp, hop, hm, hx, hr, Result.andThen]
  exact hK' _ _ hK
theorem wpList_mapUpdate_is (w : World) (hg : o.guard = none) (m x v : Operand) (t : TypeId) (hop : o.op = Op.mapUpdate t m x v)
    (k e : TypeId) (K : Keyed P k) (ht : P.underlying t = some (.map k e)) (b n : Nat) (M : Lit → Option Value)
    (hm : a.eval m = .map (some b)) (hown : MapIs P k w b n M) (hn : n < maxLen) (key val : Value) (kl : Lit) (hx : a.eval x = key) (hv : a.eval v = val) (hkey : keyOf P k key = some kl)
    (hK : ∀ w', MapIs P k w' b (if (M kl).isSome then n else n + 1) (updM M kl (some val)) → w.mapTurned w' b → wpList P ops Q rest (a.put o.dst undef) w') : wpList P ops Q (o :: rest) a w := by
  refine wpList_plain hg fun K' hK' => ?_
  obtain ⟨w', hrun, r1, r2⟩ := hown.store K ht hn hkey (val := val)
  unfold Oper.wp
  simp [execOp, hop, hm, hx, hv, hrun, Result.andThen]
  exact hK' _ _ (hK w' r1 r2)
theorem wpList_delete_is (w : World) (hg : o.guard = none) (m x : Operand) (t k : TypeId) (hop : o.op = Op.call { callee := Callee.builtin Builtin.delete, args := #[m, x], argTypes := #[t, k] })
    (e : TypeId) (K : Keyed P k) (ht : P.underlying t = some (.map k e)) (b n : Nat) (M : Lit → Option Value)
    (hm : a.eval m = .map (some b)) (hown : MapIs P k w b n M) (key : Value) (kl : Lit) (hx : a.eval x = key) (hkey : keyOf P k key = some kl)
    (hK : ∀ w', MapIs P k w' b (if (M kl).isSome then n - 1 else n) (updM M kl none) → w.mapTurned w' b → wpList P ops Q rest (a.put o.dst (.tuple #[])) w') : wpList P ops Q (o :: rest) a w := by
  refine wpList_plain hg fun K' hK' => ?_
  obtain ⟨w', hrun, r1, r2⟩ := hown.drop K ht hkey o.type
  unfold Oper.wp
  simp [execOp, hop, resolve, invoke, builtin, hm, hx, hrun, Result.andThen]
  exact hK' _ _ (hK w' r1 r2)
theorem wpList_len_is (w : World) (hg : o.guard = none) (m : Operand) (t : TypeId) (hop : o.op = Op.call { callee := Callee.builtin Builtin.len, args := #[m], argTypes := #[t] })
    (k e : TypeId) (ht : P.underlying t = some (.map k e)) (b n : Nat) (M : Lit → Option Value) (hm : a.eval m = .map (some b)) (hown : MapIs P k w b n M)
    (hK : wpList P ops Q rest (a.put o.dst (.int .i64 n)) w) : wpList P ops Q (o :: rest) a w := by
  refine wpList_plain hg fun K' hK' => ?_
  unfold Oper.wp
  simp [execOp, hop, resolve, invoke, builtin, hm, hown.len ht o.type, Result.andThen]
  exact hK' _ _ hK
end
end Go.Proofs.Ytlikngepcbmhdaa
