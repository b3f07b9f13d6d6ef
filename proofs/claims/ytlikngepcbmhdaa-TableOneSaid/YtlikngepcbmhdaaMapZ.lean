/- A map's entry made and written, once more: made, it is as if the zero had been written. -/
import Derived.Test.YtlikngepcbmhdaaMap
set_option linter.unusedVariables false
set_option linter.unusedSimpArgs false
namespace Go.Proofs.Ytlikngepcbmhdaa
open Go.ChangeShapes Go.WideShapes Go.ChangeAt Go.RowKit Go.Maps
open Go.MapKept (Stamped)
open Go.ChangeMaps (setBlock)

section
variable {P : Program} {k : TypeId} {w : World} {b n : Nat} {M : Lit → Option Value}
theorem MapIs.entryZ {t e : TypeId} (h : MapIs P k w b n M) (K : Keyed P k) (ht : P.underlying t = some (.map k e)) (hn : n < maxLen) {z : Value} (hz : ∀ u : World, (zeroValue e).run P u = .ok z u) {key : Value} {kl : Lit} (hkey : keyOf P k key = some kl) (hno : M kl = none) :
    ∃ (st : Nat) (O0 O1 : Obj) (O2 : Value → Obj), w.heap[b]? = some O0 ∧ (∀ u : World, u.heap[b]? = some O0 → (Instr.mapEntry t (.map (some b)) key).run P u = .ok (.tuple #[z, goInt st]) (setBlock u b O1)) ∧
      (∀ (u : World) (val : Value), u.heap[b]? = some O1 → (Instr.entryStore t (.map (some b)) (goInt st) val).run P u = .ok () (setBlock u b (O2 val))) ∧
      (∀ (u : World) (val : Value), u.heap[b]? = some (O2 val) → MapIs P k u b (n + 1) (updM M kl (some val))) ∧ O0 ≠ O1 ∧ (∀ val, O2 val ≠ O0) ∧ (∀ val, val ≠ z → O2 val ≠ O1) ∧ O2 z = O1 := by
  obtain ⟨D, ⟨es, clock, hb, F, hs, hD⟩, h3, h2⟩ := h
  have hM : MapIs P k w b n M := ⟨D, ⟨es, clock, hb, F, hs, hD⟩, h3, h2⟩
  obtain ⟨s1, s2, _⟩ := F.stamped
  have hsz : es.size = n := by
    obtain ⟨es', clock', q1, q2⟩ := hM.size
    rw [hb] at q1
    injection q1 with q1
    injection q1 with q1 _
    rw [q1]; exact q2
  have fin : ∀ (val : Value) (es' : Array MapEntry) (clock' : Nat), (Instr.mapUpdate t (.map (some b)) key val).run P w = .ok () (setBlock w b (.map es' clock')) →
      es'.size = n + 1 ∧ ∀ u : World, u.heap[b]? = some (.map es' clock') → MapIs P k u b (n + 1) (updM M kl (some val)) := by
    intro val es' clock' hu
    obtain ⟨w', hr, hm, _⟩ := hM.store K ht hn hkey (val := val)
    rw [hu] at hr
    injection hr with _ hr
    subst hr
    rw [hno] at hm
    have hm : MapIs P k _ b (n + 1) (updM M kl (some val)) := hm
    obtain ⟨es2, clock2, q1, q2⟩ := hm.size
    rw [ChangeMaps.heap_setBlock_same hb] at q1
    injection q1 with q1
    injection q1 with q1 _
    refine ⟨by rw [q1]; exact q2, fun u hu2 => ?_⟩
    obtain ⟨D', ⟨es2, clock2, r1, r2⟩, hm2⟩ := hm
    rw [ChangeMaps.heap_setBlock_same hb] at r1
    exact ⟨D', ⟨es2, clock2, hu2.trans r1, r2⟩, hm2⟩
  rcases K.find w hkey es.toList F.keys with ⟨h1, h2⟩ | ⟨j, e0, h1, h2, h3⟩
  · have up : ∀ val, (Instr.mapUpdate t (.map (some b)) key val).run P w = .ok () (setBlock w b (.map (es.push ⟨key, val, clock⟩) (clock + 1))) := fun val => by
      simp [Instr.mapUpdate, run_underlying ht, MapKept.run_getObj_map hb, K.check w false hkey, h1, MapKept.run_setObj_map _ hb, Result.andThen, ChangeMaps.setBlock]
    refine ⟨clock, .map es clock, .map (es.push ⟨key, z, clock⟩) (clock + 1), fun val => .map (es.push ⟨key, val, clock⟩) (clock + 1), hb, fun u hu => ?_, fun u val hu => ?_, fun u val hu => (fin val _ _ (up val)).2 u hu, ?_, ?_, ?_, rfl⟩
    · have h1' : (Instr.findKey k key es.toList).run P u = .ok none u := by
        rcases K.find u hkey es.toList F.keys with ⟨q1, _⟩ | ⟨j, e0, q1, q2, q3⟩
        · exact q1
        · exact absurd q3 (h2 e0 (List.mem_of_getElem? q2))
      simp [Instr.mapEntry, run_underlying ht, MapKept.run_getObj_map hu, K.check u false hkey, h1', hz, MapKept.run_setObj_map _ hu, Result.andThen, ChangeMaps.setBlock]
    · have hidx : (es.push ⟨key, z, clock⟩).findIdx? (fun e => ((e.born : Nat) : Int) == ((clock : Nat) : Int)) = some es.size := by
        rw [WideElems.findIdx_arr]
        exact WideElems.findIdx_born (l := (es.push ⟨key, z, clock⟩).toList) (j := es.size) (e0 := ⟨key, z, clock⟩) (by
          simp only [Array.toList_push, List.map_append, List.map_cons, List.map_nil]
          refine List.nodup_append.2 ⟨s2, by simp, fun a ha c hc e1 => ?_⟩
          simp only [List.mem_singleton] at hc
          obtain ⟨x, hx, rfl⟩ := List.mem_map.1 ha
          have := s1 x hx
          omega) (by simp)
      have hmod : (es.push ⟨key, z, clock⟩).modify es.size (fun e => { e with val := val }) = es.push ⟨key, val, clock⟩ := by
        apply Array.ext'
        rw [Array.toList_modify, Array.toList_push, Array.toList_push, ← Array.length_toList, WideElems.modify_last]
      simp [Instr.entryStore, MapKept.run_getObj_map hu, asInt, asIntOf, goInt, hidx, hmod, MapKept.run_setObj_map _ hu, Result.andThen, ChangeMaps.setBlock]
    · intro e
      injection e with e _
      have := congrArg Array.size e
      simp at this
    · intro val e
      injection e with e _
      have := congrArg Array.size e
      simp at this
    · intro val hv e
      injection e with e _
      have := congrArg Array.toList e
      simp only [Array.toList_push] at this
      have := List.append_cancel_left this
      injection this with this _
      injection this with _ this _
      exact hv this
  · exfalso
    have hj : es[j]? = some e0 := by simpa using h2
    have := (fin z (es.modify j (fun e' => { e' with key := key, val := z })) clock (by
      simp [Instr.mapUpdate, run_underlying ht, MapKept.run_getObj_map hb, K.check w false hkey, h1, hj, h3, K.stays w hkey, MapKept.run_setObj_map _ hb, Result.andThen, ChangeMaps.setBlock])).1
    simp at this
    omega
end
end Go.Proofs.Ytlikngepcbmhdaa
