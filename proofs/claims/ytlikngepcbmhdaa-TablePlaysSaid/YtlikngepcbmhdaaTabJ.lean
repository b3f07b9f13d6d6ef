/- Layer 12 (table), of numbers: New, of, Get, Find, Len. -/
import Derived.Test.YtlikngepcbmhdaaTabI
import Derived.Test.YtlikngepcbmhdaaTabB
import Derived.Deep.DeepCutAuto
import Derived.StillTailTactics
set_option linter.unusedVariables false
set_option linter.unusedSimpArgs false
namespace Go.Proofs.Ytlikngepcbmhdaa
open Go.ChangeShapes Go.WideShapes Go.ChangeAt Go.RowKit Go.Maps

theorem zent_i (u : World) : (zeroValue 68).run Try.prog u = .ok (.pointer none) u := by kernel_rfl
set_option maxRecDepth 100000 in
set_option maxHeartbeats 1000000 in
theorem new_i (w : World) (most : Nat) (h : most ≤ 1024) : Calls Try.prog 7 #[.int .i64 (most : Int)] w (NewPost TI most w) := by
  have hp := new_post (T := TI) (w := w) (most := most)
  obtain ⟨N, hN⟩ : ∃ N : Int, N = (most : Int) := ⟨_, rfl⟩
  have i1 : 0 ≤ N := by omega
  have i2 : N ≤ 1024 := by omega
  rw [← hN] at hp ⊢
  have Hp := Lib.hid hp
  have m1 : ∀ W : World, (Instr.makeMap 64 none).run Try.prog W = .ok (.map (some W.heap.size)) (W.alloc (.map #[] 0)) := fun _ => by kernel_rfl
  have m2 : ∀ W : World, (Instr.makeMap 65 none).run Try.prog W = .ok (.map (some W.heap.size)) (W.alloc (.map #[] 0)) := fun _ => by kernel_rfl
  clear hp hN h
  go_enter Try.func7, Try.ntmps7
  go_wp2
  go_ret2
  exact Hp.out
set_option maxRecDepth 100000 in
set_option maxHeartbeats 1000000 in
theorem of_i (w : World) (t : Nat) (s : Tab) (id : Nat) (h : TabAt TI w t s) (hid : id < 18446744073709551616) : Calls Try.prog 25 #[.pointer (some ⟨t, 0, none⟩), .int .u64 (id : Int)] w fun e w' => e = .returned (ofV s id) ∧ w = w' := by
  have hl := h.look_all Try.underlying64 zent_i hid
  have hc2 := h.blk.cell 2
  simp [tabCells] at hc2
  generalize ofV s id = v at *
  generalize s.ba = ba at *
  generalize (id : Int) = i at *
  clear h hid
  go_enter Try.func25, Try.ntmps25
  go_wp2
  go_ret
  exact ⟨rfl, rfl⟩
set_option maxRecDepth 100000 in
set_option maxHeartbeats 1000000 in
theorem len_i (w : World) (t : Nat) (s : Tab) (h : TabAt TI w t s) : Calls Try.prog 11 #[.pointer (some ⟨t, 0, none⟩)] w fun e w' => e = .returned (.int .i64 (s.n : Int)) ∧ w = w' := by
  have hl := h.all_.len Try.underlying64 3
  have hc2 := h.blk.cell 2
  simp [tabCells] at hc2
  generalize s.ba = ba at *
  generalize (s.n : Int) = i at *
  clear h
  go_enter Try.func11, Try.ntmps11
  go_wp2
  go_ret
  exact ⟨rfl, rfl⟩
/-- an entry that is there -/
theorem get_i (w : World) (t : Nat) (s : Tab) (id : Nat) (e : Ent) (v : Int) (h : TabAt TI w t s) (hid : id < 18446744073709551616) (he : s.E id = some e) (hv : e.v = .int .i64 v) : Calls Try.prog 22 #[.pointer (some ⟨t, 0, none⟩), .int .u64 (id : Int)] w fun e w' => e = .returned (.tuple #[.int .i64 v, .bool true]) ∧ w = w' := by
  have ho := of_i w t s id h hid
  have hv' : ofV s id = entPtr e := by unfold ofV; rw [he]
  have hc0 := (h.ents id e he).2.2.1.cell 0
  simp [entCells] at hc0
  rw [hv] at hc0
  rw [hv'] at ho
  unfold entPtr at ho
  generalize e.blk = g at *
  generalize (id : Int) = i at *
  have Ho := Lib.hid ho
  clear h hid he hv hv' ho
  go_enter Try.func22, Try.ntmps22
  go_wp2_with fail
  (with_reducible refine (Ho.out).mono ?_)
  rintro e w' ⟨rfl, rfl⟩
  go_wp2
  go_ret2
  exact ⟨rfl, rfl⟩
theorem get_no_i (w : World) (t : Nat) (s : Tab) (id : Nat) (h : TabAt TI w t s) (hid : id < 18446744073709551616) (he : s.E id = none) : Calls Try.prog 22 #[.pointer (some ⟨t, 0, none⟩), .int .u64 (id : Int)] w fun e w' => e = .returned (.tuple #[.int .i64 0, .bool false]) ∧ w = w' := by
  have ho := of_i w t s id h hid
  have hv' : ofV s id = .pointer none := by unfold ofV; rw [he]
  rw [hv'] at ho
  generalize (id : Int) = i at *
  have Ho := Lib.hid ho
  clear h hid he hv' ho
  go_enter Try.func22, Try.ntmps22
  go_wp2_with fail
  (with_reducible refine (Ho.out).mono ?_)
  rintro e w' ⟨rfl, rfl⟩
  go_wp2
  go_ret2
  exact ⟨rfl, rfl⟩
set_option maxRecDepth 100000 in
set_option maxHeartbeats 1000000 in
theorem find_no_i (w : World) (t : Nat) (s : Tab) (p : Pr) (h : TabAt TI w t s) (hp : p.wf) (hby : s.by_ p = 0) :
    Calls Try.prog 19 #[.pointer (some ⟨t, 0, none⟩), .agg #[.int .u32 p.a, .int .u16 p.b, .int .u32 p.c, .int .u16 p.d]] w fun e w' => e = .returned (.tuple #[.int .u64 0, .int .u8 0]) ∧ Below w.heap.size w w' := by
  have hl := fun o n => ((h.alloc o).drewN n).look_by hp
  rw [hby] at hl
  have hc3 := h.blk.cell 3
  have hlt := h.blk.lt
  simp [tabCells] at hc3
  generalize s.bb = bb at *
  clear hby h
  obtain ⟨pa, pb, pc, pd⟩ := p
  clear hp
  go_enter Try.func19, Try.ntmps19
  go_wp2
  go_quiet (fail)
  go_wp2
  go_ret2
  exact ⟨rfl, below_drewN ((Below.refl _ _).alloc (Nat.le_refl _) _) _⟩
set_option maxRecDepth 100000 in
set_option maxHeartbeats 1000000 in
theorem find_i (w : World) (t : Nat) (s : Tab) (p : Pr) (e : Ent) (id : Nat) (h : TabAt TI w t s) (hp : p.wf) (hid : id = s.by_ p) (hby : id ≠ 0) (he : s.E id = some e) :
    Calls Try.prog 19 #[.pointer (some ⟨t, 0, none⟩), .agg #[.int .u32 p.a, .int .u16 p.b, .int .u32 p.c, .int .u16 p.d]] w fun e' w' => e' = .returned (.tuple #[.int .u64 (id : Int), .int .u8 (if e.near = p then 1 else 2)]) ∧ Below w.heap.size w w' := by
  have hi1 := (h.ents id e he).2.1
  have hi2 := h.last_le
  have hl := fun o n => ((h.alloc o).drewN n).look_by hp
  rw [← hid] at hl
  have ha := fun o n => ((h.alloc o).drewN n).look_all Try.underlying64 zent_i (id := id) (by omega)
  have hv' : ofV s id = entPtr e := by unfold ofV; rw [he]
  rw [hv'] at ha
  unfold entPtr at ha
  have hc2 := h.blk.cell 2
  have hc3 := h.blk.cell 3
  have hlt := h.blk.lt
  simp [tabCells] at hc2 hc3
  have hk := (h.ents id e he).2.2.1
  have hgt := hk.lt
  have d1 := hk.cell 1
  have d2 := hk.cell 2
  have d3 := hk.cell 3
  have d4 := hk.cell 4
  simp [entCells] at d1 d2 d3 d4
  generalize e.blk = g at *
  have heq := eq_pair e.near p
  generalize s.bb = bb at *
  generalize s.ba = ba at *
  have i1 : ((id : Int) == 0) = false := by simp; omega
  generalize (id : Int) = i at *
  generalize e.near = nr at *
  obtain ⟨na, nb, nc, nd⟩ := nr
  obtain ⟨pa, pb, pc, pd⟩ := p
  simp only at d1 d2 d3 d4 heq
  by_cases hq : (⟨na, nb, nc, nd⟩ : Pr) = ⟨pa, pb, pc, pd⟩
  · rw [if_pos hq]
    simp only [hq, decide_true] at heq
    clear hby h he hid hv' hk hi1 hi2 hp hq
    go_enter Try.func19, Try.ntmps19
    go_wp2
    go_quiet (fail)
    go_wp2
    go_quiet (fail)
    go_wp2
    go_quiet (fail)
    go_wp2
    go_ret2
    exact ⟨rfl, below_drewN (below_drewN (below_drewN ((Below.refl _ _).alloc (Nat.le_refl _) _) _) _) _⟩
  · rw [if_neg hq]
    simp only [hq, decide_false] at heq
    clear hby h he hid hv' hk hi1 hi2 hp hq
    go_enter Try.func19, Try.ntmps19
    go_wp2
    go_quiet (fail)
    go_wp2
    go_quiet (fail)
    go_wp2
    go_quiet (fail)
    go_wp2
    go_ret2
    exact ⟨rfl, below_drewN (below_drewN (below_drewN ((Below.refl _ _).alloc (Nat.le_refl _) _) _) _) _⟩
set_option maxRecDepth 100000 in
set_option maxHeartbeats 1000000 in
theorem drop_i (w : World) (t r : Nat) (s : Tab) (l : List Nat) (cs : Array Value) (h : TabAt TI w t s) (hl : ∀ x ∈ l, x < 18446744073709551616) (hcs : cs = (l.map fun (x : Nat) => Value.int .u64 (x : Int)).toArray) (hr : Blk w r 26 cs) (hlen : l.length ≤ 1000) :
    Calls Try.prog 10 #[.pointer (some ⟨t, 0, none⟩), .slice (some ⟨r, 0, none⟩) l.length l.length] w (DropPost TI w t s l) := by
  have hrel0 : DropRel TI w t s l 0 0 w := ⟨Nat.zero_le _, rfl, h, Out.refl _ _⟩
  have hno : ¬ Own t s r := by
    rintro (e | e | e | ⟨i, e, he, hb⟩)
    · subst e; exact Blk.ne_ h.blk hr (by decide) rfl
    · subst e; obtain ⟨es, c, q1, _⟩ := h.all_.size; unfold Blk at hr; rw [q1] at hr; injection hr with hr; injection hr
    · subst e; obtain ⟨M2, q, _⟩ := h.by_; obtain ⟨es, c, q1, _⟩ := q.size; unfold Blk at hr; rw [q1] at hr; injection hr with hr; injection hr
    · subst hb; exact Blk.ne_ (h.ents i e he).2.2.1 hr (by decide) rfl
  have hread : ∀ W, Out (Own t s) w W → Blk W r 26 cs := fun W ho => hr.of_eq (ho.block r hr.lt hno)
  obtain ⟨n, hn⟩ : ∃ n, n = l.length := ⟨_, rfl⟩
  have i1 : (n : Int) ≤ 1000 := by omega
  rw [← hn]
  have Hn := Lib.hid hn
  clear hn
  have Hl := Lib.hid hl
  clear hl
  have Hcs := Lib.hid hcs
  clear hcs
  have Hrel0 := Lib.hid hrel0
  clear hrel0
  have Hread := Lib.hid hread
  clear hread
  clear hno h hr hlen
  go_enter Try.func10, Try.ntmps10
  go_wp2
  go_loopw [4, 10] (fun c i wr => ∃ k cc : Nat, i = .int .i64 (k : Int) ∧ c = .int .i64 (cc : Int) ∧ DropRel TI w t s l k cc wr) (fun _ i _ => n - (intOf i).toNat)
  case atStart => exact ⟨0, 0, rfl, rfl, Hrel0.out⟩
  case round =>
    clear Hrel0
    obtain ⟨k, cc, rfl, rfl, hkl, hcc, ht, ho⟩ := hrel
    rw [← Hn.out] at hkl
    have i3 : (cc : Int) ≤ 1000 := by
      have := dropN_le (l.take k) s
      have h2 : (l.take k).length ≤ k := List.length_take_le _ _
      omega
    have i4 : (0 : Int) ≤ (cc : Int) := by omega
    by_cases hk : k < n
    · have i2 : (k : Int) < (n : Int) := by omega
      have hkk : k < l.length := by rw [← Hn.out]; exact hk
      obtain ⟨id, hid⟩ : ∃ id, id = l[k] := ⟨_, rfl⟩
      have hidb : id < 18446744073709551616 := by rw [hid]; exact Hl.out _ (List.getElem_mem hkk)
      have htk : l.take (k + 1) = l.take k ++ [id] := by rw [hid, List.take_succ_eq_append_getElem hkk]
      have hck : wr.cell? ⟨r, k, none⟩ = some (.int .u64 (id : Int)) := by
        rw [(Hread.out wr ho).cell k, Hcs.out, hid]
        simp [hkk]
      have hbk := (Hread.out wr ho).lt
      obtain ⟨s', hs'⟩ : ∃ s', s' = dropAll s (l.take k) := ⟨_, rfl⟩
      rw [← hs'] at ht
      have hnext : ∀ W c, TabAt TI W t (dropT s' id) → Out (Own t s') wr W → c = cc + hasN s' id → DropRel TI w t s l (k + 1) c W := by
        intro W c h1 h2 h3
        refine ⟨hkk, ?_, ?_, ?_⟩
        · rw [h3, htk, dropN_snoc, ← hs', hcc]
        · rw [htk, dropAll_snoc, ← hs']; exact h1
        · exact Out.trans ho h2 (fun i _ hi => by rw [hs'] at hi; exact Own.dropAll hi)
      have hof := of_i wr t s' id ht hidb
      have Ht := Lib.hid ht
      clear ht
      have Hnext := Lib.hid hnext
      clear hnext
      have Hof := Lib.hid hof
      clear hof
      have Hcc := Lib.hid hcc
      clear hcc
      have Htk := Lib.hid htk
      clear htk
      have Hidb := Lib.hid hidb
      clear hidb
      clear hkl hk hkk hid hs' ho
      cases he : s'.E id with
      | none =>
        have hv : ofV s' id = .pointer none := by unfold ofV; rw [he]
        have hrel : DropRel TI w t s l (k + 1) cc wr := by
          refine Hnext.out wr cc ?_ (Out.refl _ _) (by unfold hasN; rw [he]; rfl)
          unfold dropT
          rw [he]
          exact Ht.out
        have hof2 := Hof.out
        rw [hv] at hof2
        have Hof2 := Lib.hid hof2
        clear hof2
        have Hrel := Lib.hid hrel
        clear hrel
        have He := Lib.hid he
        clear he
        clear hv Hof Hnext
        generalize (id : Int) = idI at *
        go_wp2_with fail
        (with_reducible refine (Hof2.out).mono ?_)
        rintro e w' ⟨rfl, rfl⟩
        go_wp2
        go_roundw
        case rel => exact ⟨k + 1, cc, by go_num, rfl, Hrel.out⟩
        case measure => simp [intOf]; omega
      | some e =>
        have hv : ofV s' id = .pointer (some ⟨e.blk, 0, none⟩) := by unfold ofV; rw [he]; rfl
        have hof2 := Hof.out
        rw [hv] at hof2
        have htt := Ht.out
        have hk := htt.blk
        obtain ⟨hi1, hi2, hke, hwn, hwf⟩ := htt.ents id e he
        obtain ⟨hln, hlf⟩ := htt.led id e he
        have hma := htt.all_
        obtain ⟨M, hmb, hM⟩ := htt.by_
        have hla := hma.lt
        have hlb := hmb.lt
        have hlt := hk.lt
        have hle := hke.lt
        have hdiff := htt.diff
        have nbt : s'.bb ≠ t := fun e1 => by obtain ⟨es, c, q1, _⟩ := hmb.size; unfold Blk at hk; rw [← e1, q1] at hk; injection hk with hk; injection hk
        have nbe : s'.bb ≠ e.blk := fun e1 => by obtain ⟨es, c, q1, _⟩ := hmb.size; unfold Blk at hke; rw [← e1, q1] at hke; injection hke with hke; injection hke
        have hMn : (M (pairL e.near)).isSome = true := by rw [hM _ hwn, hln, if_neg (by omega)]; rfl
        have hMf : e.bound = true → (updM M (pairL e.near) none (pairL e.far)).isSome = true := fun hb => by
          rw [updM_other _ _ (fun q => (hlf hb).2 (pairL_inj hwn hwf q.symm)), hM _ hwf, (hlf hb).1, if_neg (by omega)]; rfl
        have hAi : (allM s'.E (.int .u64 (id : Int))).isSome = true := by unfold allM; simp [he]
        have hki := key_u64 Hidb.out
        have kn := key_pair hwn
        have kf := key_pair hwf
        have hone : hasN s' id = 1 := by unfold hasN; rw [he]; rfl
        have hend : ∀ w7 mm MM, (Blk w7 t 67 (tabCells s')) → MapIs Try.prog 26 w7 s'.ba s'.n (allM s'.E) → MapIs Try.prog 34 w7 s'.bb mm MM → mm = (if e.bound then s'.m - 1 - 1 else s'.m - 1) → MM = (if e.bound then updM (updM M (pairL e.near) none) (pairL e.far) none else updM M (pairL e.near) none) → Out (fun i => i = s'.bb) wr w7 →
            ∀ w8, MapIs Try.prog 26 w8 s'.ba (if (allM s'.E (.int .u64 (id : Int))).isSome then s'.n - 1 else s'.n) (updM (allM s'.E) (.int .u64 (id : Int)) none) → w7.mapTurned w8 s'.ba → DropRel TI w t s l (k + 1) (cc + 1) w8 := by
          intro w7 mm MM h1 h2 h3 h4 h5 h6 w8 h7 h8
          rw [hAi, if_pos rfl] at h7
          have ho8 : Out (fun i => i = t ∨ i = s'.ba ∨ i = s'.bb) wr w8 := Out.trans (h6.mono fun i _ hi => .inr (.inr hi)) (Out.grown (O := fun i => i = s'.ba) h8.grown rfl) (fun i _ hi => .inr (.inl hi))
          refine Hnext.out w8 _ (drop_at htt he (h1.grown h8.grown ?_) hM h7 ?_ ho8 (by decide)) (ho8.mono ?_) (by rw [hone])
          · intro e1
            injection e1 with e1
            obtain ⟨es, c, q1, _⟩ := h2.size
            unfold Blk at h1; rw [e1, q1] at h1; injection h1 with h1; injection h1
          · rw [← h4, ← h5]
            exact h3.turned h8 hdiff.symm
          · rintro i _ (e1 | e1 | e1)
            · exact .inl e1
            · exact .inr (.inl e1)
            · exact .inr (.inr (.inl e1))
        obtain ⟨nr, hnr⟩ : ∃ nr, nr = e.near := ⟨_, rfl⟩
        obtain ⟨fr, hfr⟩ : ∃ fr, fr = e.far := ⟨_, rfl⟩
        have d : ∀ i, wr.cell? ⟨e.blk, i, none⟩ = (entCells e)[i]? := fun i => hke.cell i
        have d1 := d 1
        have d2 := d 2
        have d3 := d 3
        have d4 := d 4
        have d5 := d 5
        have d6 := d 6
        have d7 := d 7
        have d8 := d 8
        have d9 := d 9
        simp [entCells] at d1 d2 d3 d4 d5 d6 d7 d8 d9
        rw [← hnr] at d1 d2 d3 d4 kn hMn hMf hend
        rw [← hfr] at d5 d6 d7 d8 kf hMf hend
        obtain ⟨na, nb, nc, nd⟩ := nr
        obtain ⟨fa, fb, fc, fd⟩ := fr
        have c2 := hk.cell 2
        have c3 := hk.cell 3
        simp [tabCells] at c2 c3
        have hfrz := hk.frozen
        simp only [pairV] at kn kf
        have Hof2 := Lib.hid hof2
        clear hof2
        have Hend := Lib.hid hend
        clear hend
        have Hma := Lib.hid hma
        clear hma
        have Hmb := Lib.hid hmb
        clear hmb
        have HMn := Lib.hid hMn
        clear hMn
        have HMf := Lib.hid hMf
        clear hMf
        have HAi := Lib.hid hAi
        clear hAi
        have Hki := Lib.hid hki
        clear hki
        have Kn := Lib.hid kn
        clear kn
        have Kf := Lib.hid kf
        clear kf
        have HM := Lib.hid hM
        clear hM
        have Hk := Lib.hid hk
        clear hk
        have Hke := Lib.hid hke
        clear hke
        have He := Lib.hid he
        clear he
        have Hlf := Lib.hid hlf
        clear hlf
        have Nbt := Lib.hid nbt
        clear nbt
        have Nbe := Lib.hid nbe
        clear nbe
        have Hdf := Lib.hid hdiff
        have Hfr := Lib.hid hfr
        clear d hv Hof hone hfrz hln hi1 hi2 hwn hwf hnr hfr htt Hidb Htk Hcc hdiff
        generalize hidI : (id : Int) = idI at *
        generalize hgb : e.blk = gb at *
        go_wp2_with fail
        (with_reducible refine (Hof2.out).mono ?_)
        rintro e w' ⟨rfl, rfl⟩
        go_upto_region 6 with fail
        go_still_tail 8, (by kernel_rfl)
        refine wpList_delete_is _ rfl _ _ _ _ rfl 26 lawPair Try.underlying65 s'.bb s'.m M rfl Hmb.out.drew _ _ rfl Kn.out ?_
        intro w5 h5 ht5
        rw [HMn.out, if_pos rfl] at h5
        have hout5 : Out (fun i => i = s'.bb) wr w5 := Out.grown (grown_undrew ht5.grown) rfl
        have hk5 := hout5.block t hlt (fun e1 => Nbt.out e1.symm)
        have hke5 := hout5.block gb hle (fun e1 => Nbe.out e1.symm)
        have hma5 := Hma.out.of_eq (hout5.block s'.ba hla (fun e1 => Hdf.out e1))
        have hkk5 := Hk.out.of_eq hk5
        have hkke5 := Hke.out.of_eq hke5
        have x2 := hkk5.cell 2
        have x9 := hkke5.cell 9
        simp [entCells, tabCells] at x2 x9
        cases hb : e.bound with
        | false =>
          have hnx := Hend.out w5 _ _ hkk5 hma5 h5 (by rw [hb]; rfl) (by rw [hb]; rfl) hout5
          rw [hb] at x9
          have Hnx := Lib.hid hnx
          clear hnx
          have Hma5 := Lib.hid hma5
          clear hma5
          have H5 := Lib.hid h5
          clear h5
          have Hout5 := Lib.hid hout5
          clear hout5
          clear hk5 hke5 hkk5 hkke5 ht5 d1 d2 d3 d4 d5 d6 d7 d8 d9 c2 c3
          go_wp2_with (at_delete; refine wpList_delete_is _ rfl _ _ _ _ rfl 68 law64 Try.underlying64 s'.ba s'.n _ rfl Hma5.out _ _ rfl Hki.out ?_; intro w8 h8 ht8; have Hr8 := Lib.hid (Hnx.out w8 h8 ht8); clear h8 ht8)
          go_roundw
          case rel => exact ⟨k + 1, cc + 1, by go_num, by go_num, Hr8.out⟩
          case measure => simp [intOf]; omega
        | true =>
          rw [hb] at x9
          have x3 := hkk5.cell 3
          have x5 := hkke5.cell 5
          have x6 := hkke5.cell 6
          have x7 := hkke5.cell 7
          have x8 := hkke5.cell 8
          simp [entCells, tabCells] at x3 x5 x6 x7 x8
          rw [← Hfr.out] at x5 x6 x7 x8
          simp only at x5 x6 x7 x8
          have Hma5 := Lib.hid hma5
          clear hma5
          have H5 := Lib.hid h5
          clear h5
          have Hout5 := Lib.hid hout5
          clear hout5
          have Hkk5 := Lib.hid hkk5
          clear hkk5
          clear hk5 hke5 hkke5 ht5 d1 d2 d3 d4 d5 d6 d7 d8 d9 c2 c3
          go_upto_region 8 with fail
          go_still_tail 8, (by kernel_rfl)
          refine wpList_delete_is _ rfl _ _ _ _ rfl 26 lawPair Try.underlying65 s'.bb (s'.m - 1) _ rfl H5.out.drew _ _ rfl Kf.out ?_
          intro w6 h6 ht6
          rw [HMf.out hb, if_pos rfl] at h6
          have hg6 : w5.grownBy w6 (some s'.bb) := grown_undrew ht6.grown
          have hout6 : Out (fun i => i = s'.bb) wr w6 := Out.trans Hout5.out (Out.grown (O := fun i => i = s'.bb) hg6 rfl) (fun _ _ h => h)
          have hkk6 := Hkk5.out.grown hg6 (fun e1 => Nbt.out (Option.some.inj e1).symm)
          have hma6 := Hma5.out.kept hg6 (fun e1 => Hdf.out (Option.some.inj e1))
          have hnx := Hend.out w6 _ _ hkk6 hma6 h6 (by rw [hb]; rfl) (by rw [hb]; rfl) hout6
          have x2 := hkk6.cell 2
          simp [tabCells] at x2
          have Hnx := Lib.hid hnx
          clear hnx
          have Hma6 := Lib.hid hma6
          clear hma6
          clear h6 ht6 hg6 hout6 hkk6 x3 x5 x6 x7 x8 x9
          go_wp2_with (at_delete; refine wpList_delete_is _ rfl _ _ _ _ rfl 68 law64 Try.underlying64 s'.ba s'.n _ rfl Hma6.out _ _ rfl Hki.out ?_; intro w8 h8 ht8; have Hr8 := Lib.hid (Hnx.out w8 h8 ht8); clear h8 ht8)
          go_roundw
          case rel => exact ⟨k + 1, cc + 1, by go_num, by go_num, Hr8.out⟩
          case measure => simp [intOf]; omega
    · have hke : k = n := by omega
      have hpost : DropPost TI w t s l (.returned (.int .i64 (cc : Int))) wr := by
        have hlk : l.take k = l := List.take_of_length_le (by rw [← Hn.out]; omega)
        rw [hlk] at ht hcc
        exact ⟨by rw [hcc], ht, ho⟩
      have i2 : (n : Int) ≤ (k : Int) := by omega
      have Hpost := Lib.hid hpost
      clear hpost
      clear hcc ht ho hke hk hkl
      go_wp2
      go_ret
      exact Hpost.out
end Go.Proofs.Ytlikngepcbmhdaa
