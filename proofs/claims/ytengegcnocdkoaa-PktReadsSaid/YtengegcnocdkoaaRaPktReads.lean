/- The statement PktReads: which segment a packet has, or what is wrong with it, is what the document's answer says, for any bytes; and a known run goes as it must. -/
import Derived.Test.YtengegcnocdkoaaRa16
import Derived.Test.YtengegcnocdkoaaRa18
import Derived.Test.YtengegcnocdkoaaRa8
set_option linter.unusedVariables false
set_option linter.unusedSimpArgs false
set_option maxRecDepth 20000
namespace Go.Proofs.Ytengegcnocdkoaa.pktReads
open Go.ChangeShapes Go.WideShapes Go.ChangeAt Go.RowKit Go.BigFrame
open Go.ChangeMaps (open_string shut_string)
set_option maxHeartbeats 4000000 in
theorem walk (x : ByteArray) (w : World) (w0 : x.size ≤ maxLen) :
    Calls Try.prog 4 #[.string x] w fun e w' => e = .returned (.bool true) ∧ Below w.heap.size w w' := by
  have hal := alive08
  have hb0 : Below w.heap.size w w := Below.refl _ _
  have HB := Lib.hid hb0
  clear hb0
  by_cases hx : 4096 < x.size
  · have hi : (4096 : Int) < (x.size : Int) := by omega
    have Hal := Lib.hid hal
    clear hal
    go_enter Try.func4, Try.ntmps4
    go_wp2_with fail
    (with_reducible refine (Hal.out _).mono ?_)
    rintro e w9 ⟨rfl, hbq⟩
    have hB := HB.out.trans (hbq.mono HB.out.size)
    clear HB
    have HB := Lib.hid hB
    clear hB
    clear hbq
    go_wp2
    go_ret
    exact ⟨rfl, HB.out⟩
  · have hi : ¬ (4096 : Int) < (x.size : Int) := by omega
    have hl : x.data.toList.length ≤ 4096 := by have : x.data.toList.length = x.size := rfl; omega
    have hd := fun W => pdec_any x _ rfl (by omega) W
    have hr := fun W => rpdec_any x _ rfl (by omega) W
    have hwf := pdecR_wf x.data.toList
    generalize x.data.toList = L at *
    have Hal := Lib.hid hal
    clear hal
    have Hd := Lib.hid hd
    clear hd
    have Hr := Lib.hid hr
    clear hr
    have Hwf := Lib.hid hwf
    clear hwf
    clear hl hx
    go_enter Try.func4, Try.ntmps4
    go_wp2_with fail
    with_reducible refine (Hd.out _).mono ?_
    rintro e w3 ⟨s, A, c, code, rfl, hbl, hbq, hrc⟩
    have hB := HB.out.trans (hbq.mono HB.out.size)
    clear HB
    have HB := Lib.hid hB
    clear hB
    clear hbq
    go_upto_region 4 with (first | (refine wpl_put_new rfl (s.c A c) segI_ rfl (by kernel_rfl) rfl _ _ rfl rfl rfl rfl ?_))
    have hbl := BlR.below hbl ((Below.refl w3.heap.size w3).alloc (Nat.le_refl _) (.cells (s.c A c) 30))
    have hg := Blk.new w3 30 (s.c A c)
    have hB := HB.out.alloc HB.out.size (.cells (s.c A c) 30)
    clear HB
    obtain ⟨gg, hge⟩ : ∃ g, g = w3.heap.size := ⟨_, rfl⟩
    rw [← hge] at hg ⊢
    have hle_g : w3.heap.size ≤ gg := by omega
    clear hge
    generalize w3.alloc _ = w4 at *
    have Hg := Lib.hid hg
    clear hg
    have HB := Lib.hid hB
    clear hB
    go_wp2_with fail
    with_reducible refine (Hr.out _).mono ?_
    rintro e w5 ⟨s2, A2, c2, code2, rfl, hbl2, hbq, hrc2⟩
    have hbl := BlR.below hbl hbq
    have hg := Hg.out.below hbq Hg.out.lt
    clear Hg
    have Hg := Lib.hid hg
    clear hg
    have hB := HB.out.trans (hbq.mono HB.out.size)
    clear HB
    have HB := Lib.hid hB
    clear hB
    clear hbq
    have hee : (s2, code2) = (s, code) := hrc2.trans hrc.symm
    injection hee with he1 he2
    subst he1 he2
    have hn : s2.o.bl.length ≤ maxLen := by have := Hwf.out; rw [← hrc] at this; exact Nat.le_trans this.2 (by decide)
    go_upto_region 5 with (first | (refine wpl_put_new rfl (s2.c A2 c2) segI_ rfl (by kernel_rfl) rfl _ _ rfl rfl rfl rfl ?_))
    have hbl := BlR.below hbl ((Below.refl w5.heap.size w5).alloc (Nat.le_refl _) (.cells (s2.c A2 c2) 30))
    have hbl2 := BlR.below hbl2 ((Below.refl w5.heap.size w5).alloc (Nat.le_refl _) (.cells (s2.c A2 c2) 30))
    have hk := Blk.new w5 30 (s2.c A2 c2)
    have hg := Blk.alloc Hg.out (.cells (s2.c A2 c2) 30)
    clear Hg
    have hB := HB.out.alloc HB.out.size (.cells (s2.c A2 c2) 30)
    clear HB
    obtain ⟨gk, hge⟩ : ∃ g, g = w5.heap.size := ⟨_, rfl⟩
    rw [← hge] at hk ⊢
    have hle_k : w5.heap.size ≤ gk := by omega
    clear hge
    generalize w5.alloc _ = wn3 at *
    have Hg := Lib.hid hg
    clear hg
    have Hk := Lib.hid hk
    clear hk
    have HB := Lib.hid hB
    clear hB
    obtain ⟨w6, hwnw6⟩ : ∃ W, W = wn3 := ⟨_, rfl⟩
    rw [← hwnw6] at Hg Hk HB hbl hbl2 ⊢
    clear hwnw6
    have hs := rpsame_any w6 s2 s2 A A2 c c2 hbl hbl2 hn hn
    rw [sameS_self] at hs
    have Hs := Lib.hid hs
    clear hs
    have Hbl := Lib.hid hbl
    clear hbl
    have Hbl2 := Lib.hid hbl2
    clear hbl2
    have Hn := Lib.hid hn
    clear hn
    clear hrc hrc2 Hd Hr
    go_wp2_with (first | (refine wpl_load Hg.out segU segI rfl _ rfl rfl ?_) | (refine wpl_load Hk.out segU segI rfl _ rfl rfl ?_))
    with_reducible refine (Hs.out).mono ?_
    rintro e w7 ⟨rfl, hbq⟩
    have hg := Hg.out.below hbq Hg.out.lt
    clear Hg
    have Hg := Lib.hid hg
    clear hg
    have hk := Hk.out.below hbq Hk.out.lt
    clear Hk
    have Hk := Lib.hid hk
    clear hk
    have hB := HB.out.trans (hbq.mono HB.out.size)
    clear HB
    have HB := Lib.hid hB
    clear hB
    clear hbq
    go_wp2_with fail
    (with_reducible refine (Hal.out _).mono ?_)
    rintro e w8 ⟨rfl, hbq⟩
    have hg := Hg.out.below hbq Hg.out.lt
    clear Hg
    have Hg := Lib.hid hg
    clear hg
    have hk := Hk.out.below hbq Hk.out.lt
    clear Hk
    have Hk := Lib.hid hk
    clear hk
    have hB := HB.out.trans (hbq.mono HB.out.size)
    clear HB
    have HB := Lib.hid hB
    clear hB
    clear hbq
    go_wp2
    go_ret
    exact ⟨rfl, HB.out⟩
theorem own : ownKnob Try.prog.godebug = none := by kernel_rfl
theorem laidOut : laidOutB Try.prog = true := by kernel_rfl
set_option maxRecDepth 100000 in
theorem lifted (os : Os) (started : os.Started) (H : Type) (enc : TypeId × Value → H) :
    ReturnsInHanded {} Try.checked os 4 .any (Rows.pktReadsSpec.pre6 enc Try.prog Try.f4 Rows.pktReadsRow.domain false) (Rows.pktReadsSpec.post enc Try.prog Try.f4 false true false false) := by
  refine returnsInHanded_of_change (C := Try.checked) own started (by kernel_rfl) Try.func4
    (ChangeSpec.witness6 (enc := enc) (C := Try.checked) false ⟨#[], #[.string ByteArray.empty], []⟩ 8 (by kernel_rfl) (by kernel_rfl) (by kernel_rfl) (by kernel_rfl)) ?_
  intro W base args ds gs before hval0 hW hcnd _
  have hval : ∀ (j : Nat) t v, Try.f4.params[j]? = some t → args[j]? = some v → Value.okWide Try.prog W .any base t v := hval0
  have hW' := hW
  obtain ⟨p, q, hA0, hV, rfl, hfz, hnd⟩ := hW
  have hA : DataW.TrodAll enc Try.prog W 0 (fun _ => true) true Try.f4.params.toList args.toList ds p := hA0
  rw [Try.params4] at hA hval
  obtain ⟨v0, vs0, d0, ds0, p0, q0, hargs, rfl, rfl, h0, r0⟩ := trodAll_cons hA
  obtain ⟨rfl, rfl, rfl⟩ := trodAll_nil r0
  obtain rfl : args = #[v0] := by cases args; simp_all
  obtain ⟨rfl, rfl⟩ := trodVars_none hV
  obtain ⟨a0, rfl, rfl, rfl, w0⟩ := open_string Try.underlying9 (hval 0 9 v0 rfl rfl) h0
  clear hA0 hval0
  refine (walk a0 W w0).mono fun e W' ⟨he, bel⟩ => ?_
  subst he
  exact ⟨_, rfl, _, _, _, [], _, [], hW', trodAll_mk1 (shut_bool Try.underlying4 _), (trodAll_cons_mk (shut_string Try.underlying9 w0) trodAll_mk0), rfl, bel.frame _, fun h => by cases h⟩
theorem over : Rows.pktReadsRow.holds Try.pinned (OpenSpec.ofChange Rows.pktReadsSpec) :=
  OpenClaim.holds_of_wide 4 Try.f4 rfl rfl rfl rfl rfl rfl rfl ⟨rfl, rfl, rfl, rfl, rfl⟩ rfl rfl rfl rfl rfl (by kernel_rfl) Try.func4 (by kernel_rfl)
    (of_decide_eq_true (by kernel_rfl)) (by unfold Func.isWrapper; first | (rw [if_pos (by decide +kernel)]; kernel_rfl) | (rw [if_neg (by decide +kernel)]; exact ⟨rfl, rfl⟩))
    (fun os started H enc _ => lifted os started H enc)
/-- THE STATEMENT -/
theorem proved : Rows.PktReadsSaid := over
#print axioms proved
end Go.Proofs.Ytengegcnocdkoaa.pktReads
