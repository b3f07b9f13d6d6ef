/- The statement PktHurt: a segment's packet of which one bit is turned is refused, whichever it is, for any segment, any bit; and a known run goes as it must. -/
import Derived.Test.YtengegcnocdkoaaRe13
import Derived.Test.YtengegcnocdkoaaRe6
set_option linter.unusedVariables false
set_option linter.unusedSimpArgs false
set_option maxRecDepth 20000
namespace Go.Proofs.Ytengegcnocdkoaa.pktHurt
open Go.ChangeShapes Go.WideShapes Go.ChangeAt Go.RowKit Go.BigFrame
open Go.ChangeMaps (open_string shut_string)
theorem xor_pow (c : UInt8) (j : Nat) (hj : j < 8) : bits .xor .u8 (c.toNat : Int) ((2 : Int) ^ j % 256) = (((c ^^^ UInt8.ofNat (2 ^ j)).toNat : Nat) : Int) := by
  have hc := c.toNat_lt
  have e : ((2 : Int) ^ j % 256) = ((2 ^ j % 256 : Nat) : Int) := by
    have : j = 0 ∨ j = 1 ∨ j = 2 ∨ j = 3 ∨ j = 4 ∨ j = 5 ∨ j = 6 ∨ j = 7 := by omega
    rcases this with rfl | rfl | rfl | rfl | rfl | rfl | rfl | rfl <;> rfl
  rw [e, u8_xor_nat _ _ (by omega) (Nat.mod_lt _ (by decide)), UInt8.toNat_xor, UInt8.toNat_ofNat']
set_option maxHeartbeats 8000000 in
theorem walk (s : Sg) (A : Option Addr) (c : Nat) (a1 : Int) (w : World) (w0 : SgF w s A c) (w1 : (Lit.int .u16 a1).wf = true) :
    Calls Try.prog 7 #[.agg (s.c A c), .int .u16 a1] w fun e w' => e = .returned (.bool true) ∧ Below w.heap.size w w' := by
  have hal := alive08
  have hb0 : Below w.heap.size w w := Below.refl _ _
  have HB := Lib.hid hb0
  clear hb0
  have hs := fun W => heavy_sg W s A c w0.n w0.d
  cases h1 : heavyB s with
  | true =>
    rw [h1] at hs
    clear w1
    have Hal := Lib.hid hal
    clear hal
    have Hs := Lib.hid hs
    clear hs
    go_enter Try.func7, Try.ntmps7
    go_upto_region 1 with fail
    have hp := Blk.new w 30 (s.c A c)
    have hB := HB.out.alloc HB.out.size (.cells (s.c A c) 30)
    clear HB
    obtain ⟨gp, hge⟩ : ∃ g, g = w.heap.size := ⟨_, rfl⟩
    rw [← hge] at hp ⊢
    clear hge
    generalize w.alloc _ = W1 at *
    have Hp := Lib.hid hp
    clear hp
    have HB := Lib.hid hB
    clear hB
    go_wp2_with (first | (refine wpl_load Hp.out segU segI rfl _ rfl rfl ?_))
    with_reducible refine (Hs.out _).mono ?_
    rintro e1 w2 ⟨rfl, hbq⟩
    have hp := Hp.out.below hbq Hp.out.lt
    clear Hp
    have Hp := Lib.hid hp
    clear hp
    have hB := HB.out.trans (hbq.mono HB.out.size)
    clear HB
    have HB := Lib.hid hB
    clear hB
    clear hbq
    go_wp2_with fail
    (with_reducible refine (Hal.out _).mono ?_)
    rintro e w9 ⟨rfl, hbq⟩
    have hp := Hp.out.below hbq Hp.out.lt
    clear Hp
    have Hp := Lib.hid hp
    clear hp
    have hB := HB.out.trans (hbq.mono HB.out.size)
    clear HB
    have HB := Lib.hid hB
    clear hB
    clear hbq
    go_wp2
    go_ret
    exact ⟨rfl, HB.out⟩
  | false =>
  rw [h1] at hs
  have n1 := (heavyB_no h1).2
  have ke := fun W (hW : Below w.heap.size w W) => penc_any W s A c w0.ok (w0.r.below hW) (by omega) w0.d
  cases hm : s.may with
  | false =>
    have hE : pencR s = (⟨#[]⟩, 2) := by unfold pencR; rw [hm]; rfl
    rw [hE] at ke
    have Ke := Lib.hid ke
    clear ke
    clear h1 n1 w0 w1 hE hm
    have Hal := Lib.hid hal
    clear hal
    have Hs := Lib.hid hs
    clear hs
    go_enter Try.func7, Try.ntmps7
    go_upto_region 1 with fail
    have hp := Blk.new w 30 (s.c A c)
    have hB := HB.out.alloc HB.out.size (.cells (s.c A c) 30)
    clear HB
    obtain ⟨gp, hge⟩ : ∃ g, g = w.heap.size := ⟨_, rfl⟩
    rw [← hge] at hp ⊢
    clear hge
    generalize w.alloc _ = W1 at *
    have Hp := Lib.hid hp
    clear hp
    have HB := Lib.hid hB
    clear hB
    go_wp2_with (first | (refine wpl_load Hp.out segU segI rfl _ rfl rfl ?_))
    with_reducible refine (Hs.out _).mono ?_
    rintro e1 w2 ⟨rfl, hbq⟩
    have hp := Hp.out.below hbq Hp.out.lt
    clear Hp
    have Hp := Lib.hid hp
    clear hp
    have hB := HB.out.trans (hbq.mono HB.out.size)
    clear HB
    have HB := Lib.hid hB
    clear hB
    clear hbq
    go_wp2_with (first | (refine wpl_load Hp.out segU segI rfl _ rfl rfl ?_))
    with_reducible refine (Ke.out _ HB.out).mono ?_
    rintro e3 w4 ⟨rfl, hbq⟩
    have hp := Hp.out.below hbq Hp.out.lt
    clear Hp
    have Hp := Lib.hid hp
    clear hp
    have hB := HB.out.trans (hbq.mono HB.out.size)
    clear HB
    have HB := Lib.hid hB
    clear hB
    clear hbq Ke
    go_wp2_with fail
    (with_reducible refine (Hal.out _).mono ?_)
    rintro e w9 ⟨rfl, hbq⟩
    have hp := Hp.out.below hbq Hp.out.lt
    clear Hp
    have Hp := Lib.hid hp
    clear hp
    have hB := HB.out.trans (hbq.mono HB.out.size)
    clear HB
    have HB := Lib.hid hB
    clear hB
    clear hbq
    go_wp2
    go_ret
    exact ⟨rfl, HB.out⟩
  | true =>
    obtain ⟨X, hX⟩ : ∃ X : ByteArray, X = ⟨s.pl.toArray⟩ := ⟨_, rfl⟩
    have hXL : X.data.toList = s.pl := by rw [hX]
    have hE : pencR s = (X, 0) := by unfold pencR; rw [if_pos hm, hX]
    rw [hE] at ke
    obtain ⟨hol, hl2, _, hl3⟩ := Sg.len w0.ok hm
    obtain ⟨n, hn⟩ : ∃ n, n = s.pl.length := ⟨_, rfl⟩
    obtain ⟨a, rfl, ha⟩ := wf_u16 w1
    have hn0 : 0 < n := by omega
    have hn2 : n ≤ 2000 := by omega
    obtain ⟨i, hi⟩ : ∃ i, i = a % (8 * n) / 8 := ⟨_, rfl⟩
    obtain ⟨j, hj⟩ : ∃ j, j = a % (8 * n) % 8 := ⟨_, rfl⟩
    have hin : i < n := by
      have : a % (8 * n) < 8 * n := Nat.mod_lt _ (by omega)
      rw [hi]
      omega
    have hj8 : j < 8 := by rw [hj]; omega
    obtain ⟨K, hK⟩ : ∃ K : Int, K = (a : Int) % (8 * (n : Int)) := ⟨_, rfl⟩
    have hKn : K = ((a % (8 * n) : Nat) : Int) := by
      rw [hK]
      simp
    have q1 : K / 8 = (i : Int) := by rw [hKn, hi]; omega
    have q2 : K % 8 = (j : Int) := by rw [hKn, hj]; omega
    have q0 : 0 ≤ K := by rw [hKn]; omega
    have q00 : K < 16000 := by rw [hKn]; have : a % (8 * n) < 8 * n := Nat.mod_lt _ (by omega); omega
    have hil : i < s.pl.length := by omega
    have hfl := flip_refused w0.ok hm i j hj8 hil
    obtain ⟨b, hb⟩ : ∃ b, b = s.pl[i] := ⟨_, rfl⟩
    have hbs : s.pl[i]? = some b := by rw [List.getElem?_eq_getElem hil, hb]
    rw [← hb] at hfl
    obtain ⟨F, hF⟩ : ∃ F, F = s.pl.set i (b ^^^ UInt8.ofNat (2 ^ j)) := ⟨_, rfl⟩
    rw [← hF] at hfl
    have hFl : F.length = n := by rw [hF, List.length_set, hn]
    obtain ⟨code, hcode⟩ : ∃ q, q = pdecE F := ⟨_, rfl⟩
    rw [← hcode] at hfl
    have hpf := pdec_of hcode.symm hfl
    have kF := fun W => pdec_is (x := ⟨F.toArray⟩) (L := F) rfl (by omega) hpf W
    have hXe : X.toList.isEmpty = false := by
      rw [ByteArray.toList_eq, hXL]
      cases h : s.pl with
      | nil => rw [h] at hn; simp at hn; omega
      | cons _ _ => rfl
    have hXe2 : (X.toList == []) = false := by
      rw [ByteArray.toList_eq, hXL]
      cases h : s.pl with
      | nil => rw [h] at hn; simp at hn; omega
      | cons _ _ => rfl
    have hcb : (code != 0) = true := by simpa using hfl
    clear h1 n1 w0 w1 hE hm hX hol hl2 hl3 hi hj hKn hil hb hcode hpf hfl
    generalize s.pl = L at *
    have Ke := Lib.hid ke
    clear ke
    have KF := Lib.hid kF
    clear kF
    have HXL := Lib.hid hXL
    clear hXL
    have Hn := Lib.hid hn
    clear hn
    have Hn0 := Lib.hid hn0
    clear hn0
    have Hn2 := Lib.hid hn2
    clear hn2
    have HF := Lib.hid hF
    clear hF
    have HFl := Lib.hid hFl
    clear hFl
    have Hin := Lib.hid hin
    clear hin
    have Hj8 := Lib.hid hj8
    clear hj8
    have Ha := Lib.hid ha
    clear ha
    have Hbs := Lib.hid hbs
    clear hbs
    have HXe2 := Lib.hid hXe2
    clear hXe2
    have Hal := Lib.hid hal
    clear hal
    have Hs := Lib.hid hs
    clear hs
    go_enter Try.func7, Try.ntmps7
    go_upto_region 1 with fail
    have hp := Blk.new w 30 (s.c A c)
    have hB := HB.out.alloc HB.out.size (.cells (s.c A c) 30)
    clear HB
    obtain ⟨gp, hge⟩ : ∃ g, g = w.heap.size := ⟨_, rfl⟩
    rw [← hge] at hp ⊢
    clear hge
    generalize w.alloc _ = W1 at *
    have Hp := Lib.hid hp
    clear hp
    have HB := Lib.hid hB
    clear hB
    go_wp2_with (first | (refine wpl_load Hp.out segU segI rfl _ rfl rfl ?_))
    with_reducible refine (Hs.out _).mono ?_
    rintro e1 w2 ⟨rfl, hbq⟩
    have hp := Hp.out.below hbq Hp.out.lt
    clear Hp
    have Hp := Lib.hid hp
    clear hp
    have hB := HB.out.trans (hbq.mono HB.out.size)
    clear HB
    have HB := Lib.hid hB
    clear hB
    clear hbq
    go_wp2_with (first | (refine wpl_load Hp.out segU segI rfl _ rfl rfl ?_))
    with_reducible refine (Ke.out _ HB.out).mono ?_
    rintro e3 w4 ⟨rfl, hbq⟩
    have hp := Hp.out.below hbq Hp.out.lt
    clear Hp
    have Hp := Lib.hid hp
    clear hp
    have hB := HB.out.trans (hbq.mono HB.out.size)
    clear HB
    have HB := Lib.hid hB
    clear hB
    clear hbq Ke
    clear Hp
    obtain ⟨W6, cap, hcv, hb6, _, hr6, hcap⟩ := run_bytes_rowB w4 X L HXL.out
    rename_i hz6
    clear hz6
    rw [← Hn.out] at hcv hcap
    go_upto_region 7 with fail
    obtain ⟨gr, hgr⟩ : ∃ g, g = w4.heap.size := ⟨_, rfl⟩
    rw [← hgr] at hr6 ⊢
    have hwr : w.heap.size ≤ gr := by have := HB.out.size; omega
    clear hgr hcv
    have hB := HB.out.trans (hb6.mono HB.out.size)
    clear HB
    have HB := Lib.hid hB
    clear hB
    clear hb6
    have Hwr := Lib.hid hwr
    clear hwr
    have Hr6 := Lib.hid hr6
    clear hr6
    have Hcap := Lib.hid hcap
    clear hcap
    have k1 : ¬ (8 : Int) * (n : Int) = 0 := by have := Hn0.out; omega
    have k2 : (n : Int) ≤ 2000 := by have := Hn2.out; omega
    have k3 : ¬ n = 0 := by have := Hn0.out; omega
    have k4 : (a : Int) < 65536 := by have := Ha.out; omega
    go_upto_region 8 with fail
    rw [← hK]
    clear hK k1 k2 k3 k4
    have q3 : (i : Int) < (n : Int) := by have := Hin.out; omega
    have q4 : (0 : Int) ≤ (i : Int) := by omega
    have q5 : (0 : Int) ≤ (j : Int) := by omega
    have q6 : (j : Int) < 8 := by have := Hj8.out; omega
    have e1c := Hr6.out.cell Hbs.out
    have e1f := Hr6.out.frozen (j := i) (by have := Hn.out; have := Hin.out; omega)
    unfold u8v at e1c
    have l8 := b.toNat_lt
    go_upto_region 9 with fail
    rw [xor_pow _ _ Hj8.out]
    have hr7 := Hr6.out.set_ (k := i) (by have := Hn.out; have := Hin.out; omega) (b ^^^ UInt8.ofNat (2 ^ j))
    unfold u8v at hr7
    rw [← HF.out] at hr7
    have hB7 : Below w.heap.size w (W6.setCell ⟨gr, i, none⟩ (.int .u8 (((b ^^^ UInt8.ofNat (2 ^ j)).toNat : Nat) : Int))) := HB.out.setCell Hwr.out _
    clear e1c e1f q1 q2 q3 q4 q5 q6 l8 Hr6 HB
    generalize W6.setCell _ _ = W7 at *
    have HB := Lib.hid hB7
    clear hB7
    have hbk : (convert 51 9 (.slice (some ⟨gr, 0, none⟩) n cap)).run Try.prog W7 = .ok (.string ⟨F.toArray⟩) W7 := by
      refine run_bytes_back W7 ⟨gr, 0, none⟩ n cap F HFl.out.symm ?_
      intro k hk
      rw [add_plain, Nat.zero_add, hr7.cell (List.getElem?_eq_getElem hk)]
      rfl
    clear hr7
    go_wp2_with fail
    with_reducible refine (KF.out _).mono ?_
    rintro e5 w8 ⟨A8, c8, rfl, _, hbq⟩
    clear hbk
    have hB := HB.out.trans (hbq.mono HB.out.size)
    clear HB
    have HB := Lib.hid hB
    clear hB
    clear hbq
    go_upto_region 10 with (first | (refine wpl_put_new rfl (zeroSg.c A8 c8) segI_ rfl (by kernel_rfl) rfl _ _ rfl rfl rfl rfl ?_))
    have hz := Blk.new w8 30 (zeroSg.c A8 c8)
    have hB := HB.out.alloc HB.out.size (.cells (zeroSg.c A8 c8) 30)
    clear HB
    obtain ⟨gz, hge⟩ : ∃ g, g = w8.heap.size := ⟨_, rfl⟩
    rw [← hge] at hz ⊢
    have hle_z : w8.heap.size ≤ gz := by omega
    clear hge
    generalize w8.alloc _ = wn6 at *
    have Hz := Lib.hid hz
    clear hz
    have HB := Lib.hid hB
    clear hB
    obtain ⟨w9, hwnw9⟩ : ∃ W, W = wn6 := ⟨_, rfl⟩
    rw [← hwnw9] at Hz HB ⊢
    clear hwnw9
    go_wp2_with fail
    (with_reducible refine (Hal.out _).mono ?_)
    rintro e w10 ⟨rfl, hbq⟩
    have hz := Hz.out.below hbq Hz.out.lt
    clear Hz
    have Hz := Lib.hid hz
    clear hz
    have hB := HB.out.trans (hbq.mono HB.out.size)
    clear HB
    have HB := Lib.hid hB
    clear hB
    clear hbq
    go_wp2
    go_ret
    exact ⟨rfl, HB.out⟩
theorem own : ownKnob Try.prog.godebug = none := by kernel_rfl
theorem laidOut : laidOutB Try.prog = true := by kernel_rfl
set_option maxRecDepth 100000 in
theorem lifted (os : Os) (started : os.Started) (H : Type) (enc : TypeId × Value → H) :
    ReturnsInHanded {} Try.checked os 7 .any (Rows.pktHurtSpec.pre6 enc Try.prog Try.f7 Rows.pktHurtRow.domain false) (Rows.pktHurtSpec.post enc Try.prog Try.f7 false true false false) := by
  refine returnsInHanded_of_change (C := Try.checked) own started (by kernel_rfl) Try.func7
    (ChangeSpec.witness6 (enc := enc) (C := Try.checked) false ⟨#[], #[.agg #[.int .u32 0, .int .u16 0, .int .u32 0, .int .u16 0, .int .u32 0, .int .u32 0, .int .u8 0, .int .u16 0, .int .u16 0, .int .i64 0, .bool false, .slice none 0 0, .bool false, .int .u32 0, .int .u32 0, .string ByteArray.empty], .int .u16 0], []⟩ 8 (by kernel_rfl) (by kernel_rfl) (by kernel_rfl) (by kernel_rfl)) ?_
  intro W base args ds gs before hval0 hW hcnd _
  have hval : ∀ (j : Nat) t v, Try.f7.params[j]? = some t → args[j]? = some v → Value.okWide Try.prog W .any base t v := hval0
  have hW' := hW
  obtain ⟨p, q, hA0, hV, rfl, hfz, hnd⟩ := hW
  have hA : DataW.TrodAll enc Try.prog W 0 (fun _ => true) true Try.f7.params.toList args.toList ds p := hA0
  rw [Try.params7] at hA hval
  obtain ⟨v0, vs0, d0, ds0, p0, q0, hargs, rfl, rfl, h0, r0⟩ := trodAll_cons hA
  obtain ⟨v1, vs1, d1, ds1, p1, q1, rfl, rfl, rfl, h1, r1⟩ := trodAll_cons r0
  obtain ⟨rfl, rfl, rfl⟩ := trodAll_nil r1
  obtain rfl : args = #[v0, v1] := by cases args; simp_all
  obtain ⟨rfl, rfl⟩ := trodVars_none hV
  have k0 := h0
  have lt0 : ∀ x ∈ p0, x.block < W.heap.size := by obtain ⟨m, hm⟩ := k0; exact DataW.trod_lt m _ _ _ hm
  obtain ⟨a0_0, a0_1, a0_2, rfl, w0⟩ := open_sg (hval 0 30 v0 rfl rfl) h0
  obtain ⟨a1, rfl, rfl, rfl, w1⟩ := open_int Try.underlying23 (hval 1 23 v1 rfl rfl) h1
  clear hA0 hval0
  refine (walk a0_0 a0_1 a0_2 a1 W w0 w1).mono fun e W' ⟨he, bel⟩ => ?_
  subst he
  exact ⟨_, rfl, _, _, _, [], _, [], hW', trodAll_mk1 (shut_bool Try.underlying4 _), (trodAll_cons_mk (Below.trod laidOut (by kernel_rfl) (of_decide_eq_true (by kernel_rfl)) k0 bel lt0) (trodAll_cons_mk (shut_int Try.underlying23 w1) trodAll_mk0)), rfl, bel.frame _, fun h => by cases h⟩
theorem over : Rows.pktHurtRow.holds Try.pinned (OpenSpec.ofChange Rows.pktHurtSpec) :=
  OpenClaim.holds_of_wide 7 Try.f7 rfl rfl rfl rfl rfl rfl rfl ⟨rfl, rfl, rfl, rfl, rfl⟩ rfl rfl rfl rfl rfl (by kernel_rfl) Try.func7 (by kernel_rfl)
    (of_decide_eq_true (by kernel_rfl)) (by unfold Func.isWrapper; first | (rw [if_pos (by decide +kernel)]; kernel_rfl) | (rw [if_neg (by decide +kernel)]; exact ⟨rfl, rfl⟩))
    (fun os started H enc _ => lifted os started H enc)
/-- THE STATEMENT -/
theorem proved : Rows.PktHurtSaid := over
#print axioms proved
end Go.Proofs.Ytengegcnocdkoaa.pktHurt
