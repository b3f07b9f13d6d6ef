/- Layer 7 (opt): Turn, of any bytes. -/
import Derived.Test.YtimepplfaaddeaaOptRep
import Derived.Test.YtimepplfaaddeaaRowB
set_option linter.unusedVariables false
set_option linter.unusedSimpArgs false
namespace Go.Proofs.Ytimepplfaaddeaa
open Go.RowKit Go.BigFrame Go.Shelf
attribute [local go_sem] Oper.semAt_some

theorem RowB.ne_ {W : World} {g g' : Nat} {t : TypeId} {M : List UInt8} {cs : Array Value} (h : RowB W g M) (hb : Blk W g' t cs) (ht : t ≠ 5) : g' ≠ g := by
  rintro rfl
  obtain ⟨c, lo, hi, h1, _⟩ := h
  rw [show W.heap[g']? = _ from hb] at h1
  injection h1 with h1
  injection h1 with _ h1
  exact ht h1
/-- what a round holds -/
def TurnI (w : World) (gs gb gv gc gp gr cap : Nat) (x : ByteArray) (L : List UInt8) (bl va ec : Nat) (pre : List (PV L)) (W : World) : Prop :=
  Below w.heap.size w W ∧ Blk W gs 9 #[.string x] ∧ Blk W gb 24 #[.int .u32 (bl : Int)] ∧ Blk W gv 24 #[.int .u32 (va : Int)] ∧ Blk W gc 24 #[.int .u32 (ec : Int)] ∧
    Blk W gp 46 #[.slice (some ⟨gr, 0, none⟩) L.length cap] ∧ RowB W gr ((pre.map (·.1)).foldl (stepO L bl va ec) L)
theorem TurnI.own {w : World} {gs gb gv gc gp gr cap : Nat} {x : ByteArray} {L : List UInt8} {bl va ec B : Nat} (hw : w.heap.size ≤ B) : OwnFrom B (TurnI w gs gb gv gc gp gr cap x L bl va ec) := by
  intro pre W W' row ⟨h1, h2, h3, h4, h5, h6, h7⟩ hg hr
  have hr2 : ∀ r, row = some r → ∃ o : Obj, W.heap[r]? = some o ∧ o.isCells = false := fun r e => (hr r e).2
  refine ⟨ownFrom_below (Nat.le_refl _) hw pre W W' row h1 hg hr, blk_notrow h2 hg hr2, blk_notrow h3 hg hr2, blk_notrow h4 hg hr2, blk_notrow h5 hg hr2, blk_notrow h6 hg hr2, h7.grown hg (fun e => ?_)⟩
  obtain ⟨o, q1, q2⟩ := hr2 gr e.symm
  obtain ⟨c, lo, hi, q3, _⟩ := h7
  rw [q1] at q3
  cases q3
  cases q2
/-- .. and is kept by what turns the row alone -/
theorem TurnI.next {w W W' : World} {gs gb gv gc gp gr cap B : Nat} {x : ByteArray} {L : List UInt8} {bl va ec : Nat} {pre pre2 : List (PV L)} {M : List UInt8}
    (h : TurnI w gs gb gv gc gp gr cap x L bl va ec pre W) (ho : Out (fun i => i = gr) W W') (hr : RowB W' gr M) (hM : M = (pre2.map (·.1)).foldl (stepO L bl va ec) L) (hwr : w.heap.size ≤ gr) (hB : gr < B) :
    KeepsFrom B W W' ∧ KeepsS w.heap.size W W' ∧ TurnI w gs gb gv gc gp gr cap x L bl va ec pre2 W' := by
  obtain ⟨h1, h2, h3, h4, h5, h6, h7⟩ := h
  have hk : ∀ {g : Nat} {t : TypeId} {cs : Array Value}, Blk W g t cs → t ≠ 5 → Blk W' g t cs := fun {g t cs} hb ht => (ho.block g hb.lt (h7.ne_ hb ht)).trans hb
  have hbw : Below w.heap.size W W' := ho.below h1.size (fun i hi e => by omega)
  refine ⟨keepsFrom_out ho (fun i e => .inl (by omega)), ⟨hbw, fun i cs hi => hk hi (by decide)⟩, h1.trans hbw, hk h2 (by decide), hk h3 (by decide), hk h4 (by decide), hk h5 (by decide), hk h6 (by decide), ?_⟩
  rw [← hM]
  exact hr
set_option maxRecDepth 100000 in
set_option maxHeartbeats 8000000 in
theorem turn_yes (x : ByteArray) (L : List UInt8) (hx : x.data.toList = L) (hd : (decR L).2 = 0) (bl va ec : Nat) (hbl : bl < 4294967296) (hva : va < 4294967296) (hec : ec < 4294967296) (w : World) :
    CallsIn Fence.wide 3 Try.prog 19 #[.string x, .int .u32 (bl : Int), .int .u32 (va : Int), .int .u32 (ec : Int)] w (TurnPost bl va ec w L) := by
  have hdec := dec_any x
  rw [hx] at hdec
  obtain ⟨h40, o, hdl, hdo⟩ := decR_ok hd
  have hTR : turnR bl va ec L = (turnL bl va ec L, 0) := by unfold turnR; rw [if_pos hd]
  have hfine := places_fine hdl
  have hsz : x.size = L.length := by rw [← hx]; simp
  have hb0 : Below w.heap.size w w := Below.refl _ _
  have HB := Lib.hid hb0
  clear hb0
  have Hx := Lib.hid hx
  clear hx
  have Hd := Lib.hid hd
  clear hd
  have Hdec := Lib.hid hdec
  clear hdec
  have H40 := Lib.hid h40
  clear h40
  have Hdl := Lib.hid hdl
  clear hdl
  have Hdo := Lib.hid hdo
  clear hdo
  have HTR := Lib.hid hTR
  clear hTR
  have Hfine := Lib.hid hfine
  clear hfine
  have Hsz := Lib.hid hsz
  clear hsz
  refine callsIn_of_wp_marks Try.func19 rfl trivial ?_ rfl
  simp only [Try.ntmps19, List.size_toArray, List.length_cons, List.length_nil, Nat.reduceAdd, Nat.reduceSub, Array.replicate_succ, Array.replicate_zero, List.push_toArray, List.append_toArray, List.nil_append, List.cons_append]
  gi_upto_region 1 with fail
  have hs := Blk.alloc (Blk.alloc (Blk.alloc (Blk.new w 9 #[.string x]) (.cells #[.int .u32 (bl : Int)] 24)) (.cells #[.int .u32 (va : Int)] 24)) (.cells #[.int .u32 (ec : Int)] 24)
  have hb := Blk.alloc (Blk.alloc (Blk.new (w.alloc (.cells #[.string x] 9)) 24 #[.int .u32 (bl : Int)]) (.cells #[.int .u32 (va : Int)] 24)) (.cells #[.int .u32 (ec : Int)] 24)
  rw [show (w.alloc (.cells #[.string x] 9)).heap.size = w.heap.size + 1 by simp] at hb
  have hv := Blk.alloc (Blk.new ((w.alloc (.cells #[.string x] 9)).alloc (.cells #[.int .u32 (bl : Int)] 24)) 24 #[.int .u32 (va : Int)]) (.cells #[.int .u32 (ec : Int)] 24)
  rw [show ((w.alloc (.cells #[.string x] 9)).alloc (.cells #[.int .u32 (bl : Int)] 24)).heap.size = w.heap.size + 2 by simp] at hv
  have hc := Blk.new (((w.alloc (.cells #[.string x] 9)).alloc (.cells #[.int .u32 (bl : Int)] 24)).alloc (.cells #[.int .u32 (va : Int)] 24)) 24 #[.int .u32 (ec : Int)]
  rw [show (((w.alloc (.cells #[.string x] 9)).alloc (.cells #[.int .u32 (bl : Int)] 24)).alloc (.cells #[.int .u32 (va : Int)] 24)).heap.size = w.heap.size + 3 by simp] at hc
  have hB := Below.alloc (Below.alloc (Below.alloc (Below.alloc (HB.out) (Nat.le_trans HB.out.size (by simp <;> omega)) (.cells #[.string x] 9)) (Nat.le_trans HB.out.size (by simp <;> omega)) (.cells #[.int .u32 (bl : Int)] 24)) (Nat.le_trans HB.out.size (by simp <;> omega)) (.cells #[.int .u32 (va : Int)] 24)) (Nat.le_trans HB.out.size (by simp <;> omega)) (.cells #[.int .u32 (ec : Int)] 24)
  clear HB
  obtain ⟨gc, hgec⟩ : ∃ g, g = w.heap.size + 3 := ⟨_, rfl⟩
  rw [← hgec] at hc ⊢
  obtain ⟨gv, hgev⟩ : ∃ g, g = w.heap.size + 2 := ⟨_, rfl⟩
  rw [← hgev] at hv ⊢
  obtain ⟨gb, hgeb⟩ : ∃ g, g = w.heap.size + 1 := ⟨_, rfl⟩
  rw [← hgeb] at hb ⊢
  obtain ⟨gs, hges⟩ : ∃ g, g = w.heap.size := ⟨_, rfl⟩
  rw [← hges] at hs ⊢
  have hne_s_b : gs ≠ gb := by omega
  have hne_s_v : gs ≠ gv := by omega
  have hne_s_c : gs ≠ gc := by omega
  have hne_b_v : gb ≠ gv := by omega
  have hne_b_c : gb ≠ gc := by omega
  have hne_v_c : gv ≠ gc := by omega
  have hle_s : w.heap.size ≤ gs := by omega
  have hle_b : w.heap.size ≤ gb := by omega
  have hle_v : w.heap.size ≤ gv := by omega
  have hle_c : w.heap.size ≤ gc := by omega
  clear hges hgeb hgev hgec
  generalize (((w.alloc _).alloc _).alloc _).alloc _ = wn1 at *
  have Hs := Lib.hid hs
  clear hs
  have Hb := Lib.hid hb
  clear hb
  have Hv := Lib.hid hv
  clear hv
  have Hc := Lib.hid hc
  clear hc
  have HB := Lib.hid hB
  clear hB
  obtain ⟨W1, hW1⟩ : ∃ W, W = wn1 := ⟨_, rfl⟩
  rw [← hW1] at Hs Hb Hv Hc HB ⊢
  clear hW1
  have cs1 := Hs.out.cell 0
  try simp at cs1
  gi_wp2_with fail
  refine ⟨trivial, ?_⟩
  refine (callsIn_wide.2 (Hdec.out _)).mono ?_
  rintro e w2 ⟨r, A, c, code, rfl, hbr, hbq, hre⟩
  have hs := Hs.out.below hbq Hs.out.lt
  clear Hs
  have Hs := Lib.hid hs
  clear hs
  have hb := Hb.out.below hbq Hb.out.lt
  clear Hb
  have Hb := Lib.hid hb
  clear hb
  have hv := Hv.out.below hbq Hv.out.lt
  clear Hv
  have Hv := Lib.hid hv
  clear hv
  have hc := Hc.out.below hbq Hc.out.lt
  clear Hc
  have Hc := Lib.hid hc
  clear hc
  have hB := HB.out.trans (hbq.mono HB.out.size)
  clear HB
  have HB := Lib.hid hB
  clear hB
  clear hbq hbr cs1
  unfold optC
  have hc0 : code = 0 := by have := Hd.out; rw [← hre] at this; exact this
  subst hc0
  clear hre
  gi_upto_region 4 with fail
  have hq := Blk.new w2 26 #[.int .u16 (r.mss : Int), .int .i64 r.scale, .bool r.sack, .slice A r.bl.length c, .bool r.time, .int .u32 (r.val : Int), .int .u32 (r.echo : Int)]
  have hs := Blk.alloc Hs.out (.cells #[.int .u16 (r.mss : Int), .int .i64 r.scale, .bool r.sack, .slice A r.bl.length c, .bool r.time, .int .u32 (r.val : Int), .int .u32 (r.echo : Int)] 26)
  clear Hs
  have hb := Blk.alloc Hb.out (.cells #[.int .u16 (r.mss : Int), .int .i64 r.scale, .bool r.sack, .slice A r.bl.length c, .bool r.time, .int .u32 (r.val : Int), .int .u32 (r.echo : Int)] 26)
  clear Hb
  have hv := Blk.alloc Hv.out (.cells #[.int .u16 (r.mss : Int), .int .i64 r.scale, .bool r.sack, .slice A r.bl.length c, .bool r.time, .int .u32 (r.val : Int), .int .u32 (r.echo : Int)] 26)
  clear Hv
  have hc := Blk.alloc Hc.out (.cells #[.int .u16 (r.mss : Int), .int .i64 r.scale, .bool r.sack, .slice A r.bl.length c, .bool r.time, .int .u32 (r.val : Int), .int .u32 (r.echo : Int)] 26)
  clear Hc
  have hB := HB.out.alloc HB.out.size (.cells #[.int .u16 (r.mss : Int), .int .i64 r.scale, .bool r.sack, .slice A r.bl.length c, .bool r.time, .int .u32 (r.val : Int), .int .u32 (r.echo : Int)] 26)
  clear HB
  obtain ⟨gq, hge⟩ : ∃ g, g = w2.heap.size := ⟨_, rfl⟩
  rw [← hge] at hq ⊢
  have hle_q : w2.heap.size ≤ gq := by omega
  clear hge
  generalize w2.alloc _ = wn2 at *
  have Hs := Lib.hid hs
  clear hs
  have Hb := Lib.hid hb
  clear hb
  have Hv := Lib.hid hv
  clear hv
  have Hc := Lib.hid hc
  clear hc
  have Hq := Lib.hid hq
  clear hq
  have HB := Lib.hid hB
  clear hB
  obtain ⟨W2, hW2⟩ : ∃ W, W = wn2 := ⟨_, rfl⟩
  rw [← hW2] at Hs Hb Hv Hc HB ⊢
  clear hW2 Hq
  have cs2 := Hs.out.cell 0
  try simp at cs2
  obtain ⟨W3, cap, hcv, hbq, hz3, hrow3, hcap⟩ := run_bytes_rowB W2 x L Hx.out
  obtain ⟨gr, hgr⟩ : ∃ g, g = W2.heap.size := ⟨_, rfl⟩
  rw [← hgr] at hcv hrow3 hz3
  have hwr : w.heap.size ≤ gr := by rw [hgr]; exact HB.out.size
  gi_upto_region 5 with fail
  rw [← hgr]
  generalize (Value.agg #[.int .u16 (r.mss : Int), .int .i64 r.scale, .bool r.sack, .slice A r.bl.length c, .bool r.time, .int .u32 (r.val : Int), .int .u32 (r.echo : Int)]) = ag
  have hs := Hs.out.below hbq Hs.out.lt
  clear Hs
  have Hs := Lib.hid hs
  clear hs
  have hb := Hb.out.below hbq Hb.out.lt
  clear Hb
  have Hb := Lib.hid hb
  clear hb
  have hv := Hv.out.below hbq Hv.out.lt
  clear Hv
  have Hv := Lib.hid hv
  clear hv
  have hc := Hc.out.below hbq Hc.out.lt
  clear Hc
  have Hc := Lib.hid hc
  clear hc
  have hB := HB.out.trans (hbq.mono HB.out.size)
  clear HB
  have HB := Lib.hid hB
  clear hB
  obtain ⟨gp, hgp⟩ : ∃ g, g = gr + 1 := ⟨_, rfl⟩
  rw [← hgp] at hz3 ⊢
  have hp4 := Blk.new W3 46 #[.slice (some ⟨gr, 0, none⟩) L.length cap]
  rw [hz3] at hp4
  have hal : Below W3.heap.size W3 (W3.alloc (.cells #[.slice (some ⟨gr, 0, none⟩) L.length cap] 46)) := (Below.refl _ _).alloc (Nat.le_refl _) _
  have hrow4 := hrow3.below hal hrow3.lt
  have hs := Hs.out.below hal Hs.out.lt
  clear Hs
  have Hs := Lib.hid hs
  clear hs
  have hb := Hb.out.below hal Hb.out.lt
  clear Hb
  have Hb := Lib.hid hb
  clear hb
  have hv := Hv.out.below hal Hv.out.lt
  clear Hv
  have Hv := Lib.hid hv
  clear hv
  have hc := Hc.out.below hal Hc.out.lt
  clear Hc
  have Hc := Lib.hid hc
  clear hc
  have hB := HB.out.trans (hal.mono HB.out.size)
  clear HB
  have HB := Lib.hid hB
  clear hB
  have hz4 : (W3.alloc (.cells #[.slice (some ⟨gr, 0, none⟩) L.length cap] 46)).heap.size = gp + 1 := by simp [hz3]
  clear hcv hbq hrow3 hal hz3 cs2
  generalize W3.alloc _ = W4 at *
  have cs4 := Hs.out.cell 0
  try simp at cs4
  have Hp4 := Lib.hid hp4
  clear hp4
  have Hrow4 := Lib.hid hrow4
  clear hrow4
  have Hz4 := Lib.hid hz4
  clear hz4
  have Hgr := Lib.hid hgr
  clear hgr
  have Hgp := Lib.hid hgp
  clear hgp
  have Hcap := Lib.hid hcap
  clear hcap
  gi_wp2_with (refine ⟨trivial, ?_⟩; gi_at_call 24; refine (each_in _ _).mono ?_; rintro e w' ⟨rfl, rfl⟩)
  have hB5 := HB.out.alloc HB.out.size (.cells #[.string x] 9)
  have hz5 := Blk.new W4 9 #[.string x]
  have hs5 := Blk.alloc Hs.out (.cells #[.string x] 9)
  have hb5 := Blk.alloc Hb.out (.cells #[.string x] 9)
  have hv5 := Blk.alloc Hv.out (.cells #[.string x] 9)
  have hc5 := Blk.alloc Hc.out (.cells #[.string x] 9)
  have hp5 := Blk.alloc Hp4.out (.cells #[.string x] 9)
  have hrow5 := Hrow4.out.grown (World.grownBy_alloc W4 (.cells #[.string x] 9) none) (by simp)
  have hgz : W4.heap.size = gp + 1 := Hz4.out
  obtain ⟨gz, hgze⟩ : ∃ g, g = W4.heap.size := ⟨_, rfl⟩
  rw [← hgze] at hz5 hgz ⊢
  have hsz5 : (W4.alloc (.cells #[.string x] 9)).heap.size = gz + 1 := by rw [hgze]; simp
  clear cs4 hgze Hz4
  generalize W4.alloc _ = W5 at *
  have hgrB : gr < W5.heap.size := by have := Hgp.out; omega
  clear Hs Hb Hv Hc Hp4 Hrow4 HB
  have hI0 : TurnI w gs gb gv gc gp gr cap x L bl va ec [] W5 := ⟨hB5, hs5, hb5, hv5, hc5, hp5, hrow5⟩
  have HI0 := Lib.hid hI0
  have hBs5 := hB5.size
  clear hI0 hs5 hb5 hv5 hc5 hp5 hrow5 hB5
  have Hgz := Lib.hid hgz
  clear hgz
  have Hsz5 := Lib.hid hsz5
  clear hsz5
  have HgrB := Lib.hid hgrB
  clear hgrB
  refine wpIn_rangeFunc_ownG rfl (by omega) (gf := 36) (lb := #[.pointer (some ⟨gz, 0, none⟩)]) rfl trivial (enters_of Try.func36 (by kernel_rfl) rfl)
    (each_stops w.heap.size gz x L Hx.out (by have := H40.out; omega) _ hBs5 hz5) KeepsS.trans (KeepsS.putObj hBs5) (Below.refl _ _) (fun _ => rfl)
    (TurnI w gs gb gv gc gp gr cap x L bl va ec)
    (fun _ _ _ => False)
    (TurnI.own hBs5) (fun _ _ _ _ _ hs _ _ => hs)
    HI0.out
    (fun x1 => { tmps := #[.string x, .int .u32 (bl : Int), .int .u32 (va : Int), .int .u32 (ec : Int), .pointer (some ⟨gs, 0, none⟩), .pointer (some ⟨gb, 0, none⟩), .pointer (some ⟨gv, 0, none⟩), .pointer (some ⟨gc, 0, none⟩), .string ⟨#[]⟩, .int .i64 0, .pointer (some ⟨gq, 0, none⟩), .int .i64 0, .pointer (some ⟨gp, 0, none⟩), .int .i64 (x1.1.1 : Int), .int .i64 (x1.1.2 : Int), undef, undef, undef, undef, .tuple #[ag, .int .i64 0], .string x, .tuple #[ag, .int .i64 0], ag, .int .i64 0, .int .i64 0, .bool false, undef, .string x, .slice (some ⟨gr, 0, none⟩) L.length cap, .string x, .func (.func 36) #[] #[.pointer (some ⟨gz, 0, none⟩)], .int .i64 (x1.1.1 : Int), .int .i64 (x1.1.2 : Int), undef, undef, undef, undef, undef, undef, undef, undef, undef, undef, undef, undef, undef, undef, undef, undef, undef, undef, undef, undef, undef, undef, undef, undef, undef, undef, undef, undef, undef, undef, undef, undef, undef, undef, undef, undef, undef, undef, undef, undef, undef, undef, undef, undef, undef], defers := [] }) ?assign ?body ?done ?stop
  case assign =>
    intro l x1 W K hK
    gi_wp2
    exact hK
  case body =>
    rintro l pre ⟨⟨i0, m⟩, ⟨hi, hk0, hk1, hst⟩, hin⟩ W hI hlt
    have hI' := hI
    obtain ⟨hB, hs, hb, hv, hc, hp, hrow⟩ := hI'
    dsimp only at hi hk0 hk1 hst ⊢
    have hm0 : m ≠ 0 := Hfine.out (i0, m) hin
    obtain ⟨r1, r2, r3, r4, r5⟩ := stepN_pos (L := L) (i := i0) (by rw [← hst]; exact hm0)
    rw [← hst] at r3 r4 r5
    obtain ⟨k, hk⟩ : ∃ k, k = byteN L i0 := ⟨_, rfl⟩
    rw [← hk, ← r4] at r2
    obtain ⟨M, hM⟩ : ∃ M, M = (pre.map (·.1)).foldl (stepO L bl va ec) L := ⟨_, rfl⟩
    rw [← hM] at hrow
    obtain ⟨pre2, hpre⟩ : ∃ p, p = pre ++ [(⟨(i0, m), ⟨hi, hk0, hk1, hst⟩, hin⟩ : PV L)] := ⟨_, rfl⟩
    have hnext : stepO L bl va ec M (i0, m) = (pre2.map (·.1)).foldl (stepO L bl va ec) L := by
      rw [hpre, List.map_append, List.foldl_append, ← hM]
      rfl
    rw [← hpre]
    clear hpre hin
    have hMl : M.length = L.length := by
      rw [hM]
      refine foldO_len bl va ec _ _ (fun p hp => ?_) rfl
      obtain ⟨y, hy, rfl⟩ := List.mem_map.1 hp
      exact ⟨y.2.1, Hfine.out y.1 y.2.2⟩
    have k256 : k < 256 := by rw [hk]; exact byteN_lt _ _
    have m256 : m < 256 := by rw [r4]; exact byteN_lt _ _
    have hix := fun W => index_at x i0 (by rw [Hx.out]; exact hi) W
    rw [Hx.out, ← hk] at hix
    have cs0 := hs.cell 0
    have cb0 := hb.cell 0
    have cv0 := hv.cell 0
    have cc0 := hc.cell 0
    have cp0 := hp.cell 0
    try simp at cs0
    try simp at cb0
    try simp at cv0
    try simp at cc0
    try simp at cp0
    have HI := Lib.hid hI
    clear hI
    have HB := Lib.hid hB
    clear hB
    have Hs := Lib.hid hs
    clear hs
    have Hb := Lib.hid hb
    clear hb
    have Hv := Lib.hid hv
    clear hv
    have Hc := Lib.hid hc
    clear hc
    have Hp := Lib.hid hp
    clear hp
    have Hrow := Lib.hid hrow
    clear hrow
    have HM := Lib.hid hM
    clear hM
    have Hnext := Lib.hid hnext
    clear hnext
    have HMl := Lib.hid hMl
    clear hMl
    have R1 := Lib.hid r1
    clear r1
    have R2 := Lib.hid r2
    clear r2
    have R3 := Lib.hid r3
    clear r3
    have R4 := Lib.hid r4
    clear r4
    have R5 := Lib.hid r5
    clear r5
    have Hk := Lib.hid hk
    clear hk
    have Hk0 := Lib.hid hk0
    clear hk0
    have Hk1 := Lib.hid hk1
    clear hk1
    have Hst := Lib.hid hst
    clear hst
    have Hi := Lib.hid hi
    clear hi
    have Hm0 := Lib.hid hm0
    clear hm0
    have Hlt := Lib.hid hlt
    clear hlt
    by_cases h8 : k = 8
    · have t8 : ((k : Int) == 8) = true := by rw [h8]; rfl
      have t5 : ((k : Int) == 5) = false := by rw [h8]; rfl
      have hm10 : m = 10 := by have := R2.out; rw [h8] at this; simpa [longB] using this
      have hst2' : stepO L bl va ec M (i0, m) = putsL L (fun j => if j = 0 then va else ec) 2 0 (i0 + 2) M := stepO_time (by rw [← Hk.out]; exact h8)
      clear h8
      gi_upto_region 14 with fail
      have hy := Blk.new W 24 #[.int .u32 (va : Int), .int .u32 (ec : Int)]
      have hal : Below W.heap.size W (W.alloc (.cells #[.int .u32 (va : Int), .int .u32 (ec : Int)] 24)) := (Below.refl _ _).alloc (Nat.le_refl _) _
      have hrow1 := Hrow.out.below hal Hrow.out.lt
      have hO1 : Out (fun i => i = gr) W (W.alloc (.cells #[.int .u32 (va : Int), .int .u32 (ec : Int)] 24)) := Out.of_below hal
      clear hal
      obtain ⟨gy, hgy⟩ : ∃ g, g = W.heap.size := ⟨_, rfl⟩
      rw [← hgy] at hy ⊢
      clear hgy
      generalize W.alloc _ = W1 at *
      obtain ⟨q, hq⟩ : ∃ q, q = 2 := ⟨_, rfl⟩
      rw [show Value.slice (some ⟨gy, 0, none⟩) 2 2 = Value.slice (some ⟨gy, 0, none⟩) q q by rw [hq]]
      obtain ⟨fby, hf⟩ : ∃ f : Nat → Nat, f = fun j => if j = 0 then va else ec := ⟨_, rfl⟩
      obtain ⟨cs, hcse⟩ : ∃ cs : Array Value, cs = #[.int .u32 (va : Int), .int .u32 (ec : Int)] := ⟨_, rfl⟩
      rw [← hcse] at hy
      have hst2 : stepO L bl va ec M (i0, m) = putsL L fby q 0 (i0 + 2) M := by rw [hf, hq]; exact hst2'
      clear hst2'
      have hcs : ∀ j, j < q → cs[j]? = some (.int .u32 ((fby j : Nat) : Int)) := by
        intro j hj
        rw [hcse, hf]
        have : j = 0 ∨ j = 1 := by omega
        rcases this with rfl | rfl <;> rfl
      have hfb : ∀ j, fby j < 4294967296 := by intro j; rw [hf]; simp only []; split <;> assumption
      have hq8 : q ≤ 8 := by omega
      have hqm : 2 + 4 * q ≤ m := by omega
      clear hq hf hcse hm10
      have hal2 := hO1
      have Hy := Lib.hid hy
      clear hy
      have HO1 := Lib.hid hO1
      clear hO1
      have Hrow1 := Lib.hid hrow1
      clear hrow1
      have Hcs := Lib.hid hcs
      clear hcs
      have Hfb := Lib.hid hfb
      clear hfb
      have Hst2 := Lib.hid hst2
      clear hst2
      have Hq8 := Lib.hid hq8
      clear hq8
      have Hqm := Lib.hid hqm
      clear hqm
      gi_wp2_with fail
      gi_loopw [51] (fun i wr => ∃ (j : Nat) (M' : List UInt8), i = .int .i64 (j : Int) ∧ j ≤ q ∧ M'.length = L.length ∧ putsL L fby (q - j) j (i0 + 2 + 4 * j) M' = stepO L bl va ec M (i0, m) ∧ RowB wr gr M' ∧ Out (fun i => i = gr) W wr ∧ Blk wr gy 24 cs) (fun i _ => q - (intOf i).toNat)
      case atStart => exact ⟨0, M, rfl, Nat.zero_le _, HMl.out, Hst2.out.symm, Hrow1.out, HO1.out, Hy.out⟩
      case round =>
        obtain ⟨j, M', rfl, hj, hM'l, hput, hrow', hO', hy'⟩ := hrel
        clear hal2
        by_cases hjq : j < q
        · have i1 : (j : Int) < (q : Int) := by omega
          have i8 : (j : Int) < 8 := by have := Hq8.out; omega
          obtain ⟨d, hd⟩ : ∃ d, d = fby j := ⟨_, rfl⟩
          have hyc : wr.cell? ⟨gy, j, none⟩ = some (.int .u32 (d : Int)) := by rw [hy'.cell j, Hcs.out j hjq, hd]
          obtain ⟨kk, hkk⟩ : ∃ kk, kk = i0 + 2 + 4 * j := ⟨_, rfl⟩
          have hkk4 : kk + 4 ≤ L.length := by have := Hqm.out; have := R3.out; omega
          have i3 : (i0 : Int) ≤ 40 := by have := H40.out; have := Hi.out; omega
          have kB : ∀ {g : Nat} {t : TypeId} {c : Array Value}, Blk W g t c → t ≠ 5 → Blk wr g t c := fun {g t c} h ht => (hO'.block g h.lt (Hrow.out.ne_ h ht)).trans h
          have hs' := kB Hs.out (by decide)
          have hp' := kB Hp.out (by decide)
          have hgn := hrow'.ne_ hy' (by decide)
          have hsn := hrow'.ne_ hs' (by decide)
          have hpn := hrow'.ne_ hp' (by decide)
          clear kB
          have hdlt : d < 4294967296 := by rw [hd]; exact Hfb.out j
          have j1 : (kk : Int) ≤ (L.length : Int) := by omega
          have j2 : (kk : Int) + 4 ≤ (L.length : Int) := by omega
          have j3 : (0 : Int) ≤ (kk : Int) + 4 := by omega
          have j4 : (kk : Int) ≤ (kk : Int) + 4 := by omega
          have j5 : (kk : Int) + 4 ≤ 100 := by have := H40.out; omega
          have j6 : (kk : Int) ≤ (cap : Int) := by have := Hcap.out; omega
          have hsz' : x.size = L.length := Hsz.out
          obtain ⟨z0, hz0⟩ : ∃ z, z = atL L kk := ⟨_, rfl⟩
          have hz0lt : z0 < 4294967296 := by rw [hz0]; exact numL_lt _
          obtain ⟨z, hz⟩ : ∃ z, z = (z0 + d) % 4294967296 := ⟨_, rfl⟩
          have hzlt : z < 4294967296 := by omega
          have hzi : ((z0 : Int) + (d : Int)) % 4294967296 = (z : Int) := by omega
          have e2 : (x.extract kk (kk + 4)).data.toList = (L.drop kk).take 4 := by rw [ext_list x L Hx.out, show kk + 4 - kk = 4 by omega]
          have hS0 : Out (fun i => i = gr) wr wr.drew := Out.of_below (Below.drew (Below.refl _ _))
          have ne : Nonempty (Cls (fun W => Out (fun i => i = gr) wr W)) := ⟨⟨_, hS0⟩⟩
          have hSb : ∀ w w', Out (fun i => i = gr) wr w → Below w.heap.size w w' → Out (fun i => i = gr) wr w' := fun w w' h hb => Out.trans h (Out.of_below (O := fun _ => False) hb) (fun _ _ e => e.elim)
          have qp : ∀ y : Cls (fun W => Out (fun i => i = gr) wr W), y.w.cell? ⟨gp, 0, none⟩ = some (.slice (some ⟨gr, 0, none⟩) L.length cap) := fun y => by
            have h : Blk y.w gp 46 #[.slice (some ⟨gr, 0, none⟩) L.length cap] := (y.h.block gp hp'.lt hpn).trans hp'
            have := h.cell 0
            simpa using this
          have qs : ∀ y : Cls (fun W => Out (fun i => i = gr) wr W), y.w.cell? ⟨gs, 0, none⟩ = some (.string x) := fun y => by
            have h : Blk y.w gs 9 #[.string x] := (y.h.block gs hs'.lt hsn).trans hs'
            have := h.cell 0
            simpa using this
          have n1 : ∀ y : Cls (fun W => Out (fun i => i = gr) wr W), Calls Try.prog 26 #[.string (x.extract kk (kk + 4))] y.w fun e w'' => e = .returned (.int .u32 (z0 : Int)) ∧ Out (fun i => i = gr) wr w'' ∧ RApp 13 (some gr) 8 y.w w'' := fun y => (number_any _ y.w (by simp [maxLen]; omega)).mono fun e w' ⟨he, hb⟩ => ⟨by rw [he, e2, hz0]; rfl, hSb _ _ y.h hb, RApp.of_below hb⟩
          have cf1 : ∀ (vals : Array Value) (w : World), (callFunc 26 vals).run Try.prog w = .ok (.enter 26 vals) w := fun _ _ => by kernel_rfl
          have cf2 : ∀ (vals : Array Value) (w : World), (callFunc 31 vals).run Try.prog w = .ok (.enter 31 vals) w := fun _ _ => by kernel_rfl
          have rb1 : ∀ w : World, (Instr.buildSlice 63 1 #[(0, .int .u32 (((z0 : Int) + (d : Int)) % 4294967296))]).run Try.prog w = .ok (.slice (some ⟨w.heap.size, 0, none⟩) 1 1) (w.alloc (.cells #[.int .u32 (((z0 : Int) + (d : Int)) % 4294967296)] 24)) := fun _ => by kernel_rfl
          have hhigh : ∀ (y : Cls (fun W => Out (fun i => i = gr) wr W)) (u : Value), rowAt wr.heap.size 24 #[.int .u32 (((z0 : Int) + (d : Int)) % 4294967296)] 1 [u] y.w → Calls Try.prog 31 #[.int .i64 4, u] y.w fun e w'' => e = .returned (.string ⟨(be4 z).toArray⟩) ∧ Out (fun i => i = gr) wr w'' ∧ RApp 13 (some gr) 12 y.w w'' := by
            rintro y u ⟨g', e, _, hkk2⟩
            injection e with e
            subst e
            rw [hzi] at hkk2
            refine (ohigh32 y.w g' [z] _ (by intro v hv; simp at hv; subst hv; exact hzlt) rfl hkk2 (by simp) (by simp)).mono ?_
            rintro e w'' ⟨rfl, hb⟩
            exact ⟨by simp, hSb _ _ y.h hb, RApp.of_below hb⟩
          have hcopy : ∀ W', Out (fun i => i = gr) wr W' → untilU [(13, fun W => RowB W gr M')] 13 W' → ∃ W'', (Builtin.copy_ #[46, 9] 3 #[.slice (some ⟨gr, kk, none⟩) (L.length - kk) (cap - kk), .string ⟨(be4 z).toArray⟩]).run Try.prog W' = .ok (.int .i64 4) W'' ∧ RowB W'' gr (putL M' kk z) ∧ Out (fun i => i = gr) wr W'' ∧ RApp 13 (some gr) 13 W' W'' := by
            intro W' hW' hut
            have hrw : RowB W' gr M' := hut _ List.mem_cons_self rfl
            obtain ⟨W'', c1, c2, c3⟩ := run_copy_rowB W' gr kk (L.length - kk) (cap - kk) ⟨(be4 z).toArray⟩ M' (be4 z) rfl hrw (by rw [be4_len]; omega) (by rw [be4_len, hM'l]; exact hkk4)
            exact ⟨W'', c1, c2, Out.trans hW' (Out.grown (O := fun i => i = gr) c3 rfl) (fun _ _ e => e), c3⟩
          have hU0 : ∀ q ∈ ([(13, fun W => RowB W gr M')] : List (Nat × (World → Prop))), q.2 wr.drew := by
            intro q hq
            obtain rfl := List.mem_singleton.1 hq
            exact hrow'
          have hUs : ∀ q ∈ ([(13, fun W => RowB W gr M')] : List (Nat × (World → Prop))), ∀ i w w', i ≠ q.1 → RApp 13 (some gr) i w w' → q.2 w → q.2 w' := by
            intro q hq i w w' hi hr hw
            obtain rfl := List.mem_singleton.1 hq
            exact RowB.below hw (hr.below hi) (RowB.lt hw)
          have hrl : ∀ q, some gr = some q → q < wr.heap.size := fun q hq => by injection hq with hq; rw [← hq]; exact hrow'.lt
          have hck : ¬ cap = kk := by have := Hcap.out; omega
          have hput' : putsL L fby (q - (j + 1)) (j + 1) (i0 + 2 + 4 * (j + 1)) (putL M' kk z) = stepO L bl va ec M (i0, m) := by
            rw [← hput, show q - j = q - (j + 1) + 1 by omega, putsL, ← hkk, ← hd, ← hz0, ← hz, show i0 + 2 + 4 * (j + 1) = kk + 4 by omega]
          have hlen' : (putL M' kk z).length = L.length := by rw [putL_len (by rw [hM'l]; exact hkk4), hM'l]
          have Hput := Lib.hid hput
          clear hput
          have Hrow' := Lib.hid hrow'
          clear hrow'
          have HO' := Lib.hid hO'
          clear hO'
          have Hy' := Lib.hid hy'
          clear hy'
          have Hd := Lib.hid hd
          clear hd
          have Hkk := Lib.hid hkk
          clear hkk
          have Hs' := Lib.hid hs'
          clear hs'
          have Hp' := Lib.hid hp'
          clear hp'
          have Hgn := Lib.hid hgn
          clear hgn
          have Hsn := Lib.hid hsn
          clear hsn
          have Hpn := Lib.hid hpn
          clear hpn
          have HM'l := Lib.hid hM'l
          clear hM'l
          have Hz0 := Lib.hid hz0
          clear hz0
          have Hz := Lib.hid hz
          clear hz
          have Hzi := Lib.hid hzi
          clear hzi
          have E2 := Lib.hid e2
          clear e2
          have HS0 := Lib.hid hS0
          clear hS0
          have HSb := Lib.hid hSb
          clear hSb
          have N1 := Lib.hid n1
          clear n1
          have Cf1 := Lib.hid cf1
          clear cf1
          have Cf2 := Lib.hid cf2
          clear cf2
          have Rb1 := Lib.hid rb1
          clear rb1
          have Hhigh := Lib.hid hhigh
          clear hhigh
          have Hcopy := Lib.hid hcopy
          clear hcopy
          have HU0 := Lib.hid hU0
          clear hU0
          have HUs := Lib.hid hUs
          clear hUs
          have Hrl := Lib.hid hrl
          clear hrl
          have Hput' := Lib.hid hput'
          clear hput'
          have Hlen' := Lib.hid hlen'
          clear hlen'
          have Hkk4 := Lib.hid hkk4
          clear hkk4
          have Hzlt := Lib.hid hzlt
          clear hzlt
          gi_upto_region 18 with fail
          rw [show ((i0 : Int) + 2 + 4 * (j : Int)) = ((kk : Nat) : Int) by rw [Hkk.out]; omega]
          clear hyc
          refine wpIn_region_flowu 14 (fun W => Out (fun i => i = gr) wr W) (RApp 13 (some gr)) [(13, fun W => RowB W gr M')] (by kernel_rfl) (by rintro ⟨_, _, h⟩; exact h) (by kernel_rfl) (by kernel_rfl) (by kernel_rfl) RApp.refl HUs.out HU0.out HS0.out ?_
          simp only [List.take_succ_cons, List.take_zero, List.drop_succ_cons, List.drop_zero]
          repeat (first
            | (refine flowu_quiet RApp.refl rfl rfl rfl rfl ?_; intro K hK; go_big_quiet_op; go_big_quiet_on)
            | (refine flowu_call Cf1.out _ ?_ rfl rfl rfl _ N1.out wr ?_; (focus (simp only [List.map_toArray, List.map_cons, List.map_nil]; rfl)); intro K hK; go_big_quiet_op; go_big_quiet_on))
          refine flowx_build wr.heap.size (E := 24) #[(0, .int .u32 (((z0 : Int) + (d : Int)) % 4294967296))] ?_ #[.int .u32 (((z0 : Int) + (d : Int)) % 4294967296)] Rb1.out HSb.out (fun w h => h.size) Hrl.out rfl rfl rfl wr ?_
          focus (simp only [List.map_toArray, List.map_cons, List.map_nil]; rfl)
          intro K hK; go_big_quiet_op; go_big_quiet_on
          refine flowu_callY Cf2.out (.string ⟨(be4 z).toArray⟩) (fun u => #[.int .i64 4, u]) 0 rfl rfl (fun f => by rfl) Hhigh.out rfl rfl wr ?_
          intro K hK; go_big_quiet_op; go_big_quiet_on
          refine flowu_do (.int .i64 4) (fun _ W => RowB W gr (putL M' kk z)) (fun l i w w' hi hr h => RowB.below h (hr.below hi) (RowB.lt h)) (fun _ _ h => by cases h) rfl (fun W hW hut => by
            obtain ⟨W', h1, h2, h3, h4⟩ := Hcopy.out W hW hut
            refine ⟨W', ?_, h2, h3, h4⟩
            simp [execOp, resolve, invoke, builtin, Act.eval, h1, Result.andThen, hck]) rfl rfl wr ?_
          intro K hK; go_big_quiet_op; go_big_quiet_on
          refine flowu_nil ?_
          intro W5 f hW5 hF5
          have hk5 : RowB W5 gr (putL M' kk z) := hF5 _ (.head _)
          clear hF5
          simp only [fillW]
          have hO5 : Out (fun i => i = gr) W W5 := Out.trans HO'.out hW5 (fun _ _ e => e)
          have hy5 := (hW5.block gy Hy'.out.lt Hgn.out).trans Hy'.out
          have hy5 : Blk W5 gy 24 cs := hy5
          generalize f 72 = v72
          clear hW5 ne qp qs
          have Hk5 := Lib.hid hk5
          clear hk5
          have HO5 := Lib.hid hO5
          clear hO5
          have Hy5 := Lib.hid hy5
          clear hy5
          simp only [Act.put, List.setIfInBounds_toArray, List.set_cons_succ, List.set_cons_zero]
          simp only [wpList, Exit.inBlock, Exit.then]
          go_at_K
          gi_wp2
          go_roundw
          case rel => exact ⟨j + 1, putL M' kk z, by go_num, by omega, Hlen'.out, Hput'.out, Hk5.out, HO5.out, Hy5.out⟩
          case measure => simp [intOf]; omega
        · have hje : j = q := by omega
          have hM' : M' = stepO L bl va ec M (i0, m) := by
            rw [← hput, hje, Nat.sub_self]
            rfl
          have i1 : ¬ (j : Int) < (q : Int) := by omega
          clear hput hje
          have Hrow' := Lib.hid hrow'
          clear hrow'
          have HO' := Lib.hid hO'
          clear hO'
          have Hy' := Lib.hid hy'
          clear hy'
          have HM' := Lib.hid hM'
          clear hM'
          have HM'l := Lib.hid hM'l
          clear hM'l
          gi_wp2
          exact TurnI.next HI.out HO'.out Hrow'.out (HM'.out.trans Hnext.out) hwr HgrB.out
    by_cases h5 : k = 5
    · have t8 : ((k : Int) == 8) = false := by simp; omega
      have t5 : ((k : Int) == 5) = true := by rw [h5]; rfl
      have hm4 : m = 10 ∨ m = 18 ∨ m = 26 ∨ m = 34 := by have := R2.out; rw [h5] at this; simp [longB] at this; omega
      have hst2' : stepO L bl va ec M (i0, m) = putsL L (fun _ => bl) ((m - 2) / 4) 0 (i0 + 2) M := stepO_blocks (by rw [← Hk.out]; exact h5)
      obtain ⟨q, hq⟩ : ∃ q, q = (m - 2) / 4 := ⟨_, rfl⟩
      obtain ⟨fby, hf⟩ : ∃ f : Nat → Nat, f = fun _ => bl := ⟨_, rfl⟩
      have hst2 : stepO L bl va ec M (i0, m) = putsL L fby q 0 (i0 + 2) M := by rw [hf, hq]; exact hst2'
      have hq8 : q ≤ 8 := by omega
      have hqm : 2 + 4 * q ≤ m := by omega
      have hqi : ((m : Int) - 2) / 4 = (q : Int) := by omega
      have hqq : q = 2 ∨ q = 4 ∨ q = 6 ∨ q = 8 := by omega
      have hm2 : (2 : Int) ≤ (m : Int) := by omega
      have hrep := rep_any (W.alloc (.cells #[.int .u32 (bl : Int)] 24)) W.heap.size 1 (bl : Int) (Blk.new _ _ _) q hqq
      rw [← hqi] at hrep
      have hal : Below W.heap.size W (W.alloc (.cells #[.int .u32 (bl : Int)] 24)) := (Below.refl _ _).alloc (Nat.le_refl _) _
      clear hst2' h5 hqi
      have Hrep := Lib.hid hrep
      clear hrep
      have Hal := Lib.hid hal
      clear hal
      have Hst2 := Lib.hid hst2
      clear hst2
      have Hq := Lib.hid hq
      clear hq
      have Hf := Lib.hid hf
      clear hf
      have Hm4 := Lib.hid hm4
      clear hm4
      have Hqq := Lib.hid hqq
      clear hqq
      gi_wp2_with fail
      refine ⟨trivial, ?_⟩
      refine (CallsIn.inRound l (callsIn_wide.2 Hrep.out)).mono ?_
      rintro e W1 ⟨gy, rfl, hy, _, hbq⟩
      have hbw : Below W.heap.size W W1 := Hal.out.trans (hbq.mono Hal.out.size)
      have hrow1 := Hrow.out.below hbw Hrow.out.lt
      have hO1 : Out (fun i => i = gr) W W1 := Out.of_below hbw
      obtain ⟨cs, hcse⟩ : ∃ cs : Array Value, cs = (List.replicate q (Value.int .u32 (bl : Int))).toArray := ⟨_, rfl⟩
      rw [← hcse] at hy
      have hcs : ∀ j, j < q → cs[j]? = some (.int .u32 ((fby j : Nat) : Int)) := by
        intro j hj
        rw [hcse, Hf.out]
        simp [hj]
      have hfb : ∀ j, fby j < 4294967296 := by intro j; rw [Hf.out]; exact hbl
      have hst2 := Hst2.out
      clear Hst2 hbq hbw hcse
      gi_upto_region 14 with fail
      have hal2 := hO1
      have Hy := Lib.hid hy
      clear hy
      have HO1 := Lib.hid hO1
      clear hO1
      have Hrow1 := Lib.hid hrow1
      clear hrow1
      have Hcs := Lib.hid hcs
      clear hcs
      have Hfb := Lib.hid hfb
      clear hfb
      have Hst2 := Lib.hid hst2
      clear hst2
      have Hq8 := Lib.hid hq8
      clear hq8
      have Hqm := Lib.hid hqm
      clear hqm
      gi_wp2_with fail
      gi_loopw [51] (fun i wr => ∃ (j : Nat) (M' : List UInt8), i = .int .i64 (j : Int) ∧ j ≤ q ∧ M'.length = L.length ∧ putsL L fby (q - j) j (i0 + 2 + 4 * j) M' = stepO L bl va ec M (i0, m) ∧ RowB wr gr M' ∧ Out (fun i => i = gr) W wr ∧ Blk wr gy 24 cs) (fun i _ => q - (intOf i).toNat)
      case atStart => exact ⟨0, M, rfl, Nat.zero_le _, HMl.out, Hst2.out.symm, Hrow1.out, HO1.out, Hy.out⟩
      case round =>
        obtain ⟨j, M', rfl, hj, hM'l, hput, hrow', hO', hy'⟩ := hrel
        clear hal2
        by_cases hjq : j < q
        · have i1 : (j : Int) < (q : Int) := by omega
          have i8 : (j : Int) < 8 := by have := Hq8.out; omega
          obtain ⟨d, hd⟩ : ∃ d, d = fby j := ⟨_, rfl⟩
          have hyc : wr.cell? ⟨gy, j, none⟩ = some (.int .u32 (d : Int)) := by rw [hy'.cell j, Hcs.out j hjq, hd]
          obtain ⟨kk, hkk⟩ : ∃ kk, kk = i0 + 2 + 4 * j := ⟨_, rfl⟩
          have hkk4 : kk + 4 ≤ L.length := by have := Hqm.out; have := R3.out; omega
          have i3 : (i0 : Int) ≤ 40 := by have := H40.out; have := Hi.out; omega
          have kB : ∀ {g : Nat} {t : TypeId} {c : Array Value}, Blk W g t c → t ≠ 5 → Blk wr g t c := fun {g t c} h ht => (hO'.block g h.lt (Hrow.out.ne_ h ht)).trans h
          have hs' := kB Hs.out (by decide)
          have hp' := kB Hp.out (by decide)
          have hgn := hrow'.ne_ hy' (by decide)
          have hsn := hrow'.ne_ hs' (by decide)
          have hpn := hrow'.ne_ hp' (by decide)
          clear kB
          have hdlt : d < 4294967296 := by rw [hd]; exact Hfb.out j
          have j1 : (kk : Int) ≤ (L.length : Int) := by omega
          have j2 : (kk : Int) + 4 ≤ (L.length : Int) := by omega
          have j3 : (0 : Int) ≤ (kk : Int) + 4 := by omega
          have j4 : (kk : Int) ≤ (kk : Int) + 4 := by omega
          have j5 : (kk : Int) + 4 ≤ 100 := by have := H40.out; omega
          have j6 : (kk : Int) ≤ (cap : Int) := by have := Hcap.out; omega
          have hsz' : x.size = L.length := Hsz.out
          obtain ⟨z0, hz0⟩ : ∃ z, z = atL L kk := ⟨_, rfl⟩
          have hz0lt : z0 < 4294967296 := by rw [hz0]; exact numL_lt _
          obtain ⟨z, hz⟩ : ∃ z, z = (z0 + d) % 4294967296 := ⟨_, rfl⟩
          have hzlt : z < 4294967296 := by omega
          have hzi : ((z0 : Int) + (d : Int)) % 4294967296 = (z : Int) := by omega
          have e2 : (x.extract kk (kk + 4)).data.toList = (L.drop kk).take 4 := by rw [ext_list x L Hx.out, show kk + 4 - kk = 4 by omega]
          have hS0 : Out (fun i => i = gr) wr wr.drew := Out.of_below (Below.drew (Below.refl _ _))
          have ne : Nonempty (Cls (fun W => Out (fun i => i = gr) wr W)) := ⟨⟨_, hS0⟩⟩
          have hSb : ∀ w w', Out (fun i => i = gr) wr w → Below w.heap.size w w' → Out (fun i => i = gr) wr w' := fun w w' h hb => Out.trans h (Out.of_below (O := fun _ => False) hb) (fun _ _ e => e.elim)
          have qp : ∀ y : Cls (fun W => Out (fun i => i = gr) wr W), y.w.cell? ⟨gp, 0, none⟩ = some (.slice (some ⟨gr, 0, none⟩) L.length cap) := fun y => by
            have h : Blk y.w gp 46 #[.slice (some ⟨gr, 0, none⟩) L.length cap] := (y.h.block gp hp'.lt hpn).trans hp'
            have := h.cell 0
            simpa using this
          have qs : ∀ y : Cls (fun W => Out (fun i => i = gr) wr W), y.w.cell? ⟨gs, 0, none⟩ = some (.string x) := fun y => by
            have h : Blk y.w gs 9 #[.string x] := (y.h.block gs hs'.lt hsn).trans hs'
            have := h.cell 0
            simpa using this
          have n1 : ∀ y : Cls (fun W => Out (fun i => i = gr) wr W), Calls Try.prog 26 #[.string (x.extract kk (kk + 4))] y.w fun e w'' => e = .returned (.int .u32 (z0 : Int)) ∧ Out (fun i => i = gr) wr w'' ∧ RApp 13 (some gr) 8 y.w w'' := fun y => (number_any _ y.w (by simp [maxLen]; omega)).mono fun e w' ⟨he, hb⟩ => ⟨by rw [he, e2, hz0]; rfl, hSb _ _ y.h hb, RApp.of_below hb⟩
          have cf1 : ∀ (vals : Array Value) (w : World), (callFunc 26 vals).run Try.prog w = .ok (.enter 26 vals) w := fun _ _ => by kernel_rfl
          have cf2 : ∀ (vals : Array Value) (w : World), (callFunc 31 vals).run Try.prog w = .ok (.enter 31 vals) w := fun _ _ => by kernel_rfl
          have rb1 : ∀ w : World, (Instr.buildSlice 63 1 #[(0, .int .u32 (((z0 : Int) + (d : Int)) % 4294967296))]).run Try.prog w = .ok (.slice (some ⟨w.heap.size, 0, none⟩) 1 1) (w.alloc (.cells #[.int .u32 (((z0 : Int) + (d : Int)) % 4294967296)] 24)) := fun _ => by kernel_rfl
          have hhigh : ∀ (y : Cls (fun W => Out (fun i => i = gr) wr W)) (u : Value), rowAt wr.heap.size 24 #[.int .u32 (((z0 : Int) + (d : Int)) % 4294967296)] 1 [u] y.w → Calls Try.prog 31 #[.int .i64 4, u] y.w fun e w'' => e = .returned (.string ⟨(be4 z).toArray⟩) ∧ Out (fun i => i = gr) wr w'' ∧ RApp 13 (some gr) 12 y.w w'' := by
            rintro y u ⟨g', e, _, hkk2⟩
            injection e with e
            subst e
            rw [hzi] at hkk2
            refine (ohigh32 y.w g' [z] _ (by intro v hv; simp at hv; subst hv; exact hzlt) rfl hkk2 (by simp) (by simp)).mono ?_
            rintro e w'' ⟨rfl, hb⟩
            exact ⟨by simp, hSb _ _ y.h hb, RApp.of_below hb⟩
          have hcopy : ∀ W', Out (fun i => i = gr) wr W' → untilU [(13, fun W => RowB W gr M')] 13 W' → ∃ W'', (Builtin.copy_ #[46, 9] 3 #[.slice (some ⟨gr, kk, none⟩) (L.length - kk) (cap - kk), .string ⟨(be4 z).toArray⟩]).run Try.prog W' = .ok (.int .i64 4) W'' ∧ RowB W'' gr (putL M' kk z) ∧ Out (fun i => i = gr) wr W'' ∧ RApp 13 (some gr) 13 W' W'' := by
            intro W' hW' hut
            have hrw : RowB W' gr M' := hut _ List.mem_cons_self rfl
            obtain ⟨W'', c1, c2, c3⟩ := run_copy_rowB W' gr kk (L.length - kk) (cap - kk) ⟨(be4 z).toArray⟩ M' (be4 z) rfl hrw (by rw [be4_len]; omega) (by rw [be4_len, hM'l]; exact hkk4)
            exact ⟨W'', c1, c2, Out.trans hW' (Out.grown (O := fun i => i = gr) c3 rfl) (fun _ _ e => e), c3⟩
          have hU0 : ∀ q ∈ ([(13, fun W => RowB W gr M')] : List (Nat × (World → Prop))), q.2 wr.drew := by
            intro q hq
            obtain rfl := List.mem_singleton.1 hq
            exact hrow'
          have hUs : ∀ q ∈ ([(13, fun W => RowB W gr M')] : List (Nat × (World → Prop))), ∀ i w w', i ≠ q.1 → RApp 13 (some gr) i w w' → q.2 w → q.2 w' := by
            intro q hq i w w' hi hr hw
            obtain rfl := List.mem_singleton.1 hq
            exact RowB.below hw (hr.below hi) (RowB.lt hw)
          have hrl : ∀ q, some gr = some q → q < wr.heap.size := fun q hq => by injection hq with hq; rw [← hq]; exact hrow'.lt
          have hck : ¬ cap = kk := by have := Hcap.out; omega
          have hput' : putsL L fby (q - (j + 1)) (j + 1) (i0 + 2 + 4 * (j + 1)) (putL M' kk z) = stepO L bl va ec M (i0, m) := by
            rw [← hput, show q - j = q - (j + 1) + 1 by omega, putsL, ← hkk, ← hd, ← hz0, ← hz, show i0 + 2 + 4 * (j + 1) = kk + 4 by omega]
          have hlen' : (putL M' kk z).length = L.length := by rw [putL_len (by rw [hM'l]; exact hkk4), hM'l]
          have Hput := Lib.hid hput
          clear hput
          have Hrow' := Lib.hid hrow'
          clear hrow'
          have HO' := Lib.hid hO'
          clear hO'
          have Hy' := Lib.hid hy'
          clear hy'
          have Hd := Lib.hid hd
          clear hd
          have Hkk := Lib.hid hkk
          clear hkk
          have Hs' := Lib.hid hs'
          clear hs'
          have Hp' := Lib.hid hp'
          clear hp'
          have Hgn := Lib.hid hgn
          clear hgn
          have Hsn := Lib.hid hsn
          clear hsn
          have Hpn := Lib.hid hpn
          clear hpn
          have HM'l := Lib.hid hM'l
          clear hM'l
          have Hz0 := Lib.hid hz0
          clear hz0
          have Hz := Lib.hid hz
          clear hz
          have Hzi := Lib.hid hzi
          clear hzi
          have E2 := Lib.hid e2
          clear e2
          have HS0 := Lib.hid hS0
          clear hS0
          have HSb := Lib.hid hSb
          clear hSb
          have N1 := Lib.hid n1
          clear n1
          have Cf1 := Lib.hid cf1
          clear cf1
          have Cf2 := Lib.hid cf2
          clear cf2
          have Rb1 := Lib.hid rb1
          clear rb1
          have Hhigh := Lib.hid hhigh
          clear hhigh
          have Hcopy := Lib.hid hcopy
          clear hcopy
          have HU0 := Lib.hid hU0
          clear hU0
          have HUs := Lib.hid hUs
          clear hUs
          have Hrl := Lib.hid hrl
          clear hrl
          have Hput' := Lib.hid hput'
          clear hput'
          have Hlen' := Lib.hid hlen'
          clear hlen'
          have Hkk4 := Lib.hid hkk4
          clear hkk4
          have Hzlt := Lib.hid hzlt
          clear hzlt
          gi_upto_region 18 with fail
          rw [show ((i0 : Int) + 2 + 4 * (j : Int)) = ((kk : Nat) : Int) by rw [Hkk.out]; omega]
          clear hyc
          refine wpIn_region_flowu 14 (fun W => Out (fun i => i = gr) wr W) (RApp 13 (some gr)) [(13, fun W => RowB W gr M')] (by kernel_rfl) (by rintro ⟨_, _, h⟩; exact h) (by kernel_rfl) (by kernel_rfl) (by kernel_rfl) RApp.refl HUs.out HU0.out HS0.out ?_
          simp only [List.take_succ_cons, List.take_zero, List.drop_succ_cons, List.drop_zero]
          repeat (first
            | (refine flowu_quiet RApp.refl rfl rfl rfl rfl ?_; intro K hK; go_big_quiet_op; go_big_quiet_on)
            | (refine flowu_call Cf1.out _ ?_ rfl rfl rfl _ N1.out wr ?_; (focus (simp only [List.map_toArray, List.map_cons, List.map_nil]; rfl)); intro K hK; go_big_quiet_op; go_big_quiet_on))
          refine flowx_build wr.heap.size (E := 24) #[(0, .int .u32 (((z0 : Int) + (d : Int)) % 4294967296))] ?_ #[.int .u32 (((z0 : Int) + (d : Int)) % 4294967296)] Rb1.out HSb.out (fun w h => h.size) Hrl.out rfl rfl rfl wr ?_
          focus (simp only [List.map_toArray, List.map_cons, List.map_nil]; rfl)
          intro K hK; go_big_quiet_op; go_big_quiet_on
          refine flowu_callY Cf2.out (.string ⟨(be4 z).toArray⟩) (fun u => #[.int .i64 4, u]) 0 rfl rfl (fun f => by rfl) Hhigh.out rfl rfl wr ?_
          intro K hK; go_big_quiet_op; go_big_quiet_on
          refine flowu_do (.int .i64 4) (fun _ W => RowB W gr (putL M' kk z)) (fun l i w w' hi hr h => RowB.below h (hr.below hi) (RowB.lt h)) (fun _ _ h => by cases h) rfl (fun W hW hut => by
            obtain ⟨W', h1, h2, h3, h4⟩ := Hcopy.out W hW hut
            refine ⟨W', ?_, h2, h3, h4⟩
            simp [execOp, resolve, invoke, builtin, Act.eval, h1, Result.andThen, hck]) rfl rfl wr ?_
          intro K hK; go_big_quiet_op; go_big_quiet_on
          refine flowu_nil ?_
          intro W5 f hW5 hF5
          have hk5 : RowB W5 gr (putL M' kk z) := hF5 _ (.head _)
          clear hF5
          simp only [fillW]
          have hO5 : Out (fun i => i = gr) W W5 := Out.trans HO'.out hW5 (fun _ _ e => e)
          have hy5 := (hW5.block gy Hy'.out.lt Hgn.out).trans Hy'.out
          have hy5 : Blk W5 gy 24 cs := hy5
          generalize f 72 = v72
          clear hW5 ne qp qs
          have Hk5 := Lib.hid hk5
          clear hk5
          have HO5 := Lib.hid hO5
          clear hO5
          have Hy5 := Lib.hid hy5
          clear hy5
          simp only [Act.put, List.setIfInBounds_toArray, List.set_cons_succ, List.set_cons_zero]
          simp only [wpList, Exit.inBlock, Exit.then]
          go_at_K
          gi_wp2
          go_roundw
          case rel => exact ⟨j + 1, putL M' kk z, by go_num, by omega, Hlen'.out, Hput'.out, Hk5.out, HO5.out, Hy5.out⟩
          case measure => simp [intOf]; omega
        · have hje : j = q := by omega
          have hM' : M' = stepO L bl va ec M (i0, m) := by
            rw [← hput, hje, Nat.sub_self]
            rfl
          have i1 : ¬ (j : Int) < (q : Int) := by omega
          clear hput hje
          have Hrow' := Lib.hid hrow'
          clear hrow'
          have HO' := Lib.hid hO'
          clear hO'
          have Hy' := Lib.hid hy'
          clear hy'
          have HM' := Lib.hid hM'
          clear hM'
          have HM'l := Lib.hid hM'l
          clear hM'l
          gi_wp2
          exact TurnI.next HI.out HO'.out Hrow'.out (HM'.out.trans Hnext.out) hwr HgrB.out
    have t8 : ((k : Int) == 8) = false := by simp; omega
    have t5 : ((k : Int) == 5) = false := by simp; omega
    have hst2 : stepO L bl va ec M (i0, m) = M := stepO_other (by rw [← Hk.out]; exact h8) (by rw [← Hk.out]; exact h5)
    clear h8 h5
    have Hst2 := Lib.hid hst2
    clear hst2
    gi_wp2_with fail
    gi_loopw [51] (fun i wr => i = .int .i64 0 ∧ wr = W) (fun i _ => 0)
    case atStart => exact ⟨rfl, rfl⟩
    case round =>
      obtain ⟨rfl, rfl⟩ := hrel
      gi_wp2_with fail
      gi_wp2
      exact TurnI.next HI.out (Out.refl _ _) Hrow.out (Hst2.out.symm.trans Hnext.out) hwr HgrB.out
  case done =>
    rintro D xs W hD hS ⟨hB, hs, hb, hv, hc, hp, hrow⟩ hK
    rw [hS, stepsO L bl va ec Hfine.out] at hrow
    have hlen := turnL_len bl va ec L
    obtain ⟨M, hM⟩ : ∃ M, M = turnL bl va ec L := ⟨_, rfl⟩
    rw [← hM] at hrow hlen
    have hbk := run_bytes_back W ⟨gr, 0, none⟩ L.length cap M hlen.symm (by
      intro j hj
      rw [add_plain, Nat.zero_add, hrow.cell (List.getElem?_eq_getElem hj)]
      rfl)
    have cp0 := hp.cell 0
    try simp at cp0
    have HB := Lib.hid hB
    clear hB
    have Hs := Lib.hid hs
    clear hs
    have Hb := Lib.hid hb
    clear hb
    have Hv := Lib.hid hv
    clear hv
    have Hc := Lib.hid hc
    clear hc
    have Hp := Lib.hid hp
    clear hp
    have Hrow := Lib.hid hrow
    clear hrow
    have Hlen := Lib.hid hlen
    clear hlen
    have HM := Lib.hid hM
    clear hM
    have HS := Lib.hid hS
    clear hS
    gi_wp2_with fail
    gi_wp2
    refine ⟨by simp, .inl ⟨_, _, rfl, run_takeDeferred hK, ?_⟩⟩
    refine ⟨.tuple #[.string ⟨M.toArray⟩, .int .i64 0], by simp [results, Try.results19, go_sem], ?_⟩
    unfold TurnPost
    rw [HTR.out, ← HM.out]
    exact ⟨rfl, HB.out.trans (belowK_b (w := w) (Nat.le_refl _) W D _ _ (Nat.le_trans hBs5 hD) hK rfl rfl)⟩
  case stop =>
    rintro D c pre W _ _ h _
    exact h.elim
set_option maxHeartbeats 4000000 in
theorem turn_no (x : ByteArray) (L : List UInt8) (hx : x.data.toList = L) (hd : (decR L).2 ≠ 0) (bl va ec : Nat) (w : World) :
    Calls Try.prog 19 #[.string x, .int .u32 (bl : Int), .int .u32 (va : Int), .int .u32 (ec : Int)] w (TurnPost bl va ec w L) := by
  have hdec := dec_any x
  rw [hx] at hdec
  have hb0 : Below w.heap.size w w := Below.refl _ _
  have HB := Lib.hid hb0
  clear hb0
  have Hx := Lib.hid hx
  clear hx
  have Hd := Lib.hid hd
  clear hd
  have Hdec := Lib.hid hdec
  clear hdec
  go_enter Try.func19, Try.ntmps19
  go_upto_region 1 with fail
  have hs := Blk.alloc (Blk.alloc (Blk.alloc (Blk.new w 9 #[.string x]) (.cells #[.int .u32 (bl : Int)] 24)) (.cells #[.int .u32 (va : Int)] 24)) (.cells #[.int .u32 (ec : Int)] 24)
  have hb := Blk.alloc (Blk.alloc (Blk.new (w.alloc (.cells #[.string x] 9)) 24 #[.int .u32 (bl : Int)]) (.cells #[.int .u32 (va : Int)] 24)) (.cells #[.int .u32 (ec : Int)] 24)
  rw [show (w.alloc (.cells #[.string x] 9)).heap.size = w.heap.size + 1 by simp] at hb
  have hv := Blk.alloc (Blk.new ((w.alloc (.cells #[.string x] 9)).alloc (.cells #[.int .u32 (bl : Int)] 24)) 24 #[.int .u32 (va : Int)]) (.cells #[.int .u32 (ec : Int)] 24)
  rw [show ((w.alloc (.cells #[.string x] 9)).alloc (.cells #[.int .u32 (bl : Int)] 24)).heap.size = w.heap.size + 2 by simp] at hv
  have hc := Blk.new (((w.alloc (.cells #[.string x] 9)).alloc (.cells #[.int .u32 (bl : Int)] 24)).alloc (.cells #[.int .u32 (va : Int)] 24)) 24 #[.int .u32 (ec : Int)]
  rw [show (((w.alloc (.cells #[.string x] 9)).alloc (.cells #[.int .u32 (bl : Int)] 24)).alloc (.cells #[.int .u32 (va : Int)] 24)).heap.size = w.heap.size + 3 by simp] at hc
  have hB := Below.alloc (Below.alloc (Below.alloc (Below.alloc (HB.out) (Nat.le_trans HB.out.size (by simp <;> omega)) (.cells #[.string x] 9)) (Nat.le_trans HB.out.size (by simp <;> omega)) (.cells #[.int .u32 (bl : Int)] 24)) (Nat.le_trans HB.out.size (by simp <;> omega)) (.cells #[.int .u32 (va : Int)] 24)) (Nat.le_trans HB.out.size (by simp <;> omega)) (.cells #[.int .u32 (ec : Int)] 24)
  clear HB
  obtain ⟨gc, hgec⟩ : ∃ g, g = w.heap.size + 3 := ⟨_, rfl⟩
  rw [← hgec] at hc ⊢
  obtain ⟨gv, hgev⟩ : ∃ g, g = w.heap.size + 2 := ⟨_, rfl⟩
  rw [← hgev] at hv ⊢
  obtain ⟨gb, hgeb⟩ : ∃ g, g = w.heap.size + 1 := ⟨_, rfl⟩
  rw [← hgeb] at hb ⊢
  obtain ⟨gs, hges⟩ : ∃ g, g = w.heap.size := ⟨_, rfl⟩
  rw [← hges] at hs ⊢
  have hne_s_b : gs ≠ gb := by omega
  have hne_s_v : gs ≠ gv := by omega
  have hne_s_c : gs ≠ gc := by omega
  have hne_b_v : gb ≠ gv := by omega
  have hne_b_c : gb ≠ gc := by omega
  have hne_v_c : gv ≠ gc := by omega
  have hle_s : w.heap.size ≤ gs := by omega
  have hle_b : w.heap.size ≤ gb := by omega
  have hle_v : w.heap.size ≤ gv := by omega
  have hle_c : w.heap.size ≤ gc := by omega
  clear hges hgeb hgev hgec
  generalize (((w.alloc _).alloc _).alloc _).alloc _ = wn3 at *
  have Hs := Lib.hid hs
  clear hs
  have Hb := Lib.hid hb
  clear hb
  have Hv := Lib.hid hv
  clear hv
  have Hc := Lib.hid hc
  clear hc
  have HB := Lib.hid hB
  clear hB
  obtain ⟨W1, hW1⟩ : ∃ W, W = wn3 := ⟨_, rfl⟩
  rw [← hW1] at Hs Hb Hv Hc HB ⊢
  clear hW1
  have cs1 := Hs.out.cell 0
  try simp at cs1
  go_wp2_with fail
  with_reducible refine (Hdec.out _).mono ?_
  rintro e w2 ⟨r, A, c, code, rfl, hbr, hbq, hre⟩
  have hs := Hs.out.below hbq Hs.out.lt
  clear Hs
  have Hs := Lib.hid hs
  clear hs
  have hb := Hb.out.below hbq Hb.out.lt
  clear Hb
  have Hb := Lib.hid hb
  clear hb
  have hv := Hv.out.below hbq Hv.out.lt
  clear Hv
  have Hv := Lib.hid hv
  clear hv
  have hc := Hc.out.below hbq Hc.out.lt
  clear Hc
  have Hc := Lib.hid hc
  clear hc
  have hB := HB.out.trans (hbq.mono HB.out.size)
  clear HB
  have HB := Lib.hid hB
  clear hB
  clear hbq hbr cs1
  unfold optC
  have hc0 : ¬ code = 0 := by have := Hd.out; rw [← hre] at this; exact this
  have hc1 : (code != 0) = true := by simp [hc0]
  have hTR : turnR bl va ec L = ([], code) := by
    have : (decR L).2 = code := by rw [← hre]
    unfold turnR
    rw [this, if_neg hc0]
  have HTR := Lib.hid hTR
  clear hTR
  clear hc0 hre
  go_upto_region 2 with fail
  have hq := Blk.new w2 26 #[.int .u16 (r.mss : Int), .int .i64 r.scale, .bool r.sack, .slice A r.bl.length c, .bool r.time, .int .u32 (r.val : Int), .int .u32 (r.echo : Int)]
  have hs := Blk.alloc Hs.out (.cells #[.int .u16 (r.mss : Int), .int .i64 r.scale, .bool r.sack, .slice A r.bl.length c, .bool r.time, .int .u32 (r.val : Int), .int .u32 (r.echo : Int)] 26)
  clear Hs
  have hb := Blk.alloc Hb.out (.cells #[.int .u16 (r.mss : Int), .int .i64 r.scale, .bool r.sack, .slice A r.bl.length c, .bool r.time, .int .u32 (r.val : Int), .int .u32 (r.echo : Int)] 26)
  clear Hb
  have hv := Blk.alloc Hv.out (.cells #[.int .u16 (r.mss : Int), .int .i64 r.scale, .bool r.sack, .slice A r.bl.length c, .bool r.time, .int .u32 (r.val : Int), .int .u32 (r.echo : Int)] 26)
  clear Hv
  have hc := Blk.alloc Hc.out (.cells #[.int .u16 (r.mss : Int), .int .i64 r.scale, .bool r.sack, .slice A r.bl.length c, .bool r.time, .int .u32 (r.val : Int), .int .u32 (r.echo : Int)] 26)
  clear Hc
  have hB := HB.out.alloc HB.out.size (.cells #[.int .u16 (r.mss : Int), .int .i64 r.scale, .bool r.sack, .slice A r.bl.length c, .bool r.time, .int .u32 (r.val : Int), .int .u32 (r.echo : Int)] 26)
  clear HB
  obtain ⟨gq, hge⟩ : ∃ g, g = w2.heap.size := ⟨_, rfl⟩
  rw [← hge] at hq ⊢
  have hle_q : w2.heap.size ≤ gq := by omega
  clear hge
  generalize w2.alloc _ = wn4 at *
  have Hs := Lib.hid hs
  clear hs
  have Hb := Lib.hid hb
  clear hb
  have Hv := Lib.hid hv
  clear hv
  have Hc := Lib.hid hc
  clear hc
  have Hq := Lib.hid hq
  clear hq
  have HB := Lib.hid hB
  clear hB
  go_wp2_with fail
  go_ret2
  unfold TurnPost
  rw [HTR.out]
  exact ⟨rfl, HB.out⟩
theorem turn_any (x : ByteArray) (L : List UInt8) (hx : x.data.toList = L) (bl va ec : Nat) (hbl : bl < 4294967296) (hva : va < 4294967296) (hec : ec < 4294967296) (w : World) :
    Calls Try.prog 19 #[.string x, .int .u32 (bl : Int), .int .u32 (va : Int), .int .u32 (ec : Int)] w (TurnPost bl va ec w L) := by
  by_cases h : (decR L).2 = 0
  · exact callsIn_wide.1 (turn_yes x L hx h bl va ec hbl hva hec w)
  · exact turn_no x L hx h bl va ec w
end Go.Proofs.Ytimepplfaaddeaa
