/- The statement DrawsOnce: the list's numbers are told in order, each once; of those that come by the rule none is the same as another one; for any lists, and however many come by the rule. -/
import Derived.Test.YthoodcpigmmehaaDrawsAlive
import Derived.Test.YthoodcpigmmehaaDrawsOnceP
import Derived.Maps.OwnOps
set_option linter.unusedVariables false
set_option linter.unusedSimpArgs false
namespace Go.Proofs.Ythoodcpigmmehaa.drawsOnce
open Go.ChangeShapes Go.WideShapes Go.ChangeAt Go.RowKit Go.Maps
open Go.ChangeMaps (open_string shut_string)

theorem row_nats {xs : List Int} (h : ∀ x ∈ xs, (Lit.int .u32 x).wf = true) : xs.map (Value.int .u32) = (xs.map Int.toNat).map u32v ∧ ∀ x ∈ xs.map Int.toNat, x < 4294967296 := by
  constructor
  · rw [List.map_map]
    refine List.map_congr_left fun x hx => ?_
    obtain ⟨l, g⟩ := bounds_u32 (h x hx)
    show Value.int .u32 x = Value.int .u32 ((x.toNat : Nat) : Int)
    rw [Int.toNat_of_nonneg (by omega)]
  · intro x hx
    obtain ⟨y, hy, rfl⟩ := List.mem_map.1 hx
    obtain ⟨l, g⟩ := bounds_u32 (h y hy)
    omega
theorem law32 : Keyed Try.prog 32 := int_keyed Try.underlying32
theorem zero64 (w : World) : (zeroValue 3).run Try.prog w = .ok (.int .i64 0) w := by kernel_rfl
theorem reads_nat {w : World} {B : Nat} {A : Option Addr} {l : List Nat} (h : Reads w B 1 A l.length (l.map u32v)) {k : Nat} (hk : k < l.length) : ∃ ad, A = some ad ∧ w.cell? (ad.add k) = some (.int .u32 ((l.getD k 0 : Nat) : Int)) := by
  obtain ⟨ad, u, e, _, hu, hc⟩ := h.at_ hk
  refine ⟨ad, e, hc.trans ?_⟩
  rw [List.getElem?_map, List.getElem?_eq_getElem hk] at hu
  simp only [Option.map_some, Option.some.injEq] at hu
  rw [← hu]
  simp [u32v, List.getD, List.getElem?_eq_getElem hk]
theorem head_drop {L : List Nat} {k last : Nat} (hk : k < L.length) : headN (L.drop k) last = L.getD k 0 := by
  rw [List.drop_eq_getElem_cons hk]
  simp [headN, List.getD, List.getElem?_eq_getElem hk]
/-- the map of what was met -/
def Met (w : World) (g k x : Nat) : Prop := ∃ D : DataW Unit, w.ownsMap Try.prog 32 (plainElem Try.prog 3) g k D ∧ ∀ y : Nat, (∀ j, j < k → y ≠ ruleN x (j + 1)) → D.atKey (.int .u32 (y : Int)) (.lit (.int .i64 0)) = .lit (.int .i64 0)
/-- the first loop: the list's numbers from the k-th on are there -/
def Rel1 (w : World) (b : Nat) (L : List Nat) (k : Nat) (wr : World) : Prop := k ≤ L.length ∧ (∃ A c last, last < 4294967296 ∧ DrAt wr b A c (L.drop k) last k) ∧ Below w.heap.size w wr
/-- the second loop: k numbers came by the rule -/
def Rel2 (w : World) (b g N last k : Nat) (wr : World) : Prop := (∃ A c, DrAt wr b A c [] (ruleN last k) (N + k)) ∧ Met wr g k last ∧ Below w.heap.size w wr
theorem met_put {w' : World} {g k x q : Nat} {D : DataW Unit} (hq : q = ruleN x (k + 1)) (ho : w'.ownsMap Try.prog 32 (plainElem Try.prog 3) g (k + 1) (D.put (.int .u32 (q : Int)) (.lit (.int .i64 1))))
    (hm : ∀ y : Nat, (∀ j, j < k → y ≠ ruleN x (j + 1)) → D.atKey (.int .u32 (y : Int)) (.lit (.int .i64 0)) = .lit (.int .i64 0)) : Met w' g (k + 1) x := by
  refine ⟨_, ho, fun y hy => ?_⟩
  rw [atKey_put_other]
  · exact hm y fun j hj => hy j (by omega)
  · intro e
    injection e with _ e
    have := hy k (by omega)
    omega
theorem Met.kept {w w' : World} {g k x : Nat} {row : Option Nat} (h : Met w g k x) (hg : w.grownBy w' row) (hne : some g ≠ row) : Met w' g k x := by
  obtain ⟨D, h1, h2⟩ := h
  exact ⟨D, h1.kept hg hne, h2⟩
theorem DrAt.far {w w' : World} {b g : Nat} {A : Option Addr} {c last used : Nat} (h : DrAt w b A c [] last used) (hg : w.grownBy w' (some g)) (hne : b ≠ g) : DrAt w' b A c [] last used :=
  ⟨h.1.grown hg (by intro e; injection e with e; exact hne e), .inl rfl, h.2.2⟩
set_option maxRecDepth 100000 in
set_option maxHeartbeats 4000000 in
theorem walk (a0 : Option Addr) (len0 cap0 : Nat) (z0 : List Int) (a1 : Option Addr) (len1 cap1 : Nat) (z1 : List Int) (a2 : Int) (w : World) (w0 : IsRow .u32 w a0 len0 cap0 z0) (w1 : IsRow .u32 w a1 len1 cap1 z1) (w2 : (Lit.int .u16 a2).wf = true) :
    Calls Try.prog 4 #[.slice a0 len0 cap0, .slice a1 len1 cap1, .int .u16 a2] w fun e w' => e = .returned (.bool true) ∧ Below w.heap.size w w' := by
  obtain ⟨g2, h2⟩ := bounds_u16 w2
  have hcap : len0 ≤ cap0 ∧ cap0 ≤ 9223372036854775807 ∧ (a0 = none → cap0 = 0) := by
    rcases w0 with ⟨rfl, rfl, rfl, _⟩ | ⟨x, rfl, h1, h2, _⟩
    · exact ⟨Nat.le_refl _, by omega, fun _ => rfl⟩
    · unfold maxLen at h2; exact ⟨h1, h2, fun h => by cases h⟩
  obtain ⟨x0, hx0, _, hr0, hw0⟩ := w0.reads_
  obtain ⟨x1, hx1, _, hr1, hw1⟩ := w1.reads_
  rw [(row_nats hw0).1] at hr0
  rw [(row_nats hw1).1] at hr1
  have hb0 := (row_nats hw0).2
  have hb1 := (row_nats hw1).2
  have hl0 : (x0.map Int.toNat).length = len0 := by rw [List.length_map, hx0]
  have hl1 : (x1.map Int.toNat).length = len1 := by rw [List.length_map, hx1]
  generalize x0.map Int.toNat = l at *
  generalize x1.map Int.toNat = more at *
  clear w0 w1 w2 hw0 hw1 hx0 hx1 x0 x1
  subst hl0 hl1
  by_cases h1 : 2000 < l.length
  · have i1 : (2000 : Int) < (l.length : Int) := by omega
    clear hr0 hr1 hb0 hb1 hcap
    obtain ⟨n, hn⟩ : ∃ n, n = l.length := ⟨_, rfl⟩
    rw [← hn] at i1 ⊢
    clear hn h1
    go_enter Try.func4, Try.ntmps4
    go_wp2_with fail
    (with_reducible refine (alive_dr _).mono ?_)
    rintro e w2 ⟨rfl, hb⟩
    go_wp2
    go_ret
    exact ⟨rfl, hb⟩
  by_cases h2 : 2000 < more.length
  · have i1 : (l.length : Int) ≤ 2000 := by omega
    have i2 : (2000 : Int) < (more.length : Int) := by omega
    clear hr0 hr1 hb0 hb1 hcap
    generalize l.length = n at *
    generalize more.length = n2 at *
    go_enter Try.func4, Try.ntmps4
    go_wp2_with fail
    (with_reducible refine (alive_dr _).mono ?_)
    rintro e w2 ⟨rfl, hb⟩
    go_wp2
    go_ret
    exact ⟨rfl, hb⟩
  obtain ⟨n, hn⟩ : ∃ n, n = l.length := ⟨_, rfl⟩
  obtain ⟨n2, hn2⟩ : ∃ n, n = more.length := ⟨_, rfl⟩
  have i1 : (n : Int) ≤ 2000 := by omega
  have i2 : (n2 : Int) ≤ 2000 := by omega
  have i3 : (0 : Int) ≤ (n : Int) := by omega
  have i4 : (0 : Int) ≤ (n2 : Int) := by omega
  have htk : l.take 4096 = l := List.take_of_length_le (by omega)
  have hnew := new_at w a0 cap0 l hr0 hcap.2.2 hcap.1 (by omega) hcap.2.1
  rw [htk, ← hn] at hnew
  rw [← hn, ← hn2]
  obtain ⟨L, hL⟩ : ∃ L, L = l ++ more := ⟨_, rfl⟩
  have hLl : L.length = n + n2 := by rw [hL, List.length_append, hn, hn2]
  have hLb : ∀ x ∈ L, x < 4294967296 := by
    intro x hx
    rw [hL] at hx
    rcases List.mem_append.1 hx with h | h
    · exact hb0 x h
    · exact hb1 x h
  have Hn := Lib.hid hn
  clear hn
  have Hn2 := Lib.hid hn2
  clear hn2
  have Hnew := Lib.hid hnew
  clear hnew
  have Hcap := Lib.hid hcap
  clear hcap
  have Hr0 := Lib.hid hr0
  clear hr0
  have Hr1 := Lib.hid hr1
  clear hr1
  have HL := Lib.hid hL
  clear hL
  have HLl := Lib.hid hLl
  clear hLl
  have HLb := Lib.hid hLb
  clear hLb
  clear h1 h2 htk hb0 hb1
  go_enter Try.func4, Try.ntmps4
  go_wp2_with fail
  with_reducible refine Hnew.out.mono ?_
  rintro e w2 ⟨b, rfl, ⟨A1, k1, h1⟩, hB1, hb⟩
  have hr2 := (Hr1.out.below hB1).more hB1.size
  have hadd := add_ok w2 b A1 k1 l 0 0 h1 a1 cap1 more hr2 (by have := Hn.out; have := Hn2.out; omega)
  rw [← HL.out, ← Hn2.out] at hadd
  have Hadd := Lib.hid hadd
  clear hadd
  clear hr2 h1 Hnew
  go_wp2_with fail
  with_reducible refine Hadd.out.mono ?_
  rintro e w3 ⟨rfl, ⟨A3, k3, h3⟩, hg⟩
  have hB3 := below_only hB1 hg hb hB1.size
  clear hg hB1 Hadd
  have H3 := Lib.hid h3
  clear h3
  have HB3 := Lib.hid hB3
  clear hB3
  have hrel0 : Rel1 w b L 0 w3 := ⟨by omega, ⟨A3, k3, 0, by decide, by rw [List.drop_zero]; exact H3.out⟩, HB3.out⟩
  have Hrel0 := Lib.hid hrel0
  clear hrel0
  have Hb := Lib.hid hb
  clear hb
  clear H3 HB3
  go_wp2_with fail
  go_loopw [8] (fun i wr => ∃ k : Nat, i = .int .i64 (k : Int) ∧ Rel1 w b L k wr) (fun i _ => n + n2 - (intOf i).toNat)
  case atStart => exact ⟨0, rfl, Hrel0.out⟩
  case round =>
    clear Hrel0
    obtain ⟨k, rfl, hkl, ⟨A, c, last, hlast, hd⟩, hB⟩ := hrel
    rw [HLl.out] at hkl
    by_cases hk : k < n + n2
    · have hq : L.getD k 0 < 4294967296 := by
        have hkL : k < L.length := by rw [HLl.out]; exact hk
        rw [List.getD, List.getElem?_eq_getElem hkL]
        exact HLb.out _ (List.getElem_mem hkL)
      have i5 : (k : Int) < (n : Int) + (n2 : Int) := by omega
      by_cases hkn : k < n
      · obtain ⟨ad, ha, hc⟩ := reads_nat (Hr0.out.below hB) (k := k) (by rw [← Hn.out]; exact hkn)
        subst ha
        have hv : l.getD k 0 = L.getD k 0 := by
          rw [HL.out, List.getD, List.getD, List.getElem?_append_left (by rw [← Hn.out]; exact hkn)]
        rw [hv] at hc
        clear hv
        have i6 : (k : Int) < (n : Int) := by omega
        have hx2 : headN (L.drop k) last = L.getD k 0 := head_drop (by rw [HLl.out]; exact hk)
        generalize L.getD k 0 = q at *
        have hnx := next_v (w := wr) (b := b) (A := A) (c := c) (l := L.drop k) (last := last) (used := k) hd q q (L.drop (k + 1)) hx2 rfl (by rw [List.tail_drop]) hlast (by omega)
        have hpk := peek_v hd q q hx2 rfl hlast
        have Hnx := Lib.hid hnx
        clear hnx
        have Hpk := Lib.hid hpk
        clear hpk
        have HB := Lib.hid hB
        clear hB
        have Hlast := Lib.hid hlast
        clear hlast
        clear hx2 hd
        go_wp2_with fail
        with_reducible refine Hpk.out.mono ?_
        rintro e w5 ⟨rfl, rfl⟩
        go_wp2_with fail
        with_reducible refine Hnx.out.mono ?_
        rintro e w6 ⟨rfl, ⟨A6, k6, h6⟩, hg⟩
        have hB6 := below_only HB.out hg Hb.out HB.out.size
        have hrel : Rel1 w b L (k + 1) w6 := ⟨by rw [HLl.out]; omega, ⟨A6, k6, q, hq, h6⟩, hB6⟩
        have Hrel := Lib.hid hrel
        clear hrel
        clear hg h6 hB6 Hnx Hpk HB
        go_wp2
        go_roundw
        case rel => exact ⟨k + 1, by go_num, Hrel.out⟩
        case measure => simp [intOf]; omega
      · obtain ⟨j, hj⟩ : ∃ j, k = n + j := ⟨k - n, by omega⟩
        obtain ⟨ad, ha, hc⟩ := reads_nat (Hr1.out.below hB) (k := j) (by rw [← Hn2.out]; omega)
        subst ha
        have hv : more.getD j 0 = L.getD k 0 := by
          rw [HL.out, hj, Hn.out, List.getD, List.getD, List.getElem?_append_right (by omega), Nat.add_sub_cancel_left]
        rw [hv] at hc
        have i6 : (n : Int) ≤ (k : Int) := by omega
        have i7 : (k : Int) - (n : Int) = (j : Int) := by omega
        have i8 : (j : Int) < (n2 : Int) := by omega
        have i9 : (0 : Int) ≤ (j : Int) := by omega
        clear hv hj
        have hx2 : headN (L.drop k) last = L.getD k 0 := head_drop (by rw [HLl.out]; exact hk)
        generalize L.getD k 0 = q at *
        have hnx := next_v (w := wr) (b := b) (A := A) (c := c) (l := L.drop k) (last := last) (used := k) hd q q (L.drop (k + 1)) hx2 rfl (by rw [List.tail_drop]) hlast (by omega)
        have hpk := peek_v hd q q hx2 rfl hlast
        have Hnx := Lib.hid hnx
        clear hnx
        have Hpk := Lib.hid hpk
        clear hpk
        have HB := Lib.hid hB
        clear hB
        have Hlast := Lib.hid hlast
        clear hlast
        clear hx2 hd
        go_wp2_with fail
        with_reducible refine Hpk.out.mono ?_
        rintro e w5 ⟨rfl, rfl⟩
        go_wp2_with fail
        with_reducible refine Hnx.out.mono ?_
        rintro e w6 ⟨rfl, ⟨A6, k6, h6⟩, hg⟩
        have hB6 := below_only HB.out hg Hb.out HB.out.size
        have hrel : Rel1 w b L (k + 1) w6 := ⟨by rw [HLl.out]; omega, ⟨A6, k6, q, hq, h6⟩, hB6⟩
        have Hrel := Lib.hid hrel
        clear hrel
        clear hg h6 hB6 Hnx Hpk HB
        go_wp2
        go_roundw
        case rel => exact ⟨k + 1, by go_num, Hrel.out⟩
        case measure => simp [intOf]; omega
    · have hke : k = n + n2 := by omega
      have hnil : L.drop k = [] := List.drop_eq_nil_of_le (by rw [HLl.out]; omega)
      rw [hnil] at hd
      have i5 : (n : Int) + (n2 : Int) ≤ (k : Int) := by omega
      have hmm := @run_makeMap Try.prog
      have hbl := hd.lt
      have hd2 := hd.below ((Below.refl _ _).alloc (Nat.le_refl _) (.map #[] 0))
      have hmet : Met (wr.alloc (.map #[] 0)) wr.heap.size 0 last := ⟨.map [], World.ownsMap_made _ _ _ _, fun _ _ => rfl⟩
      have hB4 := hB.alloc hB.size (.map #[] 0)
      obtain ⟨g, hg⟩ : ∃ g, g = wr.heap.size := ⟨_, rfl⟩
      obtain ⟨m, hm⟩ : ∃ m : Nat, (m : Int) = a2 % 3000 := ⟨(a2 % 3000).toNat, by omega⟩
      have hm3 : m < 3000 := by omega
      have hwg : w.heap.size ≤ g := by rw [hg]; exact hB.size
      have hbg : b ≠ g := by omega
      rw [← hg] at hmet
      have hkk : (k : Int) ≤ 4000 := by omega
      have Hd2 := Lib.hid hd2
      clear hd2
      have Hmet := Lib.hid hmet
      clear hmet
      have HB4 := Lib.hid hB4
      clear hB4
      have Hg := Lib.hid hg
      clear hg
      have Hm := Lib.hid hm
      clear hm
      have Hwg := Lib.hid hwg
      clear hwg
      have Hbg := Lib.hid hbg
      clear hbg
      have Hlast := Lib.hid hlast
      clear hlast
      have Hke := Lib.hid hke
      clear hke
      clear hd hB hbl hnil hk
      go_wp2_with fail
      rw [← Hg.out]
      clear hmm
      generalize wr.alloc _ = w4 at *
      have hm2 : a2 % 3000 = (m : Int) := Hm.out.symm
      have hm4 : (0 : Int) ≤ (m : Int) := by omega
      have hm5 : (m : Int) < 3000 := by omega
      have hrel0 : Rel2 w b g k last 0 w4 := ⟨⟨A, c, Hd2.out⟩, Hmet.out, HB4.out⟩
      have Hrel0 := Lib.hid hrel0
      clear hrel0
      clear Hd2 Hmet HB4
      go_loopw [11] (fun i wr => ∃ j : Nat, i = .int .i64 (j : Int) ∧ j ≤ m ∧ Rel2 w b g k last j wr) (fun i _ => m - (intOf i).toNat)
      case atStart => exact ⟨0, rfl, Nat.zero_le _, Hrel0.out⟩
      case round =>
        clear Hrel0
        obtain ⟨j, rfl, hjm, ⟨A5, c5, hd5⟩, hmet5, hB5⟩ := hrel
        by_cases hj : j < m
        · have j1 : (j : Int) < (m : Int) := by omega
          have hql := ruleN_lt Hlast.out j
          obtain ⟨q, hq⟩ : ∃ q, q = ruleN last (j + 1) := ⟨_, rfl⟩
          have hqb : q < 4294967296 := by rw [hq]; exact ruleN_lt Hlast.out _
          have hnx := next_v hd5 q q [] (by rw [hq]; rfl) rfl rfl hql (by omega)
          have Hnx := Lib.hid hnx
          clear hnx
          have Hmet5 := Lib.hid hmet5
          clear hmet5
          have HB5 := Lib.hid hB5
          clear hB5
          have Hq := Lib.hid hq
          clear hq
          have Hql := Lib.hid hql
          clear hql
          clear hd5
          go_wp2_with fail
          with_reducible refine Hnx.out.mono ?_
          rintro e w6 ⟨rfl, ⟨A6, c6, h6⟩, hg6⟩
          have hB6 := below_only HB5.out hg6 Hb.out HB5.out.size
          obtain ⟨D, hown, hat0⟩ := Hmet5.out.kept hg6 (by intro e; injection e with e; exact Hbg.out e.symm)
          have hz := hat0 q (fun i hi e => by
            have := ruleN_ne Hlast.out (i := i + 1) (j := j + 1) (by omega) (by omega)
            exact this (by rw [← Hq.out, ← e]))
          have hkey : keyOf Try.prog 32 (.int .u32 (q : Int)) = some (.int .u32 (q : Int)) := keyOf_int_mk Try.underlying32 (by simp [Lit.wf, IntKind.min, IntKind.max, IntKind.signed, IntKind.bits]; omega)
          have hpost : ∀ w7, w7.ownsMap Try.prog 32 (plainElem Try.prog 3) g (j + 1) (D.put (.int .u32 (q : Int)) (.lit (.int .i64 1))) → w6.grownBy w7 (some g) → Rel2 w b g k last (j + 1) w7 := fun w7 ho hg7 =>
            ⟨⟨A6, c6, by have := DrAt.far h6 hg7 Hbg.out; rw [Hq.out] at this; exact this⟩, met_put Hq.out ho hat0, below_only hB6 hg7 Hwg.out hB6.size⟩
          have Hown := Lib.hid hown
          clear hown
          have Hz := Lib.hid hz
          clear hz
          have Hkey := Lib.hid hkey
          clear hkey
          have Hpost := Lib.hid hpost
          clear hpost
          clear hat0 h6 hg6 hB6 Hnx Hmet5 HB5
          go_wp2_with (first
            | (at_lookup; refine wpList_lookup_own_int _ rfl _ _ 43 rfl 32 3 .i64 law32 Try.underlying43 Try.underlying3 (zero64 _) g j _ rfl Hown.out _ _ rfl Hkey.out ?_; intro c hat hwc; rw [Hz.out] at hat; injection hat with hat; injection hat with _ hat; subst hat; clear hwc)
            | (at_mapUpdate; refine wpList_mapUpdate_own _ rfl _ _ _ 43 rfl 32 3 law32 Try.underlying43 _ g j _ rfl Hown.out (by unfold maxLen; omega) _ _ _ rfl rfl Hkey.out _ [] (plainElem_int Try.underlying3 (by decide)) ?_; intro w7 hown7 hgrow7; have hp := Hpost.out w7 hown7 hgrow7; clear hown7 hgrow7; have Hp := Lib.hid hp; clear hp))
          go_roundw
          case rel => exact ⟨j + 1, by go_num, by omega, Hp.out⟩
          case measure => simp [intOf]; omega
        · have hje : j = m := by omega
          have j1 : (m : Int) ≤ (j : Int) := by omega
          have hus := used_v hd5 ((n : Int) + (n2 : Int) + (m : Int)) (by have := Hke.out; omega)
          have Hus := Lib.hid hus
          clear hus
          have HB5 := Lib.hid hB5
          clear hB5
          clear hd5 hmet5 hj hje
          go_wp2_with fail
          with_reducible refine Hus.out.mono ?_
          rintro e w6 ⟨rfl, rfl⟩
          go_wp2_with fail
          with_reducible refine (alive_dr _).mono ?_
          rintro e w7 ⟨rfl, hb7⟩
          go_wp2
          go_ret
          exact ⟨rfl, HB5.out.trans (hb7.mono HB5.out.size)⟩

theorem own : ownKnob Try.prog.godebug = none := by kernel_rfl
theorem laidOut : laidOutB Try.prog = true := by kernel_rfl
set_option maxRecDepth 100000 in
theorem lifted (os : Os) (started : os.Started) (H : Type) (enc : TypeId × Value → H) :
    ReturnsInHanded {} Try.checked os 4 .any (Rows.drawsOnceSpec.pre6 enc Try.prog Try.f4 Rows.drawsOnceRow.domain false) (Rows.drawsOnceSpec.post enc Try.prog Try.f4 false true false false) := by
  refine returnsInHanded_of_change (C := Try.checked) own started (by kernel_rfl) Try.func4
    (ChangeSpec.witness6 (enc := enc) (C := Try.checked) false ⟨#[], #[.slice none 0 0, .slice none 0 0, .int .u16 0], []⟩ 8 (by kernel_rfl) (by kernel_rfl) (by kernel_rfl) (by kernel_rfl)) ?_
  intro W base args ds gs before hval0 hW hcnd _
  have hval : ∀ (j : Nat) t v, Try.f4.params[j]? = some t → args[j]? = some v → Value.okWide Try.prog W .any base t v := hval0
  have hW' := hW
  obtain ⟨p, q, hA0, hV, rfl, hfz, hnd⟩ := hW
  have hA : DataW.TrodAll enc Try.prog W 0 (fun _ => true) true Try.f4.params.toList args.toList ds p := hA0
  rw [Try.params4] at hA hval
  obtain ⟨v0, vs0, d0, ds0, p0, q0, hargs, rfl, rfl, h0, r0⟩ := trodAll_cons hA
  obtain ⟨v1, vs1, d1, ds1, p1, q1, rfl, rfl, rfl, h1, r1⟩ := trodAll_cons r0
  obtain ⟨v2, vs2, d2, ds2, p2, q2, rfl, rfl, rfl, h2, r2⟩ := trodAll_cons r1
  obtain ⟨rfl, rfl, rfl⟩ := trodAll_nil r2
  obtain rfl : args = #[v0, v1, v2] := by cases args; simp_all
  obtain ⟨rfl, rfl⟩ := trodVars_none hV
  obtain ⟨a0, len0, cap0, rfl⟩ := okWide_slice Try.underlying22 (hval 0 22 v0 rfl rfl)
  have k0 := h0
  have lt0 : ∀ x ∈ p0, x.block < W.heap.size := by obtain ⟨m, hm⟩ := k0; exact DataW.trod_lt m _ _ _ hm
  obtain ⟨z0, w0⟩ : ∃ zs, IsRow .u32 W a0 len0 cap0 zs := by
    obtain ⟨fuel, hf⟩ := h0
    rcases open_ints Try.underlying22 Try.underlying32 (by kernel_rfl) hf with ⟨hcs, _⟩ | ⟨x, l, c, zs, hcs, _, hl, hm, hz, _, hcell, hwz⟩
    · simp [Value.cells] at hcs
      obtain ⟨rfl, rfl, rfl⟩ := hcs
      exact ⟨[], .inl ⟨rfl, rfl, rfl, rfl⟩⟩
    · simp [Value.cells] at hcs
      obtain ⟨rfl, rfl, rfl⟩ := hcs
      exact ⟨zs, .inr ⟨_, rfl, hl, hm, by simpa using hz, hcell, hwz⟩⟩
  obtain ⟨a1, len1, cap1, rfl⟩ := okWide_slice Try.underlying22 (hval 1 22 v1 rfl rfl)
  have k1 := h1
  have lt1 : ∀ x ∈ p1, x.block < W.heap.size := by obtain ⟨m, hm⟩ := k1; exact DataW.trod_lt m _ _ _ hm
  obtain ⟨z1, w1⟩ : ∃ zs, IsRow .u32 W a1 len1 cap1 zs := by
    obtain ⟨fuel, hf⟩ := h1
    rcases open_ints Try.underlying22 Try.underlying32 (by kernel_rfl) hf with ⟨hcs, _⟩ | ⟨x, l, c, zs, hcs, _, hl, hm, hz, _, hcell, hwz⟩
    · simp [Value.cells] at hcs
      obtain ⟨rfl, rfl, rfl⟩ := hcs
      exact ⟨[], .inl ⟨rfl, rfl, rfl, rfl⟩⟩
    · simp [Value.cells] at hcs
      obtain ⟨rfl, rfl, rfl⟩ := hcs
      exact ⟨zs, .inr ⟨_, rfl, hl, hm, by simpa using hz, hcell, hwz⟩⟩
  obtain ⟨a2, rfl, rfl, rfl, w2⟩ := open_int Try.underlying42 (hval 2 42 v2 rfl rfl) h2
  clear hA0 hval0
  refine (walk a0 len0 cap0 z0 a1 len1 cap1 z1 a2 W w0 w1 w2).mono fun e W' ⟨he, bel⟩ => ?_
  subst he
  exact ⟨_, rfl, _, _, _, [], _, [], hW', trodAll_mk1 (shut_bool Try.underlying4 _), (trodAll_cons_mk (Below.trod laidOut (by kernel_rfl) (of_decide_eq_true (by kernel_rfl)) k0 bel lt0) (trodAll_cons_mk (Below.trod laidOut (by kernel_rfl) (of_decide_eq_true (by kernel_rfl)) k1 bel lt1) (trodAll_cons_mk (shut_int Try.underlying42 w2) trodAll_mk0))), rfl, bel.frame _, fun h => by cases h⟩

theorem over : Rows.drawsOnceRow.holds Try.pinned (OpenSpec.ofChange Rows.drawsOnceSpec) :=
  OpenClaim.holds_of_wide 4 Try.f4 rfl rfl rfl rfl rfl rfl rfl ⟨rfl, rfl, rfl, rfl, rfl⟩ rfl rfl rfl rfl rfl (by kernel_rfl) Try.func4 (by kernel_rfl)
    (of_decide_eq_true (by kernel_rfl)) (by unfold Func.isWrapper; first | (rw [if_pos (by decide +kernel)]; kernel_rfl) | (rw [if_neg (by decide +kernel)]; exact ⟨rfl, rfl⟩))
    (fun os started H enc _ => lifted os started H enc)

/-- THE STATEMENT -/
theorem proved : Rows.DrawsOnceSaid := over
#print axioms proved
end Go.Proofs.Ythoodcpigmmehaa.drawsOnce
