/- Contracts of layer 14 (draws), second part: slices.Grow, slices.Clone, slices.Concat of numbers; New, Add. -/
import Derived.Test.YthoodcpigmmehaaDraws
import Derived.Test.YthoodcpigmmehaaBytes
import Derived.Lib.AppendZeros
import Derived.LoopTactic
import Derived.WalkSpells
set_option linter.unusedVariables false
set_option linter.unusedSimpArgs false
namespace Go.Proofs.Ythoodcpigmmehaa
open Go.RowKit

theorem infoU32 : (Try.prog.info? 32).map (fun i => (i.zero, i.size, i.bytes)) = some (some (.int .u32 0), 1, 4) := by kernel_rfl
def u32v (x : Nat) : Value := .int .u32 (x : Int)
/-- a new row of its own, with the numbers l -/
def Own32 (w : World) (l : List Nat) (e : Ending) (w' : World) : Prop := ∃ v, e = .returned v ∧ w'.ownsRow w.heap.size 32 1 v l.length (l.map u32v) ∧ Below w.heap.size w w'
theorem zero_size (z : Value) (hz : z.cells.size = 1) (n : Nat) : (Builtin.zeroCells z.cells n).size = n := by simp [Builtin.zeroCells, hz]

set_option maxRecDepth 100000 in
set_option maxHeartbeats 1000000 in
theorem grow_nil (n : Nat) (w : World) (hn : n ≤ 1099511627776) :
    Calls Try.prog 57 #[.slice none 0 0, .int .i64 (n : Int)] w (Own32 w []) := by
  obtain ⟨i0, hi, h0, h1, h2⟩ := info_parts infoU32
  rcases Nat.eq_zero_or_pos n with rfl | hp
  · go_enter Try.func57, Try.ntmps57
    go_wp2
    go_ret
    exact ⟨_, rfl, World.ownsRow_nil _ _ _ _, Below.refl _ _⟩
  · have i1 : (0 : Int) < (n : Int) := by omega
    have i2 : (n : Int) ≤ 1099511627776 := by omega
    have hrun := Lib.run_append_nil_zeros w 22 3 22 32 i0 (.int .u32 0) .i64 .i64 Try.underlying22 Try.underlying3 hi h0 n hp (by rw [h1]; decide) (by omega) (by rw [h2]; omega)
    have hge := grownCap_ge w n 0 32
    have hle := grownCap_le_maxLen w n 0 32 (by unfold maxLen; omega)
    generalize grownCap w n 0 32 = c at *
    have hz : (Builtin.zeroCells (Value.int .u32 0).cells n ++ Builtin.zeroCells (Value.int .u32 0).cells (c - n)).size = c * 1 := by
      rw [Array.size_append, zero_size _ rfl, zero_size _ rfl]; omega
    generalize (Builtin.zeroCells (Value.int .u32 0).cells n ++ Builtin.zeroCells (Value.int .u32 0).cells (c - n)) = cs at *
    have hown := World.ownsRow_made (base := w.heap.size) (e := 32) (size := 1) w.drew cs c (by simp) hle hz
    have hB : Below w.heap.size w (w.drew.alloc (.cells cs 32)) := (Below.drew (Below.refl _ _)).alloc (by simp) _
    unfold maxLen at hle
    have i3 : (n : Int) ≤ (c : Int) := by omega
    have i4 : (c : Int) ≤ 9223372036854775807 := by omega
    have Hrun := Lib.hid hrun
    clear hrun
    have Hown := Lib.hid hown
    clear hown
    have HB := Lib.hid hB
    clear hB
    clear hz
    go_enter Try.func57, Try.ntmps57
    go_wp2_with (at_builtin; refine Lib.wpList_append_run _ rfl _ _ _ _ rfl _ _ rfl rfl _ _ Hrun.out ?_)
    go_wp2
    go_ret
    exact ⟨_, rfl, Hown.out, HB.out⟩
theorem grow_v (n : Nat) (N : Int) (hN : (n : Int) = N) (w : World) (hn : n ≤ 1099511627776) :
    Calls Try.prog 57 #[.slice none 0 0, .int .i64 N] w (Own32 w []) := by
  subst hN
  exact grow_nil n w hn
set_option maxRecDepth 100000 in
set_option maxHeartbeats 1000000 in
theorem clone_nil (w : World) : Calls Try.prog 44 #[.slice none 0 0] w (Own32 w []) := by
  have e1 := @Lib.run_eql_slice_nil
  go_enter Try.func44, Try.ntmps44
  go_wp2
  go_ret
  exact ⟨_, rfl, World.ownsRow_nil _ _ _ _, Below.refl _ _⟩
set_option maxRecDepth 100000 in
set_option maxHeartbeats 1000000 in
theorem clone_any (w : World) (ad : Addr) (c : Nat) (l : List Nat) (B : Nat) (hr : Reads w B 1 (some ad) l.length (l.map u32v)) (hB : B ≤ w.heap.size) (hl : l.length ≤ 1099511627776) :
    Calls Try.prog 44 #[.slice (some ad) l.length c] w (Own32 w l) := by
  obtain ⟨i0, hi, h0, h1, h2⟩ := info_parts infoU32
  have e1 := @Lib.run_eql_slice_nil
  have hr2 := hr.alloc hB (.cells #[] 32)
  have hown := World.ownsRow_made (base := w.heap.size) (e := 32) (size := 1) w #[] 0 (Nat.le_refl _) (by simp) (by simp)
  have hB0 : Below w.heap.size w (w.alloc (.cells #[] 32)) := (Below.refl _ _).alloc (Nat.le_refl _) _
  obtain ⟨n, hn⟩ : ∃ n, n = l.length := ⟨_, rfl⟩
  have hpost : ∀ v' w', w'.ownsRow w.heap.size 32 1 v' (0 + n) ([] ++ l.map u32v) → (w.alloc (.cells #[] 32)).grownBy w' (some w.heap.size) → Own32 w l (.returned v') w' := by
    intro v' w' ho hg
    rw [Nat.zero_add, List.nil_append, hn] at ho
    exact ⟨v', rfl, ho, hB0.grown hg (by simp) (by intro k hk; injection hk with hk; omega)⟩
  rw [← hn] at hr2 ⊢
  have hn2 : n ≤ 1099511627776 := by omega
  have Hr2 := Lib.hid hr2
  clear hr2
  have Hown := Lib.hid hown
  clear hown
  have Hpost := Lib.hid hpost
  clear hpost
  have Hi := Lib.hid hi
  clear hi
  have H0 := Lib.hid h0
  clear h0
  have H1 := Lib.hid h1
  clear h1
  have H2 := Lib.hid h2
  clear h2
  clear hr hn hl hB0
  go_enter Try.func44, Try.ntmps44
  go_wp2_with (at_builtin; refine wpList_append_any _ rfl _ _ _ rfl w.heap.size 32 i0 _ 1 4 Try.underlying22 Hi.out H0.out H1.out H2.out rfl (by decide) (.slice (some ⟨w.heap.size, 0, none⟩) 0 0) 0 [] rfl Hown.out _ (some ad) n c (l.map u32v) rfl Hr2.out (by intro u hu; obtain ⟨x, _, rfl⟩ := List.mem_map.1 hu; rfl) (by simp only [maxLen]; omega) (by omega) (by simp) ?_; intro v1 w1 hown1 hg1 hat1)
  have hp := Hpost.out v1 w1 hown1 hg1
  clear hown1 hg1 hat1
  have HP := Lib.hid hp
  clear hp
  go_wp2
  go_ret
  exact HP.out
set_option maxRecDepth 100000 in
set_option maxHeartbeats 4000000 in
theorem concat_two (w : World) (g : Nat) (A1 A2 : Option Addr) (c1 c2 : Nat) (l1 l2 : List Nat) (hg0 : Blk w g 22 #[.slice A1 l1.length c1, .slice A2 l2.length c2]) (hr1 : Reads w w.heap.size 1 A1 l1.length (l1.map u32v)) (hr2 : Reads w w.heap.size 1 A2 l2.length (l2.map u32v))
    (hl1 : l1.length ≤ 1073741824) (hl2 : l2.length ≤ 1073741824) :
    Calls Try.prog 47 #[.slice (some ⟨g, 0, none⟩) 2 2] w (Own32 w (l1 ++ l2)) := by
  have hgl := hg0.lt
  have k0 := hg0.cell 0
  have k1 := hg0.cell 1
  simp at k0 k1
  obtain ⟨n1, e1⟩ : ∃ n, n = l1.length := ⟨_, rfl⟩
  obtain ⟨n2, e2⟩ : ∃ n, n = l2.length := ⟨_, rfl⟩
  rw [← e1] at k0
  rw [← e2] at k1
  have i1 : n1 ≤ 1073741824 := by omega
  have i2 : n2 ≤ 1073741824 := by omega
  have Hg0 := Lib.hid hg0
  clear hg0
  have Hr1 := Lib.hid hr1
  clear hr1
  have Hr2 := Lib.hid hr2
  clear hr2
  have E1 := Lib.hid e1
  clear e1
  have E2 := Lib.hid e2
  clear e2
  go_enter Try.func47, Try.ntmps47
  go_wp2
  go_loop [3, 11] (fun s i => (i = .int .i64 0 ∧ s = .int .i64 0) ∨ (i = .int .i64 1 ∧ s = .int .i64 (n1 : Int)) ∨ (i = .int .i64 2 ∧ s = .int .i64 ((n1 + n2 : Nat) : Int))) (fun _ i => 2 - (intOf i).toNat)
  case atStart => exact .inl ⟨rfl, rfl⟩
  case round =>
    rcases hrel with ⟨rfl, rfl⟩ | ⟨rfl, rfl⟩ | ⟨rfl, rfl⟩
    · go_wp2
      go_round
      case rel => exact .inr (.inl ⟨rfl, rfl⟩)
      case measure => simp [intOf]
    · go_wp2
      go_round
      case rel => exact .inr (.inr ⟨rfl, by go_num⟩)
      case measure => simp [intOf]
    · clear k0 k1
      go_wp2_with fail
      with_reducible refine (grow_v (n1 + n2) _ (by omega) _ (by omega)).mono ?_
      rintro e w2 ⟨v2, rfl, hown2, hB2⟩
      have hg2 := Hg0.out.below hB2 hgl
      have Hown2 := Lib.hid hown2
      clear hown2
      have HB2 := Lib.hid hB2
      clear hB2
      have Hg2 := Lib.hid hg2
      clear hg2
      clear Hg0
      go_wp2_with fail
      go_loopw [6, 27] (fun v i wr => (Below w.heap.size w wr ∧ Blk wr g 22 #[.slice A1 l1.length c1, .slice A2 l2.length c2]) ∧ ((i = .int .i64 0 ∧ wr.ownsRow w.heap.size 32 1 v 0 []) ∨ (i = .int .i64 1 ∧ wr.ownsRow w.heap.size 32 1 v l1.length (l1.map u32v)) ∨ (i = .int .i64 2 ∧ wr.ownsRow w.heap.size 32 1 v (l1.length + l2.length) (l1.map u32v ++ l2.map u32v)))) (fun _ i _ => 2 - (intOf i).toNat)
      case atStart => exact ⟨⟨HB2.out, Hg2.out⟩, .inl ⟨rfl, Hown2.out⟩⟩
      case round =>
        clear Hown2 HB2 Hg2
        obtain ⟨⟨hb, hg⟩, hrel⟩ := hrel
        rcases hrel with ⟨rfl, ho⟩ | ⟨rfl, ho⟩ | ⟨rfl, ho⟩
        · obtain ⟨A0, c0, hv, _⟩ := own_slice ho
          obtain ⟨i0, hi, h0, h1, h2⟩ := info_parts infoU32
          have hr := (Hr1.out).below hb
          have hlt := ho.lt
          have ho' := ho
          subst hv
          have k0 := hg.cell 0
          simp at k0
          have hpost : ∀ v' w', w'.ownsRow w.heap.size 32 1 v' (0 + l1.length) ([] ++ (l1.map u32v)) → wr.grownBy w' (Value.slice A0 0 c0).ownBlock → Below w.heap.size w w' ∧ Blk w' g 22 #[.slice A1 l1.length c1, .slice A2 l2.length c2] := by
            intro v' w' _ hgr
            refine ⟨hb.grown hgr hb.size (fun k hk => (hlt k hk).1), hg.grown hgr (fun e => ?_)⟩
            have := (hlt g e.symm).1
            omega
          have hbs := hb.size
          have Ho' := Lib.hid ho'
          clear ho'
          have Hr := Lib.hid hr
          clear hr
          have Hpost := Lib.hid hpost
          clear hpost
          have Hi := Lib.hid hi
          clear hi
          have H0 := Lib.hid h0
          clear h0
          have H1 := Lib.hid h1
          clear h1
          have H2 := Lib.hid h2
          clear h2
          have Hbs := Lib.hid hbs
          clear hbs
          clear ho hb hg hlt
          rw [← E1.out] at k0
          go_wp2_with (at_builtin; refine wpList_append_any _ rfl _ _ _ rfl w.heap.size 32 i0 _ 1 4 Try.underlying22 Hi.out H0.out H1.out H2.out rfl (by decide) (.slice A0 0 c0) 0 [] rfl Ho'.out _ A1 n1 c1 (l1.map u32v) rfl (by rw [E1.out]; exact Hr.out) (by intro u hu; obtain ⟨x, _, rfl⟩ := List.mem_map.1 hu; rfl) (by simp only [maxLen]; omega) (by omega) Hbs.out ?_; intro v1 w1 hown1 hg1 hat1)
          rw [E1.out] at hown1
          have hp := Hpost.out v1 w1 hown1 hg1
          simp only [Nat.zero_add, List.nil_append] at hown1
          have Hown1 := Lib.hid hown1
          clear hown1
          have Hp := Lib.hid hp
          clear hp
          clear hg1 hat1 k0
          go_wp2
          go_roundw
          case rel => exact ⟨Hp.out, .inr (.inl ⟨rfl, Hown1.out⟩)⟩
          case measure => simp [intOf]
        · obtain ⟨A0, c0, hv, _⟩ := own_slice ho
          obtain ⟨i0, hi, h0, h1, h2⟩ := info_parts infoU32
          have hr := (Hr2.out).below hb
          have hlt := ho.lt
          have ho' := ho
          subst hv
          have k0 := hg.cell 1
          simp at k0
          have hpost : ∀ v' w', w'.ownsRow w.heap.size 32 1 v' (l1.length + l2.length) ((l1.map u32v) ++ (l2.map u32v)) → wr.grownBy w' (Value.slice A0 l1.length c0).ownBlock → Below w.heap.size w w' ∧ Blk w' g 22 #[.slice A1 l1.length c1, .slice A2 l2.length c2] := by
            intro v' w' _ hgr
            refine ⟨hb.grown hgr hb.size (fun k hk => (hlt k hk).1), hg.grown hgr (fun e => ?_)⟩
            have := (hlt g e.symm).1
            omega
          have hbs := hb.size
          have Ho' := Lib.hid ho'
          clear ho'
          have Hr := Lib.hid hr
          clear hr
          have Hpost := Lib.hid hpost
          clear hpost
          have Hi := Lib.hid hi
          clear hi
          have H0 := Lib.hid h0
          clear h0
          have H1 := Lib.hid h1
          clear h1
          have H2 := Lib.hid h2
          clear h2
          have Hbs := Lib.hid hbs
          clear hbs
          clear ho hb hg hlt
          rw [← E2.out] at k0
          go_wp2_with (at_builtin; refine wpList_append_any _ rfl _ _ _ rfl w.heap.size 32 i0 _ 1 4 Try.underlying22 Hi.out H0.out H1.out H2.out rfl (by decide) (.slice A0 l1.length c0) l1.length (l1.map u32v) rfl Ho'.out _ A2 n2 c2 (l2.map u32v) rfl (by rw [E2.out]; exact Hr.out) (by intro u hu; obtain ⟨x, _, rfl⟩ := List.mem_map.1 hu; rfl) (by simp only [maxLen]; omega) (by omega) Hbs.out ?_; intro v1 w1 hown1 hg1 hat1)
          rw [E2.out] at hown1
          have hp := Hpost.out v1 w1 hown1 hg1
          have Hown1 := Lib.hid hown1
          clear hown1
          have Hp := Lib.hid hp
          clear hp
          clear hg1 hat1 k0
          go_wp2
          go_roundw
          case rel => exact ⟨Hp.out, .inr (.inr ⟨rfl, Hown1.out⟩)⟩
          case measure => simp [intOf]
        · rw [← List.length_append, ← List.map_append] at ho
          have hp := (⟨_, rfl, ho, hb⟩ : Own32 w (l1 ++ l2) (.returned _) wr)
          have Hp := Lib.hid hp
          clear hp
          clear ho hb hg
          go_wp2
          go_ret
          exact Hp.out

theorem Reads.take {w : World} {B n m : Nat} {A : Option Addr} {xs : List Value} (h : Reads w B 1 A n xs) (hm : m ≤ n) : Reads w B 1 A m (xs.take m) := by
  have hl := h.1
  refine ⟨by rw [List.length_take]; omega, fun h0 => ?_⟩
  obtain ⟨ad, e, hb, hc⟩ := h.2 (by omega)
  refine ⟨ad, e, hb, fun j u hu => hc j u ?_⟩
  rw [List.getElem?_take] at hu
  split at hu
  · exact hu
  · cases hu
/-- a new row of its own, where another block is -/
theorem own_R32 {w : World} {base b : Nat} {t : TypeId} {cs : Array Value} {v : Value} {l : List Nat} (h : w.ownsRow base 32 1 v l.length (l.map u32v)) (hb : Blk w b t cs) (ht : t ≠ 32) :
    ∃ A c, v = .slice A l.length c ∧ R32 w b A l ∧ l.length ≤ c ∧ c ≤ 9223372036854775807 := by
  have hne := own_blk_ne h hb (fun e => ht e.symm)
  have hlt := h.lt
  rcases h.2 with ⟨rfl, h0⟩ | ⟨g, cap, cur, rfl, hg, hcur, hn, hm, _, htk⟩
  · have hl : l = [] := List.eq_nil_of_length_eq_zero h0
    subst hl
    exact ⟨none, 0, rfl, .inl rfl, Nat.le_refl _, by omega⟩
  · refine ⟨some ⟨g, 0, none⟩, cap, rfl, .inr ⟨g, 0, rfl, fun e => hne (by rw [e]; rfl), ⟨(hlt g rfl).2, cur, hcur⟩, fun j hj => ?_⟩, hn, by unfold maxLen at hm; omega⟩
    have hc := h.cells (g := g) rfl j (u32v (l.getD j 0)) (by rw [List.getElem?_map, List.getElem?_eq_getElem hj]; simp [List.getD, List.getElem?_eq_getElem hj])
    rw [add_plain] at hc
    exact hc
/-- new draws -/
def NewPost (w : World) (l : List Nat) (e : Ending) (w' : World) : Prop := ∃ b, e = .returned (.pointer (some ⟨b, 0, none⟩)) ∧ (∃ A c, DrAt w' b A c l 0 0) ∧ Below w.heap.size w w' ∧ w.heap.size ≤ b
theorem new_post {w w' : World} {l : List Nat} {v : Value} (h : w'.ownsRow w.heap.size 32 1 v l.length (l.map u32v)) (hB : Below w.heap.size w w') : NewPost w l (.returned (.pointer (some ⟨w'.heap.size, 0, none⟩))) (w'.alloc (.cells #[v, .int .u32 0, .int .u64 0, .bool true] 89)) := by
  have hk := Blk.new w' 89 #[v, .int .u32 0, .int .u64 0, .bool true]
  obtain ⟨A, c, rfl, hR, hc1, hc2⟩ := own_R32 (h.alloc _) hk (by decide)
  exact ⟨_, rfl, ⟨A, c, ⟨by simpa using hk, hR, hc1, hc2⟩⟩, hB.alloc hB.size _, hB.size⟩
set_option maxRecDepth 100000 in
set_option maxHeartbeats 1000000 in
theorem new_at (w : World) (A : Option Addr) (c : Nat) (l : List Nat) (hr : Reads w w.heap.size 1 A l.length (l.map u32v)) (hA : A = none → c = 0) (hc : l.length ≤ c) (hl : l.length ≤ 1099511627776) (hc2 : c ≤ 9223372036854775807) :
    Calls Try.prog 14 #[.slice A l.length c] w (NewPost w (l.take 4096)) := by
  obtain ⟨m, hm⟩ : ∃ m, m = min l.length 4096 := ⟨_, rfl⟩
  obtain ⟨n, hn⟩ : ∃ n, n = l.length := ⟨_, rfl⟩
  have hmin : min (n : Int) 4096 = (m : Int) := by omega
  have hml : (l.take 4096).length = m := by rw [List.length_take]; omega
  have i1 : (m : Int) ≤ (n : Int) := by omega
  have i2 : (n : Int) ≤ (c : Int) := by omega
  have i3 : (c : Int) ≤ 9223372036854775807 := by omega
  have i4 : (0 : Int) ≤ (m : Int) := by omega
  have htk : l.take 4096 = l.take m := by
    rw [hm]
    by_cases h : l.length ≤ 4096
    · rw [Nat.min_eq_left h, List.take_length, List.take_of_length_le h]
    · rw [Nat.min_eq_right (by omega)]
  have hr2 := hr.take (m := m) (by omega)
  rw [← List.map_take, ← htk] at hr2
  cases A with
  | none =>
    have hz : l = [] := by
      rcases Nat.eq_zero_or_pos l.length with h | h
      · exact List.eq_nil_of_length_eq_zero h
      · obtain ⟨ad, e, _⟩ := hr.2 h
        cases e
    subst hz
    have := hA rfl
    subst this
    have hq : min (0 : Int) 4096 = 0 := by omega
    clear hmin hml i1 i2 i3 i4 htk hr2 hr hn hm hA
    go_enter Try.func14, Try.ntmps14
    go_wp2_with fail
    with_reducible refine (clone_nil _).mono ?_
    rintro e w2 ⟨v, rfl, ho, hB⟩
    obtain ⟨A2, c9, hv, _⟩ := own_slice ho
    subst hv
    have hp := new_post (l := []) ho hB
    have Hp := Lib.hid hp
    clear hp
    clear ho hB
    go_wp2
    go_ret
    exact Hp.out
  | some ad =>
    have hcl := fun w' => clone_any w' ad c (l.take 4096) w'.heap.size
    rw [← hn]
    clear hr hm htk hA hl hc
    generalize l.take 4096 = q at *
    rw [hml] at hcl
    have Hr2 := Lib.hid hr2
    clear hr2
    have Hcl := Lib.hid hcl
    clear hcl
    have Hml := Lib.hid hml
    clear hml
    have Hn := Lib.hid hn
    clear hn
    go_enter Try.func14, Try.ntmps14
    go_wp2_with fail
    with_reducible refine (Hcl.out _ Hr2.out (Nat.le_refl _) (by omega)).mono ?_
    rintro e w2 ⟨v, rfl, ho, hB⟩
    obtain ⟨A2, c9, hv, _⟩ := own_slice ho
    subst hv
    have hp := new_post ho hB
    have Hp := Lib.hid hp
    clear hp
    clear ho hB
    go_wp2
    go_ret
    exact Hp.out

theorem R32.reads {w : World} {b : Nat} {A : Option Addr} {l : List Nat} (h : R32 w b A l) : Reads w w.heap.size 1 A l.length (l.map u32v) := by
  refine ⟨by simp, fun h0 => ?_⟩
  rcases h with rfl | ⟨r, off, rfl, h1, h2, h3⟩
  · simp at h0
  · refine ⟨_, rfl, h2.1, fun j u hu => ?_⟩
    rw [List.getElem?_map] at hu
    have hj : j < l.length := by
      rcases Nat.lt_or_ge j l.length with h | h
      · exact h
      · rw [List.getElem?_eq_none h] at hu; cases hu
    have := h3 j hj
    rw [add_plain, this]
    rw [List.getElem?_eq_getElem hj] at hu
    simp only [Option.map_some, Option.some.injEq] at hu
    rw [← hu]
    simp [u32v, List.getD, List.getElem?_eq_getElem hj]
theorem add_full (w : World) (b : Nat) (A : Option Addr) (c : Nat) (l : List Nat) (last used : Nat) (h : DrAt w b A c l last used) (A2 : Option Addr) (n2 c2 : Nat) (hf : 4096 < l.length + n2) (hl : l.length ≤ 4096) (hl2 : n2 ≤ 1099511627776) :
    Calls Try.prog 18 #[.pointer (some ⟨b, 0, none⟩), .slice A2 n2 c2] w fun e w' => e = .returned (.int .i64 6) ∧ w = w' := by
  have c3 := h.c3
  have c0 := h.c0
  obtain ⟨n, hn⟩ : ∃ n, n = l.length := ⟨_, rfl⟩
  rw [← hn] at c0 hf hl
  have i1 : (4096 : Int) < (n : Int) + (n2 : Int) := by omega
  have i2 : (n : Int) ≤ 4096 := by omega
  have i3 : (n2 : Int) ≤ 1099511627776 := by omega
  have C3 := Lib.hid c3
  clear c3
  have H := Lib.hid h
  clear h
  have Hn := Lib.hid hn
  clear hn
  go_enter Try.func18, Try.ntmps18
  go_wp2_with fail
  (with_reducible refine (none_at _ b C3.out).mono ?_)
  rintro e w' ⟨rfl, rfl⟩
  go_wp2
  go_ret
  exact ⟨rfl, rfl⟩
theorem add_nil (w : World) (A2 : Option Addr) (n2 c2 : Nat) :
    Calls Try.prog 18 #[.pointer none, .slice A2 n2 c2] w fun e w' => e = .returned (.int .i64 1) ∧ w = w' := by
  go_enter Try.func18, Try.ntmps18
  go_wp2_with fail
  (with_reducible refine (none_nil _).mono ?_)
  rintro e w' ⟨rfl, rfl⟩
  go_wp2
  go_ret
  exact ⟨rfl, rfl⟩
theorem next_nil (w : World) : Calls Try.prog 20 #[.pointer none] w fun e w' => e = .returned (.int .u32 0) ∧ w = w' := by
  go_enter Try.func20, Try.ntmps20
  go_wp2_with fail
  (with_reducible refine (none_nil _).mono ?_)
  rintro e w' ⟨rfl, rfl⟩
  go_wp2
  go_ret
  exact ⟨rfl, rfl⟩
theorem peek_nil (w : World) : Calls Try.prog 16 #[.pointer none] w fun e w' => e = .returned (.int .u32 0) ∧ w = w' := by
  go_enter Try.func16, Try.ntmps16
  go_wp2_with fail
  (with_reducible refine (none_nil _).mono ?_)
  rintro e w' ⟨rfl, rfl⟩
  go_wp2
  go_ret
  exact ⟨rfl, rfl⟩
theorem used_nil (w : World) : Calls Try.prog 22 #[.pointer none] w fun e w' => e = .returned (.int .u64 0) ∧ w = w' := by
  go_enter Try.func22, Try.ntmps22
  go_wp2_with fail
  (with_reducible refine (none_nil _).mono ?_)
  rintro e w' ⟨rfl, rfl⟩
  go_wp2
  go_ret
  exact ⟨rfl, rfl⟩
/-- draws, behind an Add -/
theorem add_post {w w' : World} {b : Nat} {A : Option Addr} {c : Nat} {l more : List Nat} {last used : Nat} {v : Value} {o : Obj} (h : DrAt w b A c l last used) (hB : Below (w.alloc o).heap.size (w.alloc o) w') (ho : w'.ownsRow (w.alloc o).heap.size 32 1 v more.length (more.map u32v)) :
    ∃ A2 c2, v = .slice A2 more.length c2 ∧ (w'.cell? ⟨b, 0, none⟩ = some (.slice A l.length c) ∧ w'.frozen? ⟨b, 0, none⟩ = false) ∧ DrPost w b more last used (w'.setCell ⟨b, 0, none⟩ v) := by
  have hb1 := (h.1.alloc o).below hB (by simp; exact Nat.lt_succ_of_lt h.lt)
  have hk := hb1.set_ 0 v
  obtain ⟨A2, c2, rfl, hR, hc1, hc2⟩ := own_R32 ho hb1 (by decide)
  have hg : w.grownBy (w'.setCell ⟨b, 0, none⟩ (.slice A2 more.length c2)) (some b) := only_set (only_of_below (((Below.refl _ _).alloc (Nat.le_refl _) o).trans (hB.mono (by simp))) _) 0 _
  have c0 := hb1.cell 0
  have hg2 : w'.grownBy (w'.setCell ⟨b, 0, none⟩ (.slice A2 more.length c2)) (some b) := only_set (World.grownBy.refl w' _) 0 _
  exact ⟨A2, c2, rfl, ⟨by simpa using c0, hb1.frozen 0⟩, ⟨A2, c2, ⟨by simpa using hk, hR.grown hg2, hc1, hc2⟩⟩, hg⟩
set_option maxRecDepth 100000 in
set_option maxHeartbeats 1000000 in
theorem add_ok (w : World) (b : Nat) (A : Option Addr) (c : Nat) (l : List Nat) (last used : Nat) (h : DrAt w b A c l last used) (A2 : Option Addr) (c2 : Nat) (more : List Nat) (hr : Reads w w.heap.size 1 A2 more.length (more.map u32v)) (hf : l.length + more.length ≤ 4096) :
    Calls Try.prog 18 #[.pointer (some ⟨b, 0, none⟩), .slice A2 more.length c2] w fun e w' => e = .returned (.int .i64 0) ∧ DrPost w b (l ++ more) last used w' := by
  have c3 := h.c3
  have c0 := h.c0
  have hr1 := h.2.1.reads
  obtain ⟨o, ho⟩ : ∃ o, o = Obj.cells #[.slice A l.length c, .slice A2 more.length c2] 22 (0, 0) := ⟨_, rfl⟩
  have hcon := concat_two (w.alloc o) w.heap.size A A2 c c2 l more (by rw [ho]; exact Blk.new _ _ _) ((hr1.alloc (Nat.le_refl _) o).more (by simp)) ((hr.alloc (Nat.le_refl _) o).more (by simp)) (by omega) (by omega)
  have hpost := fun w' v (hB : Below (w.alloc o).heap.size (w.alloc o) w') ho' => add_post (more := l ++ more) (v := v) (o := o) h hB ho'
  rw [ho] at hcon hpost
  obtain ⟨n, hn⟩ : ∃ n, n = l.length := ⟨_, rfl⟩
  obtain ⟨n2, hn2⟩ : ∃ n, n = more.length := ⟨_, rfl⟩
  rw [← hn, ← hn2] at hf
  rw [← hn] at c0
  rw [← hn, ← hn2] at hcon hpost
  rw [← hn2]
  have i1 : (n : Int) + (n2 : Int) ≤ 4096 := by omega
  have i2 : (0 : Int) ≤ (n : Int) := by omega
  have i3 : (0 : Int) ≤ (n2 : Int) := by omega
  have C3 := Lib.hid c3
  clear c3
  have H := Lib.hid h
  clear h
  have Hn := Lib.hid hn
  clear hn
  have Hn2 := Lib.hid hn2
  clear hn2
  have Hcon := Lib.hid hcon
  clear hcon
  have Hpost := Lib.hid hpost
  clear hpost
  clear hr hr1 ho hf
  go_enter Try.func18, Try.ntmps18
  go_wp2_with fail
  (with_reducible refine (none_at _ b C3.out).mono ?_)
  rintro e w' ⟨rfl, rfl⟩
  go_wp2_with fail
  with_reducible refine (Hcon.out).mono ?_
  rintro e w2 ⟨v, rfl, ho2, hB2⟩
  obtain ⟨A3, c9, hv, ⟨k0, kf⟩, hp⟩ := Hpost.out w2 v hB2 ho2
  subst hv
  rw [List.length_append] at hp
  have Hp := Lib.hid hp
  clear hp
  clear ho2 hB2 c0
  go_wp2
  go_ret
  exact ⟨rfl, Hp.out⟩
end Go.Proofs.Ythoodcpigmmehaa
