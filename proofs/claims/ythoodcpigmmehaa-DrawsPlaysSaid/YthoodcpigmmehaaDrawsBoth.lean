/- Layer 14 (draws): the document's New; both draws side by side; whether steps are heavy. -/
import Derived.Test.YthoodcpigmmehaaDrawsAlive
import Derived.Test.YthoodcpigmmehaaStructs2
set_option linter.unusedVariables false
set_option linter.unusedSimpArgs false
namespace Go.Proofs.Ythoodcpigmmehaa
open Go.RowKit

def RfNew (w : World) (l : List Nat) (e : Ending) (w' : World) : Prop := ∃ b, e = .returned (.pointer (some ⟨b, 0, none⟩)) ∧ (∃ A c, RfAt w' b A c l 0 0) ∧ Below w.heap.size w w' ∧ w.heap.size ≤ b
theorem ref_new_post {w w' : World} {l : List Nat} {v : Value} (h : w'.ownsRow w.heap.size 32 1 v l.length (l.map u32v)) (hB : Below w.heap.size w w') : RfNew w l (.returned (.pointer (some ⟨w'.heap.size, 0, none⟩))) (w'.alloc (.cells #[v, .int .u32 0, .int .u64 0] 40)) := by
  have hk := Blk.new w' 40 #[v, .int .u32 0, .int .u64 0]
  obtain ⟨A, c, rfl, hR, hc1, hc2⟩ := own_R32 (h.alloc _) hk (by decide)
  exact ⟨_, rfl, ⟨A, c, ⟨by simpa using hk, hR, hc1, hc2⟩⟩, hB.alloc hB.size _, hB.size⟩
set_option maxRecDepth 100000 in
set_option maxHeartbeats 1000000 in
theorem ref_new (w : World) (A : Option Addr) (c : Nat) (l : List Nat) (hr : Reads w w.heap.size 1 A l.length (l.map u32v)) (hA : A = none → c = 0) (hc : l.length ≤ c) (hl : l.length ≤ 1099511627776) (hc2 : c ≤ 9223372036854775807) :
    Calls Try.prog 15 #[.slice A l.length c] w (RfNew w (l.take 4096)) := by
  obtain ⟨i0, hi, h0, h1, h2⟩ := info_parts infoU32
  obtain ⟨m, hm⟩ : ∃ m, m = min l.length 4096 := ⟨_, rfl⟩
  obtain ⟨n, hn⟩ : ∃ n, n = l.length := ⟨_, rfl⟩
  have hmin : min (n : Int) 4096 = (m : Int) := by omega
  have hml : (l.take 4096).length = m := by rw [List.length_take]; omega
  have i1 : (m : Int) ≤ (n : Int) := by omega
  have i2 : (n : Int) ≤ (c : Int) := by omega
  have i3 : (c : Int) ≤ 9223372036854775807 := by omega
  have i4 : (0 : Int) ≤ (m : Int) := by omega
  have htk : l.take 4096 = l.take m := by
    rw [hm]
    by_cases h : l.length ≤ 4096
    · rw [Nat.min_eq_left h, List.take_length, List.take_of_length_le h]
    · rw [Nat.min_eq_right (by omega)]
  have hr2 := (hr.take (m := m) (by omega)).alloc (Nat.le_refl _) (.cells #[] 32)
  rw [← List.map_take, ← htk] at hr2
  have hown := World.ownsRow_made (base := w.heap.size) (e := 32) (size := 1) w #[] 0 (Nat.le_refl _) (by simp) (by simp)
  have hB0 : Below w.heap.size w (w.alloc (.cells #[] 32)) := (Below.refl _ _).alloc (Nat.le_refl _) _
  have hpost : ∀ v' w', w'.ownsRow w.heap.size 32 1 v' (0 + m) ([] ++ (l.take 4096).map u32v) → (w.alloc (.cells #[] 32)).grownBy w' (some w.heap.size) →
      ∃ A2 c2, v' = .slice A2 m c2 ∧ RfNew w (l.take 4096) (.returned (.pointer (some ⟨w'.heap.size, 0, none⟩))) (w'.alloc (.cells #[.slice A2 m c2, .int .u32 0, .int .u64 0] 40)) := by
    intro v' w' ho hg
    rw [Nat.zero_add, List.nil_append] at ho
    have hB1 := hB0.grown hg (by simp) (by intro k hk; injection hk with hk; omega)
    obtain ⟨A2, c2, hv, _⟩ := own_slice ho
    subst hv
    rw [← hml] at ho ⊢
    exact ⟨A2, c2, rfl, ref_new_post ho hB1⟩
  rw [← hn]
  have hA2 : A = none → c = 0 ∧ n = 0 ∧ m = 0 := by
    intro h
    have := hA h
    omega
  clear hr hm htk hA hl hc hB0
  generalize l.take 4096 = q at *
  by_cases hAn : A = none
  · obtain ⟨rfl, rfl, rfl⟩ := hA2 hAn
    subst hAn
    have hq : min (0 : Int) 4096 = 0 := by omega
    have Hr2 := Lib.hid hr2
    clear hr2
    have Hown := Lib.hid hown
    clear hown
    have Hpost := Lib.hid hpost
    clear hpost
    have Hml := Lib.hid hml
    clear hml
    have Hn := Lib.hid hn
    clear hn
    have Hi := Lib.hid hi
    clear hi
    have H0 := Lib.hid h0
    clear h0
    have H1 := Lib.hid h1
    clear h1
    have H2 := Lib.hid h2
    clear h2
    clear hmin i1 i2 i3 i4 hA2
    go_enter Try.func15, Try.ntmps15
    go_wp2_with (at_builtin; refine wpList_append_any _ rfl (.tmp 3) (.tmp 8) _ rfl w.heap.size 32 i0 _ 1 4 Try.underlying22 Hi.out H0.out H1.out H2.out rfl (by decide) (.slice (some ⟨w.heap.size, 0, none⟩) 0 0) 0 [] rfl Hown.out _ none 0 0 (q.map u32v) rfl Hr2.out (by intro u hu; obtain ⟨x, _, rfl⟩ := List.mem_map.1 hu; rfl) (by simp [maxLen]) (by omega) (by simp) ?_; intro v1 w1 hown1 hg1 hat1; obtain ⟨A2, c2, hv, hp⟩ := Hpost.out v1 w1 hown1 hg1; subst hv; have Hp := Lib.hid hp; clear hp hown1 hg1 hat1)
    go_ret
    exact Hp.out
  · obtain ⟨ad, rfl⟩ : ∃ ad, A = some ad := by
      cases A with
      | none => exact absurd rfl hAn
      | some ad => exact ⟨ad, rfl⟩
    have Hr2 := Lib.hid hr2
    clear hr2
    have Hown := Lib.hid hown
    clear hown
    have Hpost := Lib.hid hpost
    clear hpost
    have Hml := Lib.hid hml
    clear hml
    have Hn := Lib.hid hn
    clear hn
    have Hi := Lib.hid hi
    clear hi
    have H0 := Lib.hid h0
    clear h0
    have H1 := Lib.hid h1
    clear h1
    have H2 := Lib.hid h2
    clear h2
    clear hA2 hAn
    go_enter Try.func15, Try.ntmps15
    go_wp2_with (at_builtin; refine wpList_append_any _ rfl (.tmp 3) (.tmp 8) _ rfl w.heap.size 32 i0 _ 1 4 Try.underlying22 Hi.out H0.out H1.out H2.out rfl (by decide) (.slice (some ⟨w.heap.size, 0, none⟩) 0 0) 0 [] rfl Hown.out _ (some ad) m c (q.map u32v) rfl Hr2.out (by intro u hu; obtain ⟨x, _, rfl⟩ := List.mem_map.1 hu; rfl) (by simp only [maxLen]; have := Hml.out; omega) (by omega) (by simp) ?_; intro v1 w1 hown1 hg1 hat1; obtain ⟨A2, c2, hv, hp⟩ := Hpost.out v1 w1 hown1 hg1; subst hv; have Hp := Lib.hid hp; clear hp hown1 hg1 hat1)
    go_ret
    exact Hp.out
theorem R32.far {w w' : World} {b g : Nat} {t : TypeId} {cs : Array Value} {A : Option Addr} {l : List Nat} (h : R32 w b A l) (hg : Blk w g t cs) (ht : t ≠ 32) (hgr : w.grownBy w' (some g)) : R32 w' b A l := by
  rcases h with rfl | ⟨r, off, rfl, h1, ⟨h2, cs2, h4⟩, h3⟩
  · exact .inl rfl
  · have hne : r ≠ g := Blk.ne_ h4 hg (fun e => ht e.symm)
    have hk := hgr.block r h2 (by intro e; injection e with e; exact hne e)
    exact .inr ⟨r, off, rfl, h1, ⟨Nat.lt_of_lt_of_le h2 hgr.size, cs2, hk.trans h4⟩, fun j hj => (World.cell?_of_block hk).trans (h3 j hj)⟩
/-- both draws, with the same numbers -/
def Both (w : World) (b1 b2 : Nat) (l : List Nat) (last used : Nat) (W : World) : Prop :=
  (∃ A c, DrAt W b1 A c l last used) ∧ (∃ A c, RfAt W b2 A c l last used) ∧ w.heap.size ≤ b1 ∧ w.heap.size ≤ b2 ∧ Below w.heap.size w W
theorem ref_far {W W' : World} {b1 b2 : Nat} {A1 A2 : Option Addr} {c1 c2 last1 used1 last2 used2 : Nat} {l1 l2 : List Nat} (h1 : DrAt W b1 A1 c1 l1 last1 used1) (h2 : RfAt W b2 A2 c2 l2 last2 used2) (hg : W.grownBy W' (some b1)) : RfAt W' b2 A2 c2 l2 last2 used2 :=
  ⟨h2.1.grown hg (by intro e; injection e with e; exact Blk.ne_ h2.1 h1.1 (by decide) e), h2.2.1.far h1.1 (by decide) hg, h2.2.2⟩
theorem dr_far {W W' : World} {b1 b2 : Nat} {A1 A2 : Option Addr} {c1 c2 last1 used1 last2 used2 : Nat} {l1 l2 : List Nat} (h1 : DrAt W b1 A1 c1 l1 last1 used1) (h2 : RfAt W b2 A2 c2 l2 last2 used2) (hg : W.grownBy W' (some b2)) : DrAt W' b1 A1 c1 l1 last1 used1 :=
  ⟨h1.1.grown hg (by intro e; injection e with e; exact Blk.ne_ h1.1 h2.1 (by decide) e), h1.2.1.far h2.1 (by decide) hg, h1.2.2⟩
/-- the first has turned -/
def Half (w : World) (b1 b2 : Nat) (l1 : List Nat) (last1 used1 : Nat) (l2 : List Nat) (last2 used2 : Nat) (W : World) : Prop :=
  (∃ A c, DrAt W b1 A c l1 last1 used1) ∧ (∃ A c, RfAt W b2 A c l2 last2 used2) ∧ w.heap.size ≤ b1 ∧ w.heap.size ≤ b2 ∧ Below w.heap.size w W
theorem half_of {w W W' : World} {b1 b2 : Nat} {l1 l2 : List Nat} {last1 used1 last2 used2 : Nat} (h : Both w b1 b2 l2 last2 used2 W) (hp : DrPost W b1 l1 last1 used1 W') : Half w b1 b2 l1 last1 used1 l2 last2 used2 W' := by
  obtain ⟨⟨A1, c1, h1⟩, ⟨A2, c2, h2⟩, h3, h4, h5⟩ := h
  exact ⟨hp.1, ⟨A2, c2, ref_far h1 h2 hp.2⟩, h3, h4, below_only h5 hp.2 h3 h5.size⟩
theorem both_of {w W W' : World} {b1 b2 : Nat} {l1 l2 : List Nat} {last1 used1 last2 used2 : Nat} (h : Half w b1 b2 l1 last1 used1 l2 last2 used2 W) (hp : RfPost W b2 l1 last1 used1 W') : Both w b1 b2 l1 last1 used1 W' := by
  obtain ⟨⟨A1, c1, h1⟩, ⟨A2, c2, h2⟩, h3, h4, h5⟩ := h
  exact ⟨⟨A1, c1, dr_far h1 h2 hp.2⟩, hp.1, h3, h4, below_only h5 hp.2 h4 h5.size⟩
/-- whether steps are more than a statement does -/
def HeavyPost (w : World) (a : Option Addr) (len : Nat) (e : Ending) (w' : World) : Prop :=
  ∃ h : Bool, e = .returned (.bool h) ∧ w = w' ∧ (h = false → len ≤ 20000 ∧ ∀ i b off A n c, i < len → a = some ⟨b, off, none⟩ → w.cell? ⟨b, off + i * 2 + 1, none⟩ = some (.slice A n c) → n ≤ 20000)
def HeavyRel (w : World) (a : Option Addr) (len k s : Nat) : Prop := k ≤ len ∧ len ≤ s ∧ ∀ i b off A n c, i < k → a = some ⟨b, off, none⟩ → w.cell? ⟨b, off + i * 2 + 1, none⟩ = some (.slice A n c) → n ≤ s
set_option maxRecDepth 100000 in
set_option maxHeartbeats 1000000 in
theorem heavy_dr (w : World) (a : Option Addr) (len cap : Nat) (h : StrRows2 w [(.inl (.inl .u8)), (.inr .u32)] a len) :
    Calls Try.prog 12 #[.slice a len cap] w (HeavyPost w a len) := by
  have hl := h.1
  unfold maxLen at hl
  have hl2 : (len : Int) ≤ 9223372036854775807 := by omega
  have HL := Lib.hid hl2
  have H := Lib.hid h
  clear h hl hl2
  go_enter Try.func12, Try.ntmps12
  go_wp2
  go_loop [3, 4] (fun n i => ∃ k s : Nat, i = .int .i64 (k : Int) ∧ n = .int .i64 (s : Int) ∧ HeavyRel w a len k s) (fun _ i => len - (intOf i).toNat)
  case atStart => exact ⟨0, len, rfl, rfl, Nat.zero_le _, Nat.le_refl _, fun i _ _ _ _ _ hi => absurd hi (by omega)⟩
  case round =>
    obtain ⟨k, s, rfl, rfl, hk, hs, hall⟩ := hrel
    by_cases h1 : k < len
    · have i1 : (k : Int) < (len : Int) := by omega
      by_cases h2 : s ≤ 20000
      · have i2 : (s : Int) ≤ 20000 := by omega
        obtain ⟨b, off, hx, hlt, hc⟩ := H.out.2 k h1
        obtain ⟨v, hv, A, n, c, zs, hvs, _, hn⟩ := hc 1 (.inr .u32) rfl
        subst hvs
        have hv2 : w.cell? ⟨b, off + k * 2 + 1, none⟩ = some (.slice A n c) := hv
        have hrel : HeavyRel w a len (k + 1) (s + n) := by
          refine ⟨h1, by omega, fun i b' off' A' n' c' hi ha hc' => ?_⟩
          rcases Nat.lt_or_ge i k with h | h
          · have := hall i b' off' A' n' c' h ha hc'; omega
          · obtain rfl : i = k := by omega
            rw [hx] at ha
            injection ha with ha
            injection ha with ha1 ha2 _
            subst ha1 ha2
            rw [hv2] at hc'
            injection hc' with hc'
            injection hc' with _ hc' _
            omega
        subst hx
        have i3 : (n : Int) ≤ 140737488351232 := by omega
        have i4 : (len : Int) ≤ 20000 := by omega
        have Hrel := Lib.hid hrel
        clear hrel
        clear hall hv hc
        go_wp2
        go_round
        case rel => exact ⟨k + 1, s + n, by go_num, by go_num, Hrel.out⟩
        case measure => simp [intOf]; omega
      · have i2 : (20000 : Int) < (s : Int) := by omega
        have hp : HeavyPost w a len (.returned (.bool true)) w := ⟨true, rfl, rfl, fun h => by cases h⟩
        have Hp := Lib.hid hp
        clear hp
        clear hall
        go_wp2
        go_ret
        exact Hp.out
    · obtain rfl : k = len := by omega
      by_cases h2 : s ≤ 20000
      · have i2 : (s : Int) ≤ 20000 := by omega
        have hp : HeavyPost w a k (.returned (.bool (decide ((20000 : Int) < (s : Int))))) w := ⟨_, rfl, rfl, fun _ => ⟨by omega, fun i b off A n c h3 h4 h5 => by have := hall i b off A n c h3 h4 h5; omega⟩⟩
        have Hp := Lib.hid hp
        clear hp
        clear hall
        go_wp2
        go_ret
        exact Hp.out
      · have i2 : (20000 : Int) < (s : Int) := by omega
        have hp : HeavyPost w a k (.returned (.bool true)) w := ⟨true, rfl, rfl, fun h => by cases h⟩
        have Hp := Lib.hid hp
        clear hp
        clear hall
        go_wp2
        go_ret
        exact Hp.out
end Go.Proofs.Ythoodcpigmmehaa
