/- Layer 7 (opt): numbers as bytes, one behind the other. -/
import Derived.Test.YtimepplfaaddeaaBe
set_option linter.unusedVariables false
set_option linter.unusedSimpArgs false
namespace Go.Proofs.Ytimepplfaaddeaa
open Go.RowKit

theorem infoU8o : (Try.prog.info? 5).map (fun i => (i.zero, i.size, i.bytes)) = some (some (.int .u8 0), 1, 1) := by kernel_rfl
theorem info_parts_o {P : Program} {t : TypeId} {x : Option Value × Nat × Nat} (h : (P.info? t).map (fun i => (i.zero, i.size, i.bytes)) = some x) : ∃ i, P.info? t = some i ∧ i.zero = x.1 ∧ i.size = x.2.1 ∧ i.bytes = x.2.2 := by
  cases hi : P.info? t with
  | none => rw [hi] at h; cases h
  | some i =>
    rw [hi] at h
    injection h with h
    subst h
    exact ⟨i, rfl, rfl, rfl, rfl⟩
/-- v is a row of bytes of the call's own -/
def OwnU (w : World) (v : Value) (L : List UInt8) (wr : World) : Prop := wr.ownsRow w.heap.size 5 1 v L.length (L.map u8v) ∧ Below w.heap.size w wr
theorem OwnU.start (w : World) : OwnU w (.slice none 0 0) [] w := ⟨World.ownsRow_nil _ _ _ _, Below.refl _ _⟩
theorem OwnU.read (e : Int) (W : World) : Reads (W.alloc (.cells #[.int .u8 e] 5)) (W.heap.size + 1) 1 (some ⟨W.heap.size, 0, none⟩) 1 [.int .u8 e] := Reads.of_blk (Blk.new W 5 #[.int .u8 e]) (by omega) _ rfl _ rfl
theorem OwnU.put {w wr : World} {v : Value} {L : List UInt8} (h : OwnU w v L wr) (b : UInt8) (v' : Value) (w' : World) (e : Int) (ho : w'.ownsRow w.heap.size 5 1 v' (L.length + 1) (L.map u8v ++ [.int .u8 e])) (hg : (wr.alloc (.cells #[.int .u8 e] 5)).grownBy w' v.ownBlock) (he : e = (b.toNat : Int)) : OwnU w v' (L ++ [b]) w' := by
  subst he
  refine ⟨by rw [List.length_append, List.map_append]; exact ho, (h.2.alloc h.2.size _).grown hg (Nat.le_trans h.2.size (by simp)) (fun q hq => (h.1.lt q hq).1)⟩
theorem OwnU.text {w wr : World} {v : Value} {L : List UInt8} (h : OwnU w v L wr) (hne : L ≠ []) : ∃ ad c, v = .slice (some ad) L.length c ∧ (convert 46 9 (.slice (some ad) L.length c)).run Try.prog wr = .ok (.string ⟨L.toArray⟩) wr := by
  obtain ⟨A, c, rfl, _⟩ := own_slice h.1
  have hr := Reads.of_own h.1
  have hpos : 0 < L.length := List.length_pos_iff.2 hne
  obtain ⟨ad, rfl, _, hc⟩ := hr.2 hpos
  refine ⟨ad, c, rfl, run_bytes_back wr ad _ c L rfl ?_⟩
  intro j hj
  exact hc j _ (by rw [List.getElem?_map, List.getElem?_eq_getElem hj]; rfl)
theorem OwnU.lt_ {w wr : World} {v : Value} {L : List UInt8} (h : OwnU w v L wr) : ∀ q, v.ownBlock = some q → w.heap.size ≤ q := fun q hq => (h.1.lt q hq).1
def H32Rel (w : World) (xs : List Nat) (k : Nat) (v : Value) (wr : World) : Prop := k ≤ xs.length ∧ OwnU w v ((xs.take k).flatMap be4) wr
theorem flat_len4 : ∀ xs : List Nat, (xs.flatMap be4).length = 4 * xs.length
  | [] => rfl
  | x :: r => by rw [List.flatMap_cons, List.length_append, flat_len4 r, List.length_cons]; simp [be4]; omega
set_option maxRecDepth 100000 in
set_option maxHeartbeats 2000000 in
theorem ohigh32 (w : World) (r : Nat) (xs : List Nat) (cs : Array Value) (hx : ∀ x ∈ xs, x < 4294967296) (hcs : cs = (xs.map fun (x : Nat) => Value.int .u32 (x : Int)).toArray) (hr : Blk w r 24 cs) (hlen : xs.length ≤ 1000) (hpos : xs ≠ []) :
    Calls Try.prog 31 #[.int .i64 4, .slice (some ⟨r, 0, none⟩) xs.length xs.length] w fun e w' => e = .returned (.string ⟨(xs.flatMap be4).toArray⟩) ∧ Below w.heap.size w w' := by
  obtain ⟨i0, hi, h0, h1, h2⟩ := info_parts_o infoU8o
  have hrel0 : H32Rel w xs 0 (.slice none 0 0) w := ⟨Nat.zero_le _, by simpa using OwnU.start w⟩
  obtain ⟨n, hn⟩ : ∃ n, n = xs.length := ⟨_, rfl⟩
  have i1 : (n : Int) ≤ 1000 := by omega
  rw [← hn]
  have Hi := Lib.hid hi
  clear hi
  have H0 := Lib.hid h0
  clear h0
  have H1 := Lib.hid h1
  clear h1
  have H2 := Lib.hid h2
  clear h2
  have Hrel0 := Lib.hid hrel0
  clear hrel0
  have Hn := Lib.hid hn
  clear hn
  have Hx := Lib.hid hx
  clear hx
  have Hcs := Lib.hid hcs
  clear hcs
  have Hr := Lib.hid hr
  clear hr
  have Hpos := Lib.hid hpos
  clear hpos
  clear hlen
  go_enter Try.func31, Try.ntmps31
  go_wp2
  go_loopw [5, 11] (fun v i wr => ∃ k : Nat, i = .int .i64 (k : Int) ∧ H32Rel w xs k v wr) (fun _ i _ => n - (intOf i).toNat)
  case atStart => exact ⟨0, rfl, Hrel0.out⟩
  case round =>
    clear Hrel0
    obtain ⟨k, rfl, hk, hO⟩ := hrel
    rw [← Hn.out] at hk
    by_cases hlt : k < n
    · have i2 : (k : Int) < (n : Int) := by omega
      have hkk : k < xs.length := by rw [← Hn.out]; exact hlt
      obtain ⟨x, hxe⟩ : ∃ x, x = xs[k] := ⟨_, rfl⟩
      have hxb : x < 4294967296 := by rw [hxe]; exact Hx.out _ (List.getElem_mem hkk)
      have hck : wr.cell? ⟨r, k, none⟩ = some (.int .u32 (x : Int)) := by
        rw [(Hr.out.below hO.2 Hr.out.lt).cell k, Hcs.out, hxe]
        simp [hkk]
      have hrl : r < wr.heap.size := Nat.lt_of_lt_of_le Hr.out.lt hO.2.size
      have htk : (xs.take (k + 1)).flatMap be4 = (xs.take k).flatMap be4 ++ be4 x := by
        rw [hxe, List.take_succ_eq_append_getElem hkk, List.flatMap_append]
        simp
      obtain ⟨L, hL⟩ : ∃ L, L = (xs.take k).flatMap be4 := ⟨_, rfl⟩
      have hLL : L.length ≤ 4000 := by
        rw [hL, flat_len4]
        have := List.length_take_le k xs
        omega
      rw [← hL] at htk hO
      have hnext : ∀ v W, OwnU w v (L ++ be4 x) W → H32Rel w xs (k + 1) v W := fun v W h => ⟨hkk, by rw [htk]; exact h⟩
      have i3 : 0 ≤ (x : Int) := by omega
      have i4 : (x : Int) ≤ 4294967295 := by omega
      have Hnext := Lib.hid hnext
      have HLL := Lib.hid hLL
      have HO := Lib.hid hO
      clear hnext hLL hO htk hL hxe hkk hlt hk hxb
      go_wp2
      go_loopw [5, 16] (fun v j wr => (j = .int .i64 0 ∧ OwnU w v L wr) ∨ (j = .int .i64 1 ∧ OwnU w v (L ++ [UInt8.ofNat (x / 16777216)]) wr) ∨ (j = .int .i64 2 ∧ OwnU w v ((L ++ [UInt8.ofNat (x / 16777216)]) ++ [UInt8.ofNat (x / 65536)]) wr) ∨ (j = .int .i64 3 ∧ OwnU w v (((L ++ [UInt8.ofNat (x / 16777216)]) ++ [UInt8.ofNat (x / 65536)]) ++ [UInt8.ofNat (x / 256)]) wr) ∨ (j = .int .i64 4 ∧ OwnU w v ((((L ++ [UInt8.ofNat (x / 16777216)]) ++ [UInt8.ofNat (x / 65536)]) ++ [UInt8.ofNat (x / 256)]) ++ [UInt8.ofNat x]) wr)) (fun _ j _ => 4 - (intOf j).toNat)
      case atStart => exact .inl ⟨rfl, HO.out⟩
      case round =>
        clear HO hck hrl
        rcases hrel with ⟨rfl, hO⟩ | ⟨rfl, hO⟩ | ⟨rfl, hO⟩ | ⟨rfl, hO⟩ | ⟨rfl, hO⟩
        · have hw := hO.1.lt
          have hread := fun (e : Int) => OwnU.read e wr
          have hown2 := fun (e : Int) => hO.1.alloc (.cells #[.int .u8 e] 5)
          have hpost := hO.put (UInt8.ofNat (x / 16777216))
          have hsz := hO.2.size
          have Hread := Lib.hid hread
          have Hown2 := Lib.hid hown2
          have Hpost := Lib.hid hpost
          have Hsz := Lib.hid hsz
          clear hread hown2 hpost hsz hO hw
          go_wp2_with (at_builtin; refine wpList_append_any _ rfl _ _ _ rfl w.heap.size 5 i0 _ 1 1 Try.underlying46 Hi.out H0.out H1.out H2.out rfl (by decide) _ _ _ rfl (Hown2.out _) _ _ 1 1 _ rfl (Hread.out _) (by intro u hu; simp at hu; subst hu; rfl) (by simp only [maxLen, List.length_append, List.length_cons, List.length_nil]; have := HLL.out; omega) (by first | (simp only [List.length_append, List.length_cons, List.length_nil]; have := HLL.out; omega) | (have := HLL.out; omega)) (by simp; have := Hsz.out; omega) ?_; intro v1 w1 hown1 hg1 hat1; have hp1 := Hpost.out v1 w1 _ hown1 hg1 (by first | (rw [u8b]; omega) | rw [u8b]); have Hp1 := Lib.hid hp1; clear hown1 hg1 hat1 hp1)
          go_roundw
          case rel => exact (.inr (.inl ⟨rfl, Hp1.out⟩))
          case measure => simp [intOf]
        · have hw := hO.1.lt
          have hread := fun (e : Int) => OwnU.read e wr
          have hown2 := fun (e : Int) => hO.1.alloc (.cells #[.int .u8 e] 5)
          have hpost := hO.put (UInt8.ofNat (x / 65536))
          have hsz := hO.2.size
          have Hread := Lib.hid hread
          have Hown2 := Lib.hid hown2
          have Hpost := Lib.hid hpost
          have Hsz := Lib.hid hsz
          clear hread hown2 hpost hsz hO hw
          go_wp2_with (at_builtin; refine wpList_append_any _ rfl _ _ _ rfl w.heap.size 5 i0 _ 1 1 Try.underlying46 Hi.out H0.out H1.out H2.out rfl (by decide) _ _ _ rfl (Hown2.out _) _ _ 1 1 _ rfl (Hread.out _) (by intro u hu; simp at hu; subst hu; rfl) (by simp only [maxLen, List.length_append, List.length_cons, List.length_nil]; have := HLL.out; omega) (by first | (simp only [List.length_append, List.length_cons, List.length_nil]; have := HLL.out; omega) | (have := HLL.out; omega)) (by simp; have := Hsz.out; omega) ?_; intro v1 w1 hown1 hg1 hat1; have hp1 := Hpost.out v1 w1 _ hown1 hg1 (by first | (rw [u8b]; omega) | rw [u8b]); have Hp1 := Lib.hid hp1; clear hown1 hg1 hat1 hp1)
          go_roundw
          case rel => exact (.inr (.inr (.inl ⟨rfl, Hp1.out⟩)))
          case measure => simp [intOf]
        · have hw := hO.1.lt
          have hread := fun (e : Int) => OwnU.read e wr
          have hown2 := fun (e : Int) => hO.1.alloc (.cells #[.int .u8 e] 5)
          have hpost := hO.put (UInt8.ofNat (x / 256))
          have hsz := hO.2.size
          have Hread := Lib.hid hread
          have Hown2 := Lib.hid hown2
          have Hpost := Lib.hid hpost
          have Hsz := Lib.hid hsz
          clear hread hown2 hpost hsz hO hw
          go_wp2_with (at_builtin; refine wpList_append_any _ rfl _ _ _ rfl w.heap.size 5 i0 _ 1 1 Try.underlying46 Hi.out H0.out H1.out H2.out rfl (by decide) _ _ _ rfl (Hown2.out _) _ _ 1 1 _ rfl (Hread.out _) (by intro u hu; simp at hu; subst hu; rfl) (by simp only [maxLen, List.length_append, List.length_cons, List.length_nil]; have := HLL.out; omega) (by first | (simp only [List.length_append, List.length_cons, List.length_nil]; have := HLL.out; omega) | (have := HLL.out; omega)) (by simp; have := Hsz.out; omega) ?_; intro v1 w1 hown1 hg1 hat1; have hp1 := Hpost.out v1 w1 _ hown1 hg1 (by first | (rw [u8b]; omega) | rw [u8b]); have Hp1 := Lib.hid hp1; clear hown1 hg1 hat1 hp1)
          go_roundw
          case rel => exact (.inr (.inr (.inr (.inl ⟨rfl, Hp1.out⟩))))
          case measure => simp [intOf]
        · have hw := hO.1.lt
          have hread := fun (e : Int) => OwnU.read e wr
          have hown2 := fun (e : Int) => hO.1.alloc (.cells #[.int .u8 e] 5)
          have hpost := hO.put (UInt8.ofNat x)
          have hsz := hO.2.size
          have Hread := Lib.hid hread
          have Hown2 := Lib.hid hown2
          have Hpost := Lib.hid hpost
          have Hsz := Lib.hid hsz
          clear hread hown2 hpost hsz hO hw
          go_wp2_with (at_builtin; refine wpList_append_any _ rfl _ _ _ rfl w.heap.size 5 i0 _ 1 1 Try.underlying46 Hi.out H0.out H1.out H2.out rfl (by decide) _ _ _ rfl (Hown2.out _) _ _ 1 1 _ rfl (Hread.out _) (by intro u hu; simp at hu; subst hu; rfl) (by simp only [maxLen, List.length_append, List.length_cons, List.length_nil]; have := HLL.out; omega) (by first | (simp only [List.length_append, List.length_cons, List.length_nil]; have := HLL.out; omega) | (have := HLL.out; omega)) (by simp; have := Hsz.out; omega) ?_; intro v1 w1 hown1 hg1 hat1; have hp1 := Hpost.out v1 w1 _ hown1 hg1 (by first | (rw [u8b]; omega) | rw [u8b]); have Hp1 := Lib.hid hp1; clear hown1 hg1 hat1 hp1)
          go_roundw
          case rel => exact (.inr (.inr (.inr (.inr ⟨rfl, Hp1.out⟩))))
          case measure => simp [intOf]
        · have hn2 := Hnext.out _ wr (by simpa [be4] using hO)
          have Hn2 := Lib.hid hn2
          clear hn2 hO
          go_wp2
          go_roundw
          case rel => exact ⟨k + 1, by go_num, Hn2.out⟩
          case measure => simp [intOf]; omega
    · have hke : k = n := by omega
      have i2 : (n : Int) ≤ (k : Int) := by omega
      have hall : (xs.take k).flatMap be4 = xs.flatMap be4 := by rw [List.take_of_length_le (by rw [← Hn.out]; omega)]
      rw [hall] at hO
      obtain ⟨ad, c, rfl, hcv⟩ := hO.text (fun e => by
        have := flat_len4 xs
        rw [e] at this
        have := List.length_pos_iff.2 Hpos.out
        simp at *
        omega)
      have HB := Lib.hid hO.2
      clear hO hall hke hlt hk
      generalize (xs.flatMap be4).length = m at *
      go_wp2
      go_ret
      exact ⟨rfl, HB.out⟩
def H16Rel (w : World) (xs : List Nat) (k : Nat) (v : Value) (wr : World) : Prop := k ≤ xs.length ∧ OwnU w v ((xs.take k).flatMap be2) wr
theorem flat_len2 : ∀ xs : List Nat, (xs.flatMap be2).length = 2 * xs.length
  | [] => rfl
  | x :: r => by rw [List.flatMap_cons, List.length_append, flat_len2 r, List.length_cons]; simp [be2]; omega
set_option maxRecDepth 100000 in
set_option maxHeartbeats 2000000 in
theorem ohigh16 (w : World) (r : Nat) (xs : List Nat) (cs : Array Value) (hx : ∀ x ∈ xs, x < 65536) (hcs : cs = (xs.map fun (x : Nat) => Value.int .u16 (x : Int)).toArray) (hr : Blk w r 22 cs) (hlen : xs.length ≤ 1000) (hpos : xs ≠ []) :
    Calls Try.prog 33 #[.int .i64 2, .slice (some ⟨r, 0, none⟩) xs.length xs.length] w fun e w' => e = .returned (.string ⟨(xs.flatMap be2).toArray⟩) ∧ Below w.heap.size w w' := by
  obtain ⟨i0, hi, h0, h1, h2⟩ := info_parts_o infoU8o
  have hrel0 : H16Rel w xs 0 (.slice none 0 0) w := ⟨Nat.zero_le _, by simpa using OwnU.start w⟩
  obtain ⟨n, hn⟩ : ∃ n, n = xs.length := ⟨_, rfl⟩
  have i1 : (n : Int) ≤ 1000 := by omega
  rw [← hn]
  have Hi := Lib.hid hi
  clear hi
  have H0 := Lib.hid h0
  clear h0
  have H1 := Lib.hid h1
  clear h1
  have H2 := Lib.hid h2
  clear h2
  have Hrel0 := Lib.hid hrel0
  clear hrel0
  have Hn := Lib.hid hn
  clear hn
  have Hx := Lib.hid hx
  clear hx
  have Hcs := Lib.hid hcs
  clear hcs
  have Hr := Lib.hid hr
  clear hr
  have Hpos := Lib.hid hpos
  clear hpos
  clear hlen
  go_enter Try.func33, Try.ntmps33
  go_wp2
  go_loopw [5, 11] (fun v i wr => ∃ k : Nat, i = .int .i64 (k : Int) ∧ H16Rel w xs k v wr) (fun _ i _ => n - (intOf i).toNat)
  case atStart => exact ⟨0, rfl, Hrel0.out⟩
  case round =>
    clear Hrel0
    obtain ⟨k, rfl, hk, hO⟩ := hrel
    rw [← Hn.out] at hk
    by_cases hlt : k < n
    · have i2 : (k : Int) < (n : Int) := by omega
      have hkk : k < xs.length := by rw [← Hn.out]; exact hlt
      obtain ⟨x, hxe⟩ : ∃ x, x = xs[k] := ⟨_, rfl⟩
      have hxb : x < 65536 := by rw [hxe]; exact Hx.out _ (List.getElem_mem hkk)
      have hck : wr.cell? ⟨r, k, none⟩ = some (.int .u16 (x : Int)) := by
        rw [(Hr.out.below hO.2 Hr.out.lt).cell k, Hcs.out, hxe]
        simp [hkk]
      have hrl : r < wr.heap.size := Nat.lt_of_lt_of_le Hr.out.lt hO.2.size
      have htk : (xs.take (k + 1)).flatMap be2 = (xs.take k).flatMap be2 ++ be2 x := by
        rw [hxe, List.take_succ_eq_append_getElem hkk, List.flatMap_append]
        simp
      obtain ⟨L, hL⟩ : ∃ L, L = (xs.take k).flatMap be2 := ⟨_, rfl⟩
      have hLL : L.length ≤ 2000 := by
        rw [hL, flat_len2]
        have := List.length_take_le k xs
        omega
      rw [← hL] at htk hO
      have hnext : ∀ v W, OwnU w v (L ++ be2 x) W → H16Rel w xs (k + 1) v W := fun v W h => ⟨hkk, by rw [htk]; exact h⟩
      have i3 : 0 ≤ (x : Int) := by omega
      have i4 : (x : Int) ≤ 65535 := by omega
      have Hnext := Lib.hid hnext
      have HLL := Lib.hid hLL
      have HO := Lib.hid hO
      clear hnext hLL hO htk hL hxe hkk hlt hk hxb
      go_wp2
      go_loopw [5, 16] (fun v j wr => (j = .int .i64 0 ∧ OwnU w v L wr) ∨ (j = .int .i64 1 ∧ OwnU w v (L ++ [UInt8.ofNat (x / 256)]) wr) ∨ (j = .int .i64 2 ∧ OwnU w v ((L ++ [UInt8.ofNat (x / 256)]) ++ [UInt8.ofNat x]) wr)) (fun _ j _ => 2 - (intOf j).toNat)
      case atStart => exact .inl ⟨rfl, HO.out⟩
      case round =>
        clear HO hck hrl
        rcases hrel with ⟨rfl, hO⟩ | ⟨rfl, hO⟩ | ⟨rfl, hO⟩
        · have hw := hO.1.lt
          have hread := fun (e : Int) => OwnU.read e wr
          have hown2 := fun (e : Int) => hO.1.alloc (.cells #[.int .u8 e] 5)
          have hpost := hO.put (UInt8.ofNat (x / 256))
          have hsz := hO.2.size
          have Hread := Lib.hid hread
          have Hown2 := Lib.hid hown2
          have Hpost := Lib.hid hpost
          have Hsz := Lib.hid hsz
          clear hread hown2 hpost hsz hO hw
          go_wp2_with (at_builtin; refine wpList_append_any _ rfl _ _ _ rfl w.heap.size 5 i0 _ 1 1 Try.underlying46 Hi.out H0.out H1.out H2.out rfl (by decide) _ _ _ rfl (Hown2.out _) _ _ 1 1 _ rfl (Hread.out _) (by intro u hu; simp at hu; subst hu; rfl) (by simp only [maxLen, List.length_append, List.length_cons, List.length_nil]; have := HLL.out; omega) (by first | (simp only [List.length_append, List.length_cons, List.length_nil]; have := HLL.out; omega) | (have := HLL.out; omega)) (by simp; have := Hsz.out; omega) ?_; intro v1 w1 hown1 hg1 hat1; have hp1 := Hpost.out v1 w1 _ hown1 hg1 (by first | (rw [u8b]; omega) | rw [u8b]); have Hp1 := Lib.hid hp1; clear hown1 hg1 hat1 hp1)
          go_roundw
          case rel => exact (.inr (.inl ⟨rfl, Hp1.out⟩))
          case measure => simp [intOf]
        · have hw := hO.1.lt
          have hread := fun (e : Int) => OwnU.read e wr
          have hown2 := fun (e : Int) => hO.1.alloc (.cells #[.int .u8 e] 5)
          have hpost := hO.put (UInt8.ofNat x)
          have hsz := hO.2.size
          have Hread := Lib.hid hread
          have Hown2 := Lib.hid hown2
          have Hpost := Lib.hid hpost
          have Hsz := Lib.hid hsz
          clear hread hown2 hpost hsz hO hw
          go_wp2_with (at_builtin; refine wpList_append_any _ rfl _ _ _ rfl w.heap.size 5 i0 _ 1 1 Try.underlying46 Hi.out H0.out H1.out H2.out rfl (by decide) _ _ _ rfl (Hown2.out _) _ _ 1 1 _ rfl (Hread.out _) (by intro u hu; simp at hu; subst hu; rfl) (by simp only [maxLen, List.length_append, List.length_cons, List.length_nil]; have := HLL.out; omega) (by first | (simp only [List.length_append, List.length_cons, List.length_nil]; have := HLL.out; omega) | (have := HLL.out; omega)) (by simp; have := Hsz.out; omega) ?_; intro v1 w1 hown1 hg1 hat1; have hp1 := Hpost.out v1 w1 _ hown1 hg1 (by first | (rw [u8b]; omega) | rw [u8b]); have Hp1 := Lib.hid hp1; clear hown1 hg1 hat1 hp1)
          go_roundw
          case rel => exact (.inr (.inr ⟨rfl, Hp1.out⟩))
          case measure => simp [intOf]
        · have hn2 := Hnext.out _ wr (by simpa [be2] using hO)
          have Hn2 := Lib.hid hn2
          clear hn2 hO
          go_wp2
          go_roundw
          case rel => exact ⟨k + 1, by go_num, Hn2.out⟩
          case measure => simp [intOf]; omega
    · have hke : k = n := by omega
      have i2 : (n : Int) ≤ (k : Int) := by omega
      have hall : (xs.take k).flatMap be2 = xs.flatMap be2 := by rw [List.take_of_length_le (by rw [← Hn.out]; omega)]
      rw [hall] at hO
      obtain ⟨ad, c, rfl, hcv⟩ := hO.text (fun e => by
        have := flat_len2 xs
        rw [e] at this
        have := List.length_pos_iff.2 Hpos.out
        simp at *
        omega)
      have HB := Lib.hid hO.2
      clear hO hall hke hlt hk
      generalize (xs.flatMap be2).length = m at *
      go_wp2
      go_ret
      exact ⟨rfl, HB.out⟩
end Go.Proofs.Ytimepplfaaddeaa
