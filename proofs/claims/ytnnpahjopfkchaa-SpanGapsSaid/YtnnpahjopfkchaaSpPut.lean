/- Rows of numbers; transomref02.put: a number into rising ones. -/
import Derived.Test.YtnnpahjopfkchaaSpanW
set_option linter.unusedVariables false
set_option linter.unusedSimpArgs false
namespace Go.Proofs.Ytnnpahjopfkchaa
open Go.RowKit Go.BigFrame

/-- what put makes of rising numbers -/
structure PutP (us : List Nat) (n : Nat) (R : List Nat) : Prop where
  sorted : R.Pairwise (· < ·)
  mem : ∀ v, v ∈ R ↔ v ∈ us ∨ v = n
  len : R.length ≤ us.length + 1
structure InvP (us : List Nat) (n k : Nat) (d : Bool) (o : List Nat) : Prop where
  sorted : o.Pairwise (· < ·)
  mem : ∀ v, v ∈ o ↔ v ∈ us.take k ∨ (d = true ∧ v = n)
  low : d = false → ∀ v ∈ us.take k, v < n
  high : d = true → ∃ r ∈ us.take k, n < r
  len : o.length ≤ k + 1 ∧ (d = false → o.length ≤ k)
theorem invP_nil (us : List Nat) (n : Nat) : InvP us n 0 false [] := ⟨List.Pairwise.nil, fun v => by simp, fun _ v hv => by simp at hv, fun h => by (cases h), by simp, fun _ => by simp⟩
theorem pair_snoc {o : List Nat} {v : Nat} (h : o.Pairwise (· < ·)) (hv : ∀ u ∈ o, u < v) : (o ++ [v]).Pairwise (· < ·) :=
  List.pairwise_append.2 ⟨h, List.pairwise_singleton _ _, fun a ha b hb => by rw [List.mem_singleton.1 hb]; exact hv a ha⟩
theorem take_lt {us : List Nat} (hs : us.Pairwise (· < ·)) {k : Nat} (hk : k < us.length) : ∀ v ∈ us.take k, v < us[k] := fun v hv => by
  obtain ⟨i, hi, rfl⟩ := List.mem_iff_getElem.1 hv
  rw [List.length_take] at hi
  rw [List.getElem_take]
  exact List.pairwise_iff_getElem.1 hs i k (by omega) hk (by omega)
section
variable {us : List Nat} {n k : Nat} {d : Bool} {o : List Nat}
theorem InvP.step (h : InvP us n k d o) (hs : us.Pairwise (· < ·)) (hk : k < us.length) (hd : d = false → us[k] < n) : InvP us n (k + 1) d (o ++ [us[k]]) := by
  have ht : us.take k ++ [us[k]] = us.take (k + 1) := List.take_append_getElem hk
  have hl := take_lt hs hk
  refine ⟨pair_snoc h.sorted fun u hu => ?_, fun v => ?_, fun hf v hv => ?_, fun htr => ?_, ?_, fun hf => ?_⟩
  · rcases (h.mem u).1 hu with hu | ⟨hd2, rfl⟩
    · exact hl u hu
    · obtain ⟨r, hr, h1⟩ := h.high hd2
      have := hl r hr
      omega
  · rw [← ht, List.mem_append, List.mem_append, h.mem]
    simp only [List.mem_singleton]
    constructor
    · rintro ((h1 | h1) | h1)
      · exact .inl (.inl h1)
      · exact .inr h1
      · exact .inl (.inr h1)
    · rintro ((h1 | h1) | h1)
      · exact .inl (.inl h1)
      · exact .inr h1
      · exact .inl (.inr h1)
  · rw [← ht] at hv
    rcases List.mem_append.1 hv with hv | hv
    · exact h.low hf v hv
    · rw [List.mem_singleton.1 hv]; exact hd hf
  · obtain ⟨r, hr, h1⟩ := h.high htr
    exact ⟨r, by rw [← ht]; exact List.mem_append_left _ hr, h1⟩
  · have := h.len.1; simp; omega
  · have := h.len.2 hf; simp; omega
theorem InvP.put (h : InvP us n k false o) (hs : us.Pairwise (· < ·)) (hk : k < us.length) (hn : n < us[k]) : InvP us n (k + 1) true (o ++ [n] ++ [us[k]]) := by
  have ht : us.take k ++ [us[k]] = us.take (k + 1) := List.take_append_getElem hk
  have hm : ∀ v, v ∈ o ↔ v ∈ us.take k := fun v => by rw [h.mem]; simp
  refine ⟨pair_snoc (pair_snoc h.sorted fun u hu => h.low rfl u ((hm u).1 hu)) fun u hu => ?_, fun v => ?_, fun hf => by (cases hf), fun _ => ⟨us[k], by rw [← ht]; exact List.mem_append_right _ (List.mem_singleton.2 rfl), hn⟩, ?_, fun hf => by (cases hf)⟩
  · rcases List.mem_append.1 hu with hu | hu
    · have := h.low rfl u ((hm u).1 hu); omega
    · rw [List.mem_singleton.1 hu]; exact hn
  · rw [← ht, List.mem_append, List.mem_append, List.mem_append, hm]
    simp only [List.mem_singleton, true_and]
    constructor
    · rintro ((h1 | h1) | h1)
      · exact .inl (.inl h1)
      · exact .inr h1
      · exact .inl (.inr h1)
    · rintro ((h1 | h1) | h1)
      · exact .inl (.inl h1)
      · exact .inr h1
      · exact .inl (.inr h1)
  · have := h.len.2 rfl; simp; omega
theorem InvP.done_t (h : InvP us n us.length true o) : PutP us n o := ⟨h.sorted, fun v => by rw [h.mem, List.take_length]; simp, h.len.1⟩
theorem InvP.done_f (h : InvP us n us.length false o) : PutP us n (o ++ [n]) := by
  have hm : ∀ v, v ∈ o ↔ v ∈ us := fun v => by rw [h.mem, List.take_length]; simp
  refine ⟨pair_snoc h.sorted fun u hu => h.low rfl u (by rw [List.take_length]; exact (hm u).1 hu), fun v => by rw [List.mem_append, hm, List.mem_singleton], ?_⟩
  have := h.len.2 rfl; simp; omega
theorem PutP.same (hs : us.Pairwise (· < ·)) (hk : k < us.length) (hn : us[k] = n) : PutP us n us :=
  ⟨hs, fun v => ⟨.inl, fun h => h.elim id fun h => by rw [h, ← hn]; exact List.getElem_mem hk⟩, by omega⟩
end
def u64V (n : Nat) : Value := .int .u64 (n : Int)
def NmAt (n₀ : Nat) (W : World) (A : Option Addr) (us : List Nat) : Prop := us = [] ∨ ∃ b off, A = some ⟨b, off, none⟩ ∧ b < n₀ ∧ ∀ j (hj : j < us.length), W.cell? ⟨b, off + j, none⟩ = some (.int .u64 (us[j] : Int))
def OwnN (base : Nat) (W : World) (v : Value) (o : List Nat) : Prop := W.ownsRow base 23 1 v o.length (o.map u64V)
theorem infoU64 : (Try.prog.info? 23).map (fun i => (i.zero, i.size, i.bytes)) = some (some (.int .u64 0), 1, 8) := by kernel_rfl
section
variable {n₀ n₁ base : Nat} {W W' W0 : World} {A : Option Addr} {us o : List Nat} {v v' : Value}
theorem NmAt.below (h : NmAt n₀ W A us) (hb : Below n₀ W W') : NmAt n₀ W' A us := h.imp id fun ⟨b, off, e, h1, h2⟩ => ⟨b, off, e, h1, fun j hj => (hb.cell (p := ⟨b, off + j, none⟩) h1).trans (h2 j hj)⟩
theorem NmAt.mono (h : NmAt n₀ W A us) (hn : n₀ ≤ n₁) : NmAt n₁ W A us := h.imp id fun ⟨b, off, e, h1, h2⟩ => ⟨b, off, e, by omega, h2⟩
theorem NmAt.at_ (h : NmAt n₀ W A us) {j : Nat} (hj : j < us.length) : ∃ b off, A = some ⟨b, off, none⟩ ∧ b < n₀ ∧ W.cell? ⟨b, off + j, none⟩ = some (.int .u64 (us[j] : Int)) := by
  rcases h with rfl | ⟨b, off, e, h1, h2⟩
  · simp at hj
  · exact ⟨b, off, e, h1, h2 j hj⟩
theorem OwnN.nil (base : Nat) (W : World) : OwnN base W (.slice none 0 0) [] := World.ownsRow_nil _ _ _ _
theorem OwnN.at_ {n c : Nat} (h : OwnN base W (.slice A n c) o) : NmAt W.heap.size W A o ∧ n = o.length := by
  rcases h.2 with ⟨e, h0⟩ | ⟨g, cap, cur, e, h1, h2, h3, h4, h5, h6⟩
  · injection e with e1 e2 _
    exact ⟨.inl (List.eq_nil_of_length_eq_zero h0), by omega⟩
  · injection e with e1 e2 e3
    refine ⟨.inr ⟨g, 0, e1, (Array.getElem?_eq_some_iff.1 h2).1, fun j hj => ?_⟩, e2⟩
    have hb : Blk W g 23 cur := h2
    have hu : (o.map u64V)[j]? = some (.int .u64 (o[j] : Int)) := by simp [hj, u64V]
    rw [← h6, List.getElem?_take_of_lt (by omega), Array.getElem?_toList] at hu
    rw [Nat.zero_add]
    exact (hb.cell j).trans hu
theorem OwnN.below (h : OwnN base W v o) (hb : Below W.heap.size W W') : OwnN base W' v o := by
  refine ⟨h.1, h.2.imp id fun ⟨g, cap, cur, e, h1, h2, h3⟩ => ⟨g, cap, cur, e, h1, ?_, h3⟩⟩
  rw [hb.block g (Array.getElem?_eq_some_iff.1 h2).1]
  exact h2
theorem OwnN.block (h : OwnN base W v o) : ∀ k, v.ownBlock = some k → base ≤ k := by
  rcases h.2 with ⟨rfl, _⟩ | ⟨g, cap, cur, rfl, h1, _⟩
  · intro k hk; cases hk
  · intro k hk
    have : g = k := Option.some.inj hk
    omega
end
theorem nmBlk_reads {W : World} {g n : Nat} (h : Blk W g 23 #[.int .u64 (n : Int)]) : Reads W (g + 1) 1 (some ⟨g, 0, none⟩) 1 [u64V n] := by
  refine ⟨rfl, fun _ => ⟨_, rfl, Nat.lt_succ_self g, fun j u hu => ?_⟩⟩
  rw [add_off, Nat.zero_add]
  have := h.cell j
  rw [this]
  simpa [u64V] using hu
theorem wpList_appN {W0 w : World} {base : Nat} {ops : Array Oper} {o : Oper} {rest : List Oper} {a : Act} {Q : Exit → Act → World → Prop} (hgd : o.guard = none) (s x : Operand)
    (ho : o.op = .call { callee := .builtin .append, args := #[s, x], argTypes := #[56, 56] })
    (v : Value) (l : List Nat) (n : Nat) (hs : a.eval s = v) (hown : OwnN base w v l) (hb : Below base W0 w) (hbase : base ≤ w.heap.size) (g : Nat) (hx : a.eval x = .slice (some ⟨g, 0, none⟩) 1 1)
    (hr : Blk w g 23 #[.int .u64 (n : Int)]) (hl : l.length ≤ 2000000)
    (h : ∀ A c w', OwnN base w' (.slice A (l.length + 1) c) (l ++ [n]) → Below base W0 w' → wpList Try.prog ops Q rest (a.put o.dst (.slice A (l.length + 1) c)) w') :
    wpList Try.prog ops Q (o :: rest) a w := by
  obtain ⟨i0, hi, e⟩ := Option.map_eq_some_iff.1 infoU64
  have h0 : i0.zero = _ := congrArg Prod.fst e
  have h1 : i0.size = _ := congrArg (·.2.1) e
  have h2 : i0.bytes = _ := congrArg (·.2.2) e
  refine wpList_append_any w hgd s x _ ho base 23 i0 _ 1 8 Try.underlying56 hi h0 h1 h2 rfl (by decide) v l.length (l.map u64V) hs hown (g + 1) _ 1 1 [u64V n] hx (nmBlk_reads hr) ?_ (by simp only [maxLen]; omega) (by omega) hbase ?_
  · intro u hu
    rw [List.mem_singleton.1 hu]
    rfl
  · intro v' w' h2 hg _
    have ho : OwnN base w' v' (l ++ [n]) := by
      unfold OwnN
      rw [List.length_append, List.map_append]
      exact h2
    have he : ∃ A c, v' = .slice A (l.length + 1) c := by
      rcases h2.2 with ⟨_, h0⟩ | ⟨g, cap, cur, e, _⟩
      · omega
      · exact ⟨_, _, e⟩
    obtain ⟨A, c, rfl⟩ := he
    exact h A c w' ho (hb.grown hg hbase hown.block)
/-- behind put -/
def PutPost (w : World) (us : List Nat) (n : Nat) (e : Ending) (w' : World) : Prop :=
  ∃ R A' c', PutP us n R ∧ e = .returned (.slice A' R.length c') ∧ NmAt w'.heap.size w' A' R ∧ Below w.heap.size w w'
theorem putPost {w w' : World} {us R : List Nat} {n : Nat} {e : Ending} (A' : Option Addr) (c' : Nat) (h1 : PutP us n R) (h2 : e = .returned (.slice A' R.length c')) (h3 : NmAt w'.heap.size w' A' R) (h4 : Below w.heap.size w w') : PutPost w us n e w' := ⟨R, A', c', h1, h2, h3, h4⟩
section
variable {w : World} {A : Option Addr} {us : List Nat} {cap : Nat}
set_option maxRecDepth 100000 in
set_option maxHeartbeats 4000000 in
theorem put_any (n : Nat) (hm : us.length ≤ 1000000) (hs : us.Pairwise (· < ·)) (hI : NmAt w.heap.size w A us) : Calls Try.prog 42 #[.slice A us.length cap, .int .u64 (n : Int)] w (PutPost w us n) := by
  have lm : (us.length : Int) ≤ 1000000 := by omega
  have HI := Lib.hid (And.intro hI hs)
  clear hI hs
  go_enter Try.func42, Try.ntmps42
  go_wp2
  go_loopw [5, 6, 7] (fun out dn i wr => ∃ (k m : Nat) (A' : Option Addr) (c' : Nat) (d : Bool) (o : List Nat), out = .slice A' m c' ∧ dn = .bool d ∧ i = .int .i64 k ∧ k ≤ us.length ∧ Hid (m = o.length ∧ InvP us n k d o ∧ OwnN w.heap.size wr (.slice A' m c') o ∧ Below w.heap.size w wr)) (fun _ _ i _ => us.length - (intOf i).toNat)
  case atStart => exact ⟨0, 0, none, 0, false, [], rfl, rfl, rfl, Nat.zero_le _, Lib.hid ⟨rfl, invP_nil _ _, OwnN.nil _ _, Below.refl _ _⟩⟩
  case round =>
    obtain ⟨k, m, A', c', d, o, rfl, rfl, rfl, hk, HO⟩ := hrel
    by_cases h1 : k < us.length
    · have h1z : (k : Int) < (us.length : Int) := by omega
      have k0 : (0 : Int) ≤ (k : Int) := by omega
      obtain ⟨b, off, rfl, hb, r1⟩ := (HI.out.1.below HO.out.2.2.2).at_ h1
      have hol : o.length ≤ 1000001 := by have := HO.out.2.1.len.1; omega
      have hst := fun hd => HO.out.2.1.step HI.out.2 h1 hd
      have hpt := fun (e : d = false) hn => InvP.put (o := o) (by have := HO.out.2.1; rwa [e] at this) HI.out.2 h1 hn
      have hsm := fun hn => PutP.same (n := n) HI.out.2 h1 hn
      obtain ⟨u, eu⟩ : ∃ u, u = us[k] := ⟨_, rfl⟩
      rw [← eu] at r1 hst hpt hsm
      have HH := Lib.hid (And.intro hst (And.intro hpt (And.intro hsm hol)))
      clear hst hpt hsm hol eu
      by_cases he : u = n
      · have hez : (u : Int) = (n : Int) := by omega
        have heb : ((u : Int) == (n : Int)) = true := by simp [hez]
        have HN := Lib.hid he
        clear he hez
        go_wp2
        go_ret
        exact putPost _ cap (HH.out.2.2.1 HN.out) rfl ((HI.out.1.below HO.out.2.2.2).mono HO.out.2.2.2.size) HO.out.2.2.2
      · have hez : ¬ (u : Int) = (n : Int) := by omega
        have heb : ((u : Int) == (n : Int)) = false := by simp [hez]
        by_cases hgt : d = false ∧ n < u
        · have hgz : (u : Int) > (n : Int) := by omega
          obtain ⟨rfl, hnu⟩ := hgt
          have HN := Lib.hid hnu
          clear he hez hnu
          go_wp2_with (first
            | (at_builtin
               refine wpList_appN (W0 := w) rfl (.tmp 31) (.tmp 33) rfl _ o n rfl (HO.out.2.2.1.below ((Below.refl _ _).alloc (Nat.le_refl _) _)) (HO.out.2.2.2.alloc HO.out.2.2.2.size _) (by have := HO.out.2.2.2.size; simp; omega) _ rfl (Blk.new _ _ _) (by have := HH.out.2.2.2; omega) ?_
               intro A5 c5 w5 ho5 hb5
               have r5 := (hb5.cell (p := ⟨b, off + k, none⟩) hb).trans ((HO.out.2.2.2.cell (p := ⟨b, off + k, none⟩) hb).symm.trans r1)
               have H5 := Lib.hid (And.intro ho5 hb5)
               clear ho5 hb5)
            | (at_builtin
               refine wpList_appN (W0 := w) rfl (.tmp 35) (.tmp 40) rfl _ (o ++ [n]) u rfl (H5.out.1.below ((Below.refl _ _).alloc (Nat.le_refl _) _)) (H5.out.2.alloc H5.out.2.size _) (by have := H5.out.2.size; simp; omega) _ rfl (Blk.new _ _ _) (by have := HH.out.2.2.2; simp; omega) ?_
               intro A6 c6 w6 ho6 hb6
               have H6 := Lib.hid (And.intro ho6 hb6)
               clear ho6 hb6))
          go_roundw
          case rel =>
            have H7 := H6.out.1
            rw [List.length_append, List.length_cons, List.length_nil, Nat.zero_add] at H7
            exact ⟨k + 1, _, A6, c6, true, _, rfl, rfl, by go_num, h1, Lib.hid ⟨H7.at_.2, HH.out.2.1 rfl HN.out, H7, H6.out.2⟩⟩
          case measure => simp [intOf]; omega
        · have hlo : d = false → u < n := fun e => by
            rcases Nat.lt_trichotomy u n with h | h | h
            · exact h
            · exact absurd h he
            · exact absurd ⟨e, h⟩ hgt
          have HN := Lib.hid hlo
          have hgz : d = false → ¬ (u : Int) > (n : Int) := fun e => by have := hlo e; omega
          clear he hez hgt hlo
          cases d with
          | true =>
            clear hgz
            go_wp2_with (at_builtin; refine wpList_appN (W0 := w) rfl (.tmp 35) (.tmp 40) rfl _ o u rfl (HO.out.2.2.1.below ((Below.refl _ _).alloc (Nat.le_refl _) _)) (HO.out.2.2.2.alloc HO.out.2.2.2.size _) (by have := HO.out.2.2.2.size; simp; omega) _ rfl (Blk.new _ _ _) (by have := HH.out.2.2.2; omega) ?_; intro A6 c6 w6 ho6 hb6; have H6 := Lib.hid (And.intro ho6 hb6); clear ho6 hb6)
            go_roundw
            case rel => exact ⟨k + 1, _, A6, c6, true, _, rfl, rfl, by go_num, h1, Lib.hid ⟨H6.out.1.at_.2, HH.out.1 HN.out, H6.out.1, H6.out.2⟩⟩
            case measure => simp [intOf]; omega
          | false =>
            have hgz := hgz rfl
            go_wp2_with (at_builtin; refine wpList_appN (W0 := w) rfl (.tmp 35) (.tmp 40) rfl _ o u rfl (HO.out.2.2.1.below ((Below.refl _ _).alloc (Nat.le_refl _) _)) (HO.out.2.2.2.alloc HO.out.2.2.2.size _) (by have := HO.out.2.2.2.size; simp; omega) _ rfl (Blk.new _ _ _) (by have := HH.out.2.2.2; omega) ?_; intro A6 c6 w6 ho6 hb6; have H6 := Lib.hid (And.intro ho6 hb6); clear ho6 hb6)
            go_roundw
            case rel => exact ⟨k + 1, _, A6, c6, false, _, rfl, rfl, by go_num, h1, Lib.hid ⟨H6.out.1.at_.2, HH.out.1 HN.out, H6.out.1, H6.out.2⟩⟩
            case measure => simp [intOf]; omega
    · obtain rfl : k = us.length := by omega
      have h1z : ¬ (us.length : Int) < (us.length : Int) := by omega
      cases d with
      | true =>
        go_wp2
        go_ret
        have hme : Ending.returned (Value.slice A' m c') = .returned (.slice A' o.length c') := congrArg (fun q => Ending.returned (Value.slice A' q c')) HO.out.1
        exact putPost (R := o) A' c' HO.out.2.1.done_t hme HO.out.2.2.1.at_.1 HO.out.2.2.2
      | false =>
        have hol : o.length ≤ 1000001 := by have := HO.out.2.1.len.1; omega
        have HH := Lib.hid hol
        clear hol
        go_wp2_with (at_builtin; refine wpList_appN (W0 := w) rfl (.tmp 44) (.tmp 46) rfl _ o n rfl (HO.out.2.2.1.below ((Below.refl _ _).alloc (Nat.le_refl _) _)) (HO.out.2.2.2.alloc HO.out.2.2.2.size _) (by have := HO.out.2.2.2.size; simp; omega) _ rfl (Blk.new _ _ _) (by have := HH.out; omega) ?_; intro A6 c6 w6 ho6 hb6; have H6 := Lib.hid (And.intro ho6 hb6); clear ho6 hb6)
        go_ret
        exact putPost A6 c6 HO.out.2.1.done_f (by rw [List.length_append]; rfl) H6.out.1.at_.1 H6.out.2
end
end Go.Proofs.Ytnnpahjopfkchaa
