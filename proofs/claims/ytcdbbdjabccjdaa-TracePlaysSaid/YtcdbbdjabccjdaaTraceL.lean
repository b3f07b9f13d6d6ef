/- Layer 31 (trace): All, of whatever acts. -/
import Derived.Test.YtcdbbdjabccjdaaTraceK
set_option linter.unusedVariables false
set_option linter.unusedSimpArgs false
namespace Go.Proofs.Ytcdbbdjabccjdaa
open Go.RowKit Go.BigFrame Go.ChangeMaps

structure AAct where
  e : Int
  d : Nat
  s : ByteArray
def aNil : AAct := ⟨0, 0, ⟨#[]⟩⟩
/-- acts in memory -/
def ARow (w : World) (A : Option Addr) (len : Nat) (l : List AAct) : Prop := l.length = len ∧ ∀ k, k < len → ∃ r off, A = some ⟨r, off, none⟩ ∧ r < w.heap.size ∧
  w.cell? ⟨r, off + k * 3, none⟩ = some (.int .i64 (l.getD k aNil).e) ∧ w.cell? ⟨r, off + k * 3 + 1, none⟩ = some (.int .u8 ((l.getD k aNil).d : Int)) ∧ w.cell? ⟨r, off + k * 3 + 2, none⟩ = some (.string (l.getD k aNil).s)
theorem ARow.below {w w' : World} {A : Option Addr} {len : Nat} {l : List AAct} (h : ARow w A len l) (hb : Below w.heap.size w w') : ARow w' A len l := by
  refine ⟨h.1, fun k hk => ?_⟩
  obtain ⟨r, off, h1, h2, h3, h4, h5⟩ := h.2 k hk
  exact ⟨r, off, h1, Nat.lt_of_lt_of_le h2 hb.size, (hb.cell h2).trans h3, (hb.cell h2).trans h4, (hb.cell h2).trans h5⟩
def stepA (t : Tr) (x : AAct) : Int × Tr := doM t x.e x.d x.s
/-- what All answers of acts, from a trace on, k acts ahead of them -/
def allM : Tr → List AAct → Nat → Nat × Int
  | _, [], k => (k, 0)
  | t, x :: l, k => if (stepA t x).1 = 0 then allM (stepA t x).2 l (k + 1) else (k, (stepA t x).1)
theorem szd_step {t : Tr} (h : Szd t) (x : AAct) : Szd (stepA t x).2 := szd_do t x.e x.d x.s h
theorem szd_0 : Szd T0 := ⟨by decide, by decide, by decide, by decide⟩
/-- behind k acts of All -/
def AllRel (w : World) (b : Nat) (l : List AAct) (k : Nat) (wr : World) : Prop := ∃ t, Szd t ∧ TrAt wr b t ∧ allM T0 l 0 = allM t (l.drop k) k ∧ Below w.heap.size w wr
theorem all_at (w : World) (A : Option Addr) (len cap : Nat) (l : List AAct) (h : ARow w A len l) (hlen : len ≤ 9223372036854775807) (hs : ∀ k, (l.getD k aNil).s.size ≤ 4194304) :
    Calls Try.prog 18 #[.slice A len cap] w fun e w' => e = .returned (.tuple #[.int .i64 ((allM T0 l 0).1 : Int), .int .i64 (allM T0 l 0).2]) ∧ Below w.heap.size w w' := by
  have hi0 : (len : Int) ≤ 9223372036854775807 := by omega
  obtain ⟨ans, hans⟩ : ∃ a, a = allM T0 l 0 := ⟨_, rfl⟩
  rw [← hans]
  have H := Lib.hid h
  clear h
  have Hs := Lib.hid hs
  clear hs
  have Hans := Lib.hid hans
  clear hans
  clear hlen
  go_enter Try.func18, Try.ntmps18
  go_wp2_with fail
  (with_reducible refine (new_at _).mono ?_)
  rintro e w2 ⟨b, rfl, hb, ht, hB⟩
  have hrel0 : AllRel w b l 0 w2 := ⟨T0, szd_0, ht, rfl, hB⟩
  have Hrel0 := Lib.hid hrel0
  clear hrel0
  have Hb := Lib.hid hb
  clear hb
  clear ht hB
  go_wp2
  go_loopw [11] (fun i wr => ∃ k : Nat, k ≤ len ∧ i = .int .i64 (k : Int) ∧ AllRel w b l k wr) (fun i _ => len - (intOf i).toNat)
  case atStart => exact ⟨0, Nat.zero_le _, rfl, Hrel0.out⟩
  case round =>
    obtain ⟨k, hk, rfl, t, hz, ht, hall, hB⟩ := hrel
    clear Hrel0
    have hrow := H.out.below hB
    by_cases hlt : k < len
    · obtain ⟨r, off, rfl, hrl, q0, q1, q2⟩ := hrow.2 k hlt
      have hsk := Hs.out k
      have hdrop : l.drop k = l.getD k aNil :: l.drop (k + 1) := by
        have hl : k < l.length := by rw [H.out.1]; exact hlt
        rw [List.drop_eq_getElem_cons hl]
        simp [List.getD, List.getElem?_eq_getElem hl]
      rw [hdrop] at hall
      generalize hx : l.getD k aNil = x at *
      clear hx hrow hdrop
      obtain ⟨e, d, s⟩ := x
      simp only at q0 q1 q2 hsk
      have e1 : decide (k < len) = true := decide_eq_true hlt
      have ht1 : TrAt (wr.alloc (.cells #[.int .i64 e, .int .u8 (d : Int), .string s] 36)) b t := Blk.alloc ht _
      have hB1 := hB.alloc hB.size (.cells #[.int .i64 e, .int .u8 (d : Int), .string s] 36)
      have hdo := do_at _ b t e d s ht1 hz hsk
      obtain ⟨rr, hrr⟩ : ∃ z, z = stepA t ⟨e, d, s⟩ := ⟨_, rfl⟩
      have hz2 : Szd rr.2 := by rw [hrr]; exact szd_step hz _
      rw [show doM t e d s = rr from hrr.symm] at hdo
      have hall2 : allM t (⟨e, d, s⟩ :: l.drop (k + 1)) k = if rr.1 = 0 then allM rr.2 (l.drop (k + 1)) (k + 1) else (k, rr.1) := by rw [hrr]; rfl
      rw [hall2] at hall
      have Hall := Lib.hid hall
      clear hall
      have Hz2 := Lib.hid hz2
      clear hz2
      have Hdo := Lib.hid hdo
      clear hdo
      have HB1 := Lib.hid hB1
      clear hB1
      have Hrr := Lib.hid hrr
      clear hrr
      clear hall2 hB hz ht ht1 hsk
      go_wp2_with fail
      refine Hdo.out.mono ?_
      rintro rv w5 ⟨rfl, ht5, hg5⟩
      have hB5 := below_only HB1.out hg5 Hb.out HB1.out.size
      have hall := Hall.out
      have hz2 := Hz2.out
      clear hg5 Hdo Hrr Hall Hz2
      obtain ⟨re, rt⟩ := rr
      simp only at hall hz2 ht5 ⊢
      by_cases hr : re = 0
      · subst hr
        rw [if_pos rfl] at hall
        have hrel : AllRel w b l (k + 1) w5 := ⟨rt, hz2, ht5, hall, hB5⟩
        have Hrel := Lib.hid hrel
        clear hrel
        clear hall hz2 ht5 hB5 HB1
        go_wp2
        go_roundw
        case rel => exact ⟨k + 1, by omega, by go_num, Hrel.out⟩
        case measure => simp [intOf]; omega
      · have e2 : (re == 0) = false := by simpa using hr
        have e3 : (re != 0) = true := by simpa using hr
        rw [if_neg hr] at hall
        have hfin : ans = (k, re) := by rw [Hans.out]; exact hall
        have Hfin := Lib.hid hfin
        clear hfin
        have HB5 := Lib.hid hB5
        clear hB5
        clear hall hz2 ht5 HB1 hr
        go_wp2
        go_ret2
        exact ⟨by rw [Hfin.out]; rfl, HB5.out⟩
    · obtain rfl : k = len := by omega
      have e1 : decide (k < k) = false := by simp
      have hfin : ans = (k, 0) := by
        rw [Hans.out, hall, List.drop_of_length_le (by rw [H.out.1]; exact Nat.le_refl _)]
        rfl
      have HF := Lib.hid hfin
      have HB := Lib.hid hB
      clear hB
      clear hfin hall hz ht hrow
      go_wp2
      go_ret2
      exact ⟨by rw [HF.out]; rfl, HB.out⟩
def actsL : List AAct := [⟨0, 1, ⟨#[]⟩⟩, ⟨1, 2, ⟨#[]⟩⟩, ⟨0, 3, ⟨#[97, 98]⟩⟩, ⟨1, 4, ⟨#[97]⟩⟩, ⟨1, 4, ⟨#[98]⟩⟩, ⟨0, 5, ⟨#[]⟩⟩, ⟨1, 6, ⟨#[]⟩⟩]
def actCells (l : List AAct) : Array Value := (l.flatMap fun x => [.int .i64 x.e, .int .u8 (x.d : Int), .string x.s]).toArray
theorem arow_of {w : World} {g : Nat} {T : TypeId} {l : List AAct} (h : Blk w g T (actCells l)) : ARow w (some ⟨g, 0, none⟩) l.length l := by
  have key : ∀ (l : List AAct) (k j : Nat), k < l.length → j < 3 → (l.flatMap fun x => [Value.int .i64 x.e, .int .u8 (x.d : Int), .string x.s])[k * 3 + j]? = [Value.int .i64 (l.getD k aNil).e, .int .u8 ((l.getD k aNil).d : Int), .string (l.getD k aNil).s][j]? := by
    intro l
    induction l with
    | nil => intro k j hk; simp at hk
    | cons x l ih =>
      intro k j hk hj
      cases k with
      | zero =>
        rw [List.flatMap_cons, List.getElem?_append_left (by simp; omega)]
        simp
      | succ k =>
        rw [List.flatMap_cons, List.getElem?_append_right (by simp; omega)]
        have := ih k j (by simpa using hk) hj
        simp only [List.length_cons, List.length_nil]
        rw [show (k + 1) * 3 + j - (0 + 1 + 1 + 1) = k * 3 + j by omega, this]
        simp
  refine ⟨rfl, fun k hk => ⟨g, 0, rfl, h.lt, ?_, ?_, ?_⟩⟩
  · rw [Nat.zero_add, h.cell]; have := key l k 0 hk (by omega); simpa [actCells] using this
  · rw [Nat.zero_add, h.cell]; have := key l k 1 hk (by omega); simpa [actCells] using this
  · rw [Nat.zero_add, h.cell]; have := key l k 2 hk (by omega); simpa [actCells] using this
theorem acts_at (w : World) : Calls Try.prog 29 #[] w fun e w' => ∃ g, e = .returned (.slice (some ⟨g, 0, none⟩) 7 7) ∧ w.heap.size ≤ g ∧ Blk w' g 36 (actCells actsL) ∧ Below w.heap.size w w' := by
  go_enter Try.func29, Try.ntmps29
  go_wp2
  go_ret
  exact ⟨w.heap.size, rfl, Nat.le_refl _, Blk.new _ _ _, (Below.refl _ _).alloc (Nat.le_refl _) _⟩
end Go.Proofs.Ytcdbbdjabccjdaa
