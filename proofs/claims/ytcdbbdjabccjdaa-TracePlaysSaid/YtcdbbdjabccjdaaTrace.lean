/- Layer 31 (trace): a trace in memory; the small functions, and the closures that tell what may happen. -/
import Derived.Test.YtcdbbdjabccjdaaFlow
import Derived.StillTailTactics
import Derived.Deep.DeepCutAuto
import Derived.Laws.EntriesVeiled
import Derived.Lib.SlicesS
set_option linter.unusedVariables false
set_option linter.unusedSimpArgs false
namespace Go.Proofs.Ytcdbbdjabccjdaa
open Go.RowKit Go.BigFrame

/-- what has happened at an end -/
structure Sd where
  opn : Bool
  wr : ByteArray
  rd : Nat
  cl : Bool
  eof : Bool
  dd : Bool
structure Tr where
  s0 : Sd
  s1 : Sd
  cause : Bool
def trC (t : Tr) : Array Value := #[.bool t.s0.opn, .string t.s0.wr, .int .i64 (t.s0.rd : Int), .bool t.s0.cl, .bool t.s0.eof, .bool t.s0.dd, .bool t.s1.opn, .string t.s1.wr, .int .i64 (t.s1.rd : Int), .bool t.s1.cl, .bool t.s1.eof, .bool t.s1.dd, .bool t.cause, .bool true]
def TrAt (w : World) (b : Nat) (t : Tr) : Prop := Blk w b 70 (trC t)
theorem TrAt.set {w : World} {b : Nat} {t : Tr} (h : TrAt w b t) (i : Nat) (v : Value) (t' : Tr) (he : (trC t).setIfInBounds i v = trC t') : TrAt (w.setCell ⟨b, i, none⟩ v) b t' := by
  have := Blk.set_ h i v
  rw [he] at this
  exact this
def Tr.own (t : Tr) (e : Nat) : Sd := match e with | 0 => t.s0 | _ => t.s1
def Tr.oth (t : Tr) (e : Nat) : Sd := match e with | 0 => t.s1 | _ => t.s0
def Tr.put (t : Tr) (e : Nat) (s : Sd) : Tr := match e with | 0 => { t with s0 := s } | _ => { t with s1 := s }
def Sd.live (s : Sd) : Bool := s.opn && !s.dd

theorem once_yes (w : World) (b i : Nat) (h : w.cell? ⟨b, i, none⟩ = some (.bool false)) (hf : w.frozen? ⟨b, i, none⟩ = false) :
    Calls Try.prog 39 #[.pointer (some ⟨b, i, none⟩), .bool true] w fun e w' => e = .returned (.bool true) ∧ w.setCell ⟨b, i, none⟩ (.bool true) = w' := by
  go_enter Try.func39, Try.ntmps39
  go_wp2
  go_ret
  exact ⟨rfl, rfl⟩
theorem once_no (w : World) (b i : Nat) (m v : Bool) (h : w.cell? ⟨b, i, none⟩ = some (.bool v)) (hm : (m && !v) = false) :
    Calls Try.prog 39 #[.pointer (some ⟨b, i, none⟩), .bool m] w fun e w' => e = .returned (.bool false) ∧ w = w' := by
  cases m <;> cases v <;> simp at hm
  all_goals
    go_enter Try.func39, Try.ntmps39
    go_wp2
    go_ret
    exact ⟨rfl, rfl⟩
theorem live_at (w : World) (b i : Nat) (o d : Bool) (h : w.cell? ⟨b, i, none⟩ = some (.bool o)) (h5 : w.cell? ⟨b, i + 5, none⟩ = some (.bool d)) :
    Calls Try.prog 33 #[.pointer (some ⟨b, i, none⟩)] w fun e w' => e = .returned (.bool (o && !d)) ∧ w = w' := by
  cases o <;> cases d
  all_goals
    go_enter Try.func33, Try.ntmps33
    go_wp2
    go_ret
    exact ⟨rfl, rfl⟩
theorem none_at (w : World) (b : Nat) (h : w.cell? ⟨b, 13, none⟩ = some (.bool true)) :
    Calls Try.prog 30 #[.pointer (some ⟨b, 0, none⟩)] w fun e w' => e = .returned (.bool false) ∧ w = w' := by
  go_enter Try.func30, Try.ntmps30
  go_wp2
  go_ret
  exact ⟨rfl, rfl⟩
theorem none_nil (w : World) :
    Calls Try.prog 30 #[.pointer none] w fun e w' => e = .returned (.bool true) ∧ w = w' := by
  go_enter Try.func30, Try.ntmps30
  go_wp2
  go_ret
  exact ⟨rfl, rfl⟩
theorem both_0 (w : World) (b : Nat) :
    Calls Try.prog 32 #[.pointer (some ⟨b, 0, none⟩), .int .i64 0] w fun e w' => e = .returned (.tuple #[.pointer (some ⟨b, 0, none⟩), .pointer (some ⟨b, 6, none⟩)]) ∧ ∃ n, w' = w.drewN n := by
  go_enter Try.func32, Try.ntmps32
  go_wp2
  go_quiet (fail)
  go_wp2
  go_ret2
  exact ⟨rfl, _, rfl⟩
theorem both_1 (w : World) (b : Nat) :
    Calls Try.prog 32 #[.pointer (some ⟨b, 0, none⟩), .int .i64 1] w fun e w' => e = .returned (.tuple #[.pointer (some ⟨b, 6, none⟩), .pointer (some ⟨b, 0, none⟩)]) ∧ ∃ n, w' = w.drewN n := by
  go_enter Try.func32, Try.ntmps32
  go_wp2
  go_quiet (fail)
  go_wp2
  go_ret2
  exact ⟨rfl, _, rfl⟩
theorem has_prefix (w : World) (s p : ByteArray) (hs : s.size ≤ 9223372036854775807) (hp : p.size ≤ 9223372036854775807) :
    Calls Try.prog 51 #[.string s, .string p] w fun e w' => e = .returned (.bool (decide (p.size ≤ s.size ∧ s.extract 0 p.size = p))) ∧ w = w' := by
  by_cases h : p.size ≤ s.size
  · go_enter Try.func51, Try.ntmps51
    go_wp2
    go_ret
    refine ⟨ret_bool ?_, rfl⟩
    by_cases hq : s.extract 0 p.size = p
    · rw [hq, decide_eq_true ⟨h, rfl⟩]; simp
    · rw [decide_eq_false (fun h => hq h.2), Lib.bytes_beq_false_iff]; exact hq
  · go_enter Try.func51, Try.ntmps51
    go_wp2
    go_ret
    exact ⟨by simp [h], rfl⟩
theorem has_prefix2 (w : World) (s p : ByteArray) (hs : s.size ≤ 9223372036854775807) (hp : p.size ≤ 9223372036854775807) :
    Calls Try.prog 44 #[.string s, .string p] w fun e w' => e = .returned (.bool (decide (p.size ≤ s.size ∧ s.extract 0 p.size = p))) ∧ w = w' := by
  have h := has_prefix w s p hs hp
  generalize decide (p.size ≤ s.size ∧ s.extract 0 p.size = p) = r at *
  have H := Lib.hid h
  clear h
  go_enter Try.func44, Try.ntmps44
  go_wp2_with fail
  (with_reducible refine (H.out).mono ?_)
  rintro e w' ⟨rfl, rfl⟩
  go_wp2
  go_ret
  exact ⟨rfl, rfl⟩
/-- do the bytes of x from r on begin with s? -/
def prefixB (x : ByteArray) (r : Nat) (s : ByteArray) : Bool := decide (s.size ≤ (x.extract r x.size).size ∧ (x.extract r x.size).extract 0 s.size = s)
/-- what a rule does: it tells whether it lets it, and what there is then -/
def Lets (w : World) (b : Nat) (r : Bool) (t : Tr) (e : Ending) (w' : World) : Prop := e = .returned (.bool r) ∧ TrAt w' b t ∧ w.grownBy w' (some b)
end Go.Proofs.Ytcdbbdjabccjdaa
