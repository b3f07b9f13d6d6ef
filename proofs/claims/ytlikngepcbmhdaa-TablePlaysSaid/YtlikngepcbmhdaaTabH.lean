/- Layer 12 (table), of numbers: what each call answers, of a table that the call itself has made. -/
import Derived.Test.YtlikngepcbmhdaaTabK
set_option linter.unusedVariables false
set_option linter.unusedSimpArgs false
namespace Go.Proofs.Ytlikngepcbmhdaa
open Go.ChangeShapes Go.WideShapes Go.ChangeAt Go.RowKit Go.Maps

section
variable {w0 W : World} {t : Nat} {s : Tab}
theorem hnew_i (w : World) (most : Nat) (m : Int) (hm : (most : Int) = m) (h : most ≤ 1024) : Calls Try.prog 7 #[.int .i64 m] w fun e w' => ∃ t ba bb, e = .returned (.tuple #[.pointer (some ⟨t, 0, none⟩), .int .i64 0]) ∧ Has TI w w' t (newT most ba bb) := by
  subst hm
  refine (new_i w most h).mono ?_
  rintro e w' ⟨t, ba, bb, he, h1, h2, h3⟩
  exact ⟨t, ba, bb, he, h1, h2, h3⟩
theorem hput_i (p : Pr) (v : Int) (r : Int) (h : Has TI w0 W t s) (hp : p.wf) (hby : s.by_ p = 0) (hn : s.n < s.most) (hl : s.last < 1000000) (hr : (s.last : Int) + 1 = r) :
    Calls Try.prog 8 #[.pointer (some ⟨t, 0, none⟩), .agg #[.int .u32 p.a, .int .u16 p.b, .int .u32 p.c, .int .u16 p.d], .int .i64 v] W fun e W' => ∃ g, e = .returned (.tuple #[.int .u64 r, .int .i64 0]) ∧ Has TI w0 W' t (putT s g (.int .i64 v) p) := by
  subst hr
  refine (put_ok_i W t s p v h.tab hp hby hn hl).mono ?_
  rintro e w' ⟨he, g, h1, h2, h3⟩
  refine ⟨g, he, h.out h2 h3 fun b hb => ?_⟩
  rcases hb.put with h4 | h4
  · exact .inl h4
  · exact .inr (by omega)
theorem hthere_i (p : Pr) (v : Int) (h : Has TI w0 W t s) (hp : p.wf) (hby : s.by_ p ≠ 0) :
    Calls Try.prog 8 #[.pointer (some ⟨t, 0, none⟩), .agg #[.int .u32 p.a, .int .u16 p.b, .int .u32 p.c, .int .u16 p.d], .int .i64 v] W fun e W' => e = .returned (.tuple #[.int .u64 0, .int .i64 7]) ∧ Has TI w0 W' t s :=
  (put_there_i W t s p v h.tab hp hby).mono fun e w' ⟨he, hb⟩ => ⟨he, h.step hb⟩
theorem hfull_i (p : Pr) (v : Int) (h : Has TI w0 W t s) (hp : p.wf) (hby : s.by_ p = 0) (hn : s.most ≤ s.n) :
    Calls Try.prog 8 #[.pointer (some ⟨t, 0, none⟩), .agg #[.int .u32 p.a, .int .u16 p.b, .int .u32 p.c, .int .u16 p.d], .int .i64 v] W fun e W' => e = .returned (.tuple #[.int .u64 0, .int .i64 6]) ∧ Has TI w0 W' t s :=
  (put_full_i W t s p v h.tab hp hby hn).mono fun e w' ⟨he, hb⟩ => ⟨he, h.step hb⟩
theorem hbind_i (id : Nat) (idI : Int) (p : Pr) (en : Ent) (v : Int) (h : Has TI w0 W t s) (hp : p.wf) (hid : (id : Int) = idI) (he : s.E id = some en) (hnb : en.bound = false) (hev : en.v = .int .i64 v) (hby : s.by_ p = 0) (hm : s.m + 1 ≤ 2 * s.last) :
    Calls Try.prog 14 #[.pointer (some ⟨t, 0, none⟩), .int .u64 idI, .agg #[.int .u32 p.a, .int .u16 p.b, .int .u32 p.c, .int .u16 p.d]] W fun e W' => e = .returned (.int .i64 0) ∧ Has TI w0 W' t (bindT s id en p) := by
  subst hid
  refine (bind_ok_i W t id s p en v h.tab hp he hnb hev hby hm).mono ?_
  rintro e w' ⟨h1, h2, h3⟩
  exact ⟨h1, h.out h2 h3 fun b hb => .inl (hb.bind he)⟩
theorem hbthere_i (id : Nat) (idI : Int) (p : Pr) (en : Ent) (h : Has TI w0 W t s) (hp : p.wf) (hid : (id : Int) = idI) (he : s.E id = some en) (hnb : en.bound = false) (hby : s.by_ p ≠ 0) :
    Calls Try.prog 14 #[.pointer (some ⟨t, 0, none⟩), .int .u64 idI, .agg #[.int .u32 p.a, .int .u16 p.b, .int .u32 p.c, .int .u16 p.d]] W fun e W' => e = .returned (.int .i64 7) ∧ Has TI w0 W' t s := by
  subst hid
  exact (bind_there_i W t id s p en h.tab hp he hnb hby).mono fun e w' ⟨he, hb⟩ => ⟨he, h.step hb⟩
theorem hfind_no_i (p : Pr) (h : Has TI w0 W t s) (hp : p.wf) (hby : s.by_ p = 0) :
    Calls Try.prog 19 #[.pointer (some ⟨t, 0, none⟩), .agg #[.int .u32 p.a, .int .u16 p.b, .int .u32 p.c, .int .u16 p.d]] W fun e W' => e = .returned (.tuple #[.int .u64 0, .int .u8 0]) ∧ Has TI w0 W' t s :=
  (find_no_i W t s p h.tab hp hby).mono fun e w' ⟨he, hb⟩ => ⟨he, h.step hb⟩
theorem hfind_i (p : Pr) (en : Ent) (id : Nat) (idI side : Int) (h : Has TI w0 W t s) (hp : p.wf) (hid : id = s.by_ p) (hidI : (id : Int) = idI) (hby : id ≠ 0) (he : s.E id = some en) (hs : (if en.near = p then 1 else 2) = side) :
    Calls Try.prog 19 #[.pointer (some ⟨t, 0, none⟩), .agg #[.int .u32 p.a, .int .u16 p.b, .int .u32 p.c, .int .u16 p.d]] W fun e W' => e = .returned (.tuple #[.int .u64 idI, .int .u8 side]) ∧ Has TI w0 W' t s := by
  subst hidI hs
  exact (find_i W t s p en id h.tab hp hid hby he).mono fun e w' ⟨he, hb⟩ => ⟨he, h.step hb⟩
theorem hget_i (id : Nat) (idI : Int) (en : Ent) (v : Int) (h : Has TI w0 W t s) (hid : (id : Int) = idI) (he : s.E id = some en) (hv : en.v = .int .i64 v) :
    Calls Try.prog 22 #[.pointer (some ⟨t, 0, none⟩), .int .u64 idI] W fun e W' => e = .returned (.tuple #[.int .i64 v, .bool true]) ∧ W = W' := by
  subst hid
  exact get_i W t s id en v h.tab (by have := (h.tab.ents id en he).2.1; have := h.tab.last_le; omega) he hv
/-- of a slice that was just laid -/
theorem hdrop_i (r : Nat) (l : List Nat) (len n : Int) (cs : Array Value) (h : Has TI w0 W t s) (hl : ∀ x ∈ l, x < 18446744073709551616) (hcs : cs = (l.map fun (x : Nat) => Value.int .u64 (x : Int)).toArray) (hr : Blk W r 26 cs) (hlen : l.length ≤ 1000) (N : Nat) (hN : N = l.length) (hn : (dropN s l : Int) = n) :
    Calls Try.prog 10 #[.pointer (some ⟨t, 0, none⟩), .slice (some ⟨r, 0, none⟩) N N] W fun e W' => e = .returned (.int .i64 n) ∧ Has TI w0 W' t (dropAll s l) := by
  subst hN hn
  refine (drop_i W t r s l cs h.tab hl hcs hr hlen).mono ?_
  rintro e w' ⟨h1, h2, h3⟩
  exact ⟨h1, h.out h2 h3 fun b hb => .inl hb.dropAll⟩
end
end Go.Proofs.Ytlikngepcbmhdaa
