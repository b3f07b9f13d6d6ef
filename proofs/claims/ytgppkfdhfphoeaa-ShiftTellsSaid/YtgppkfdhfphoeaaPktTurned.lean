/- Contracts of layer 8 (pkt): scale, Turned. -/
import Derived.Test.YtgppkfdhfphoeaaFlat
import Derived.Lib.MinMax
import Derived.Deep.DeepCutAuto
import Derived.BigRegion
import Derived.LoopTactic
set_option linter.unusedVariables false
set_option linter.unusedSimpArgs false
namespace Go.Proofs.Ytgppkfdhfphoeaa
open Go.RowKit Go.BigFrame

/-- the blocks of a segment's options, in memory -/
def blkCells (p : Int × Int) : List Value := [.int .u32 p.1, .int .u32 p.2]
def BRow (w : World) (A : Option Addr) (l : List (Int × Int)) : Prop :=
  l = [] ∨ ∃ rb off, A = some ⟨rb, off, none⟩ ∧ rb < w.heap.size ∧ ∀ j p, l[j]? = some p → w.cell? ⟨rb, off + j * 2, none⟩ = some (.int .u32 p.1) ∧ w.cell? ⟨rb, off + j * 2 + 1, none⟩ = some (.int .u32 p.2)
theorem BRow.below {w w' : World} {A : Option Addr} {l : List (Int × Int)} (h : BRow w A l) (hb : Below w.heap.size w w') : BRow w' A l := by
  rcases h with rfl | ⟨rb, off, rfl, h1, h2⟩
  · exact .inl rfl
  · exact .inr ⟨rb, off, rfl, Nat.lt_of_lt_of_le h1 hb.size, fun j p hj => ⟨(hb.cell (p := ⟨rb, off + j * 2, none⟩) h1).trans (h2 j p hj).1, (hb.cell (p := ⟨rb, off + j * 2 + 1, none⟩) h1).trans (h2 j p hj).2⟩⟩
/-- a block, turned by a -/
def turnB (a : Int) (p : Int × Int) : Int × Int := ((p.1 + a) % 4294967296, (p.2 + a) % 4294967296)
/-- a new row of its own, with the blocks l -/
def OwnB (w : World) (v : Value) (l : List (Int × Int)) (w' : World) : Prop := w'.ownsRow w.heap.size 48 2 v l.length (l.flatMap blkCells)
theorem infoB : (Try.prog.info? 48).map (fun i => (i.zero, i.size, i.bytes)) = some (some (.agg #[.int .u32 0, .int .u32 0]), 2, 8) := by kernel_rfl
theorem reads_two {w : World} {g : Nat} {t : TypeId} {a b : Value} {B : Nat} (h : Blk w g t #[a, b]) (hB : g < B) : Reads w B 2 (some ⟨g, 0, none⟩) 1 [a, b] := by
  refine ⟨rfl, fun _ => ⟨_, rfl, hB, fun j u hj => ?_⟩⟩
  have : (⟨g, 0, none⟩ : Addr).add j = ⟨g, j, none⟩ := by unfold Addr.add; split <;> simp_all
  rw [this, h.cell j, ← hj]
  simp
theorem blk_newB (w : World) (o : Obj) (t : TypeId) (cs : Array Value) : Blk ((w.alloc o).alloc (.cells cs t)) (w.heap.size + 1) t cs := by
  have := Blk.new (w.alloc o) t cs
  rwa [World.size_alloc] at this
/-- the three structs that Turned works with, and the row of blocks -/
def TriS (w : World) (gs gx gr : Nat) (cs xs zs : Array Value) (v : Value) (k : Nat) (rows : List Value) (W : World) : Prop :=
  Blk W gs 39 cs ∧ Blk W gx 27 xs ∧ Blk W gr 39 zs ∧ W.ownsRow w.heap.size 48 2 v k rows ∧ Below w.heap.size w W
theorem TriS.below {w : World} {gs gx gr : Nat} {cs xs zs : Array Value} {v : Value} {k : Nat} {rows : List Value} (W W' : World) (h : TriS w gs gx gr cs xs zs v k rows W) (hb : Below W.heap.size W W') : TriS w gs gx gr cs xs zs v k rows W' :=
  ⟨h.1.below hb h.1.lt, h.2.1.below hb h.2.1.lt, h.2.2.1.below hb h.2.2.1.lt, h.2.2.2.1.kept (only_of_below hb none) (Classical.em _), h.2.2.2.2.trans (hb.mono h.2.2.2.2.size)⟩
def scN (x : Int) : Nat := (min (max x 0) 14).toNat
theorem scN_le (x : Int) : scN x ≤ 14 := by unfold scN; omega
theorem scale_any (x : Int) (w : World) : Calls Try.prog 26 #[.int .i64 x] w fun e w' => e = .returned (.int .i64 ((scN x : Nat) : Int)) ∧ w = w' := by
  have h : min (max x 0) 14 = ((scN x : Nat) : Int) := by unfold scN; omega
  have H := Lib.hid h
  clear h
  go_enter Try.func26, Try.ntmps26
  go_wp2
  go_ret
  exact ⟨ret_int H.out, rfl⟩
/-- a window, turned -/
def winT (w up down : Int) : Int := min (w * 2 ^ scN up / 2 ^ scN down) 65535
theorem win_eq (s up down : Int) (u v : Nat) (hu : u = scN up) (hv : v = scN down) (h0 : 0 ≤ s) (h1 : s < 65536) : IntKind.u16.wrap (min (IntKind.u64.wrap (s * 2 ^ u) / 2 ^ v) 65535) = winT s up down := by
  have hu14 : u ≤ 14 := by rw [hu]; exact scN_le up
  have hp : (0 : Int) < 2 ^ u := Int.pow_pos (by decide)
  have hq : (0 : Int) < 2 ^ v := Int.pow_pos (by decide)
  have hp2 : (2 : Int) ^ u ≤ 16384 := by
    have : u = 0 ∨ u = 1 ∨ u = 2 ∨ u = 3 ∨ u = 4 ∨ u = 5 ∨ u = 6 ∨ u = 7 ∨ u = 8 ∨ u = 9 ∨ u = 10 ∨ u = 11 ∨ u = 12 ∨ u = 13 ∨ u = 14 := by omega
    rcases this with rfl | rfl | rfl | rfl | rfl | rfl | rfl | rfl | rfl | rfl | rfl | rfl | rfl | rfl | rfl <;> decide
  have hm0 : 0 ≤ s * 2 ^ u := Int.mul_nonneg h0 (by omega)
  have hm1 : s * 2 ^ u ≤ 65535 * 16384 := Int.mul_le_mul (by omega) hp2 (by omega) (by omega)
  have hd0 : 0 ≤ s * 2 ^ u / 2 ^ v := Int.ediv_nonneg hm0 (by omega)
  unfold winT
  rw [← hu, ← hv]
  have e1 : IntKind.u64.wrap (s * 2 ^ u) = s * 2 ^ u := by rw [IntKind.wrap_u64]; omega
  rw [e1, IntKind.wrap_u16]
  omega
/-- what Turned answers: a segment's cells, but for its blocks -/
def turnedC (s4 s5 s6 s7 s8 s9 : Int) (s10 s12 : Bool) (s13 s14 : Int) (s15 : ByteArray) (x0 x1 x2 x3 x4 x5 x6 x7 x8 x9 : Int) (V : Value) : Array Value :=
  #[.int .u32 x0, .int .u16 x1, .int .u32 x2, .int .u16 x3, .int .u32 ((s4 + x4) % 4294967296), .int .u32 (if (bits .and .u8 s6 16 != 0) = true then (s5 + x5) % 4294967296 else s5), .int .u8 s6, .int .u16 (winT s7 x8 x9), .int .u16 s8, .int .i64 s9, .bool s10, V, .bool s12,
    .int .u32 (if s12 = true then (s13 + x6) % 4294967296 else s13), .int .u32 (if s12 = true then (s14 + x7) % 4294967296 else s14), .string s15]
def TurnedPost (w : World) (mk : Value → Array Value) (l : List (Int × Int)) (e : Ending) (w' : World) : Prop :=
  ∃ A c, (l = [] → A = none ∧ c = 0) ∧ e = .returned (.agg (mk (.slice A l.length c))) ∧ OwnB w (.slice A l.length c) l w' ∧ Below w.heap.size w w'
end Go.Proofs.Ytgppkfdhfphoeaa
