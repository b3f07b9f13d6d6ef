/- Contracts of layer 15 (buf), first part: the ring in memory; New, Room, To, From, slot, Put. -/
import Derived.Test.YtbfmgdcnpefciaaWords
import Derived.Test.YtbfmgdcnpefciaaBufPlain
import Derived.Laws.CopyRow
import Derived.Lib.MinMax
import Derived.StillTailTactics
set_option linter.unusedVariables false
set_option linter.unusedSimpArgs false
namespace Go.Proofs.Ytbfmgdcnpefciaa
open Go.RowKit

def u8v (b : UInt8) : Value := .int .u8 (b.toNat : Int)
/-- nothing but the blocks b and r has turned -/
def Kept2 (b r : Nat) (w w' : World) : Prop := Below 0 w w' ∧ ∀ i, i < w.heap.size → i ≠ b → i ≠ r → w'.heap[i]? = w.heap[i]?
section
variable {b r : Nat} {w w' w'' : World}
theorem Kept2.refl : Kept2 b r w w := ⟨Below.refl _ _, fun _ _ _ _ => rfl⟩
theorem Kept2.trans (h : Kept2 b r w w') (k : Kept2 b r w' w'') : Kept2 b r w w'' :=
  ⟨h.1.trans k.1, fun i hi hb hr => (k.2 i (Nat.lt_of_lt_of_le hi h.1.size) hb hr).trans (h.2 i hi hb hr)⟩
theorem Kept2.of_below (h : Below w.heap.size w w') : Kept2 b r w w' := ⟨h.mono (Nat.zero_le _), fun i hi _ _ => h.block i hi⟩
theorem Kept2.of_grown {g : Nat} (h : w.grownBy w' (some g)) (hg : g = b ∨ g = r) : Kept2 b r w w' :=
  ⟨⟨h.os, h.tape, h.output, h.size, fun i hi => absurd hi (Nat.not_lt_zero i)⟩, fun i hi hb hr => h.block i hi (by intro e; cases e; rcases hg with rfl | rfl <;> contradiction)⟩
theorem Kept2.below {B : Nat} (h : Kept2 b r w w') (hb : B ≤ b) (hr : B ≤ r) (hB : B ≤ w.heap.size) : Below B w w' :=
  ⟨h.1.os, h.1.tape, h.1.output, h.1.size, fun i hi => h.2 i (by omega) (by omega) (by omega)⟩
theorem Kept2.blk {g : Nat} {t : TypeId} {cs : Array Value} (h : Kept2 b r w w') (hk : Blk w g t cs) (hb : g ≠ b) (hr : g ≠ r) : Blk w' g t cs := (h.2 g hk.lt hb hr).trans hk
theorem Kept2.drewN (h : Kept2 b r w w') (n : Nat) : Kept2 b r w (w'.drewN n) := ⟨below_drewN h.1 n, h.2⟩
end

/-- a buffer in memory: from f on the bytes l, in a ring R -/
def BufAt (w : World) (b r f : Nat) (R l : List UInt8) : Prop :=
  Blk w b 63 #[.slice (some ⟨r, 0, none⟩) R.length R.length, .int .u64 (f : Int), .int .i64 (l.length : Int)] ∧ Blk w r 5 (R.map u8v).toArray ∧ Holds R f l ∧ R.length ≤ 65536
section
variable {w w' : World} {b r f : Nat} {R l : List UInt8}
theorem BufAt.ne (h : BufAt w b r f R l) : b ≠ r := Blk.ne_ h.1 h.2.1 (by decide)
theorem BufAt.drewN (h : BufAt w b r f R l) (n : Nat) : BufAt (w.drewN n) b r f R l := h
theorem BufAt.drew (h : BufAt w b r f R l) : BufAt w.drew b r f R l := h
theorem BufAt.le (h : BufAt w b r f R l) : l.length ≤ R.length := h.2.2.1.1
theorem BufAt.c0 (h : BufAt w b r f R l) : w.cell? ⟨b, 0, none⟩ = some (.slice (some ⟨r, 0, none⟩) R.length R.length) := by have := h.1.cell 0; simpa using this
theorem BufAt.c1 (h : BufAt w b r f R l) : w.cell? ⟨b, 1, none⟩ = some (.int .u64 (f : Int)) := by have := h.1.cell 1; simpa using this
theorem BufAt.c2 (h : BufAt w b r f R l) : w.cell? ⟨b, 2, none⟩ = some (.int .i64 (l.length : Int)) := by have := h.1.cell 2; simpa using this
end

theorem infoU8 : (Try.prog.info? 5).map (·.size) = some 1 := by kernel_rfl
/-- 'copy(dst, s)' from a string, dst in a row of bytes that is known whole -/
theorem run_copy_str (w : World) (dT sT ty : TypeId) (hu : Try.prog.underlying dT = some (.slice 5)) (g off dLen dCap : Nat) (s : ByteArray) (cur : List UInt8) (m : Nat) (hm : m = min s.size dLen)
    (hg : Blk w g 5 (cur.map u8v).toArray) (hfit : off + m ≤ cur.length) :
    ∃ w', (Builtin.copy_ #[dT, sT] ty #[.slice (some ⟨g, off, none⟩) dLen dCap, .string s]).run Try.prog w = .ok (.int .i64 (m : Int)) w' ∧
      Blk w' g 5 ((cur.take off ++ (s.data.toList.take m ++ cur.drop (off + m))).map u8v).toArray ∧ w.grownBy w' (some g) := by
  have hll : s.data.toList.length = s.size := rfl
  have hlen : ((s.data.toList.take m).map u8v).length = m := by rw [List.length_map, List.length_take]; omega
  have hst := run_storeCells_at Try.prog g off 5 ((s.data.toList.take m).map u8v) 0 (cur.map u8v).toArray w hg (by rw [hlen]; simp; omega) (by
    intro v hv
    obtain ⟨x, _, rfl⟩ := List.mem_map.1 hv
    rfl)
  rw [hlen] at hst
  simp only [Nat.add_zero] at hst
  have htk : List.take (Nat.min s.size dLen) (List.map (fun b : UInt8 => Value.int IntKind.u8 (b.toNat : Int)) s.data.toList) = (s.data.toList.take m).map u8v := by
    rw [List.map_take, show Nat.min s.size dLen = m from hm.symm]
    rfl
  have hz := infoU8
  have he : (List.take off (List.map u8v cur) ++ List.map u8v (List.take m s.data.toList) ++ List.drop (off + m) (List.map u8v cur)) = (cur.take off ++ (s.data.toList.take m ++ cur.drop (off + m))).map u8v := by
    simp only [List.map_append, List.map_take, List.map_drop, List.append_assoc]
  rw [he] at hst
  cases hq : Try.prog.info? 5 with
  | none => simp [hq] at hz
  | some i =>
    refine ⟨w.setRow g ((cur.take off ++ (s.data.toList.take m ++ cur.drop (off + m))).map u8v).toArray, ?_, ?_, ?_⟩
    · simp [Builtin.copy_, run_underlying hu, Builtin.lenOf, Builtin.firstCells, sizeOf, typeInfo, hq]
      rw [htk, hst]
      simp [Result.andThen, goInt, hm]
    · exact setRow_heap w g _ _ _ _ hg
    · exact ⟨rfl, rfl, rfl, by simp [World.setRow], fun k hk hne => setRow_other w g k _ (by intro e; exact hne (by rw [e]))⟩

theorem wpList_copy_str {ops : Array Oper} {rest : List Oper} {o : Oper} {a : Act} {w : World} {Q : Exit → Act → World → Prop} (hgd : o.guard = none) (d x : Operand) (dT sT : TypeId)
    (ho : o.op = .call { callee := .builtin .copy, args := #[d, x], argTypes := #[dT, sT] }) (hu : Try.prog.underlying dT = some (.slice 5))
    (g off dLen dCap : Nat) (s : ByteArray) (cur : List UInt8) (m : Nat) (hd : a.eval d = .slice (some ⟨g, off, none⟩) dLen dCap) (hx : a.eval x = .string s) (hm : m = min s.size dLen)
    (hg : Blk w g 5 (cur.map u8v).toArray) (hfit : off + m ≤ cur.length)
    (h : ∀ w', Blk w' g 5 ((cur.take off ++ (s.data.toList.take m ++ cur.drop (off + m))).map u8v).toArray → w.grownBy w' (some g) → wpList Try.prog ops Q rest (a.put o.dst (.int .i64 (m : Int))) w') :
    wpList Try.prog ops Q (o :: rest) a w := by
  refine wpList_plain hgd fun K hK => ?_
  obtain ⟨w', hrun, h1, h2⟩ := run_copy_str w dT sT o.type hu g off dLen dCap s cur m hm hg hfit
  unfold Oper.wp
  simp [execOp, ho, resolve, invoke, builtin, hd, hx, hrun, Result.andThen]
  exact hK _ _ (h w' h1 h2)

theorem room_at (w : World) (b r f : Nat) (R l : List UInt8) (h : BufAt w b r f R l) :
    Calls Try.prog 22 #[.pointer (some ⟨b, 0, none⟩)] w fun e w' => e = .returned (.int .i64 ((R.length - l.length : Nat) : Int)) ∧ ∃ n, w' = w.drewN n := by
  have c0 := h.c0
  have c2 := h.c2
  have hl := h.le
  have h4 := h.2.2.2
  go_enter Try.func22, Try.ntmps22
  go_wp2
  go_quiet (fail)
  go_wp2
  go_ret
  exact ⟨ret_int (by omega), _, rfl⟩
theorem to_at (w : World) (b r f : Nat) (R l : List UInt8) (h : BufAt w b r f R l) (hf : f + l.length < 18446744073709551616) :
    Calls Try.prog 21 #[.pointer (some ⟨b, 0, none⟩)] w fun e w' => e = .returned (.int .u64 ((f + l.length : Nat) : Int)) ∧ ∃ n, w' = w.drewN n := by
  have c1 := h.c1
  have c2 := h.c2
  have hl := h.le
  have h4 := h.2.2.2
  go_enter Try.func21, Try.ntmps21
  go_wp2
  go_quiet (fail)
  go_wp2
  go_ret
  exact ⟨ret_int (by omega), _, rfl⟩
theorem from_at (w : World) (b r f : Nat) (R l : List UInt8) (h : BufAt w b r f R l) :
    Calls Try.prog 20 #[.pointer (some ⟨b, 0, none⟩)] w fun e w' => e = .returned (.int .u64 (f : Int)) ∧ w = w' := by
  have c1 := h.c1
  go_enter Try.func20, Try.ntmps20
  go_wp2
  go_ret
  exact ⟨rfl, rfl⟩
theorem slot_at (w : World) (b r f : Nat) (R l : List UInt8) (h : BufAt w b r f R l) (at_ : Nat) (ha : at_ < 18446744073709551616) (h0 : 0 < R.length) :
    Calls Try.prog 28 #[.pointer (some ⟨b, 0, none⟩), .int .u64 (at_ : Int)] w fun e w' => e = .returned (.int .i64 ((at_ % R.length : Nat) : Int)) ∧ w = w' := by
  have c0 := h.c0
  have h4 := h.2.2.2
  have hmod := Nat.mod_lt at_ h0
  go_enter Try.func28, Try.ntmps28
  go_wp2
  go_ret
  exact ⟨ret_int (by rfl), rfl⟩
end Go.Proofs.Ytbfmgdcnpefciaa
