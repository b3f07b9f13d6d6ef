/- Contracts and plain lemmas: OptRaw, OptMay, PktMay, OptPlain, OptLong, OptEach, OptDec, OptEnc. -/
import Derived.Deep.DeepCutAuto
import Derived.Lib.MinMax
import Derived.Laws.BitsAllLaws
import Derived.Laws.BitsLemmas
import Derived.Carry
import Derived.Maps.Own
import Derived.RangeFuncRecord
import Derived.RangeFuncNested
import Derived.RangeFuncBound
import Derived.RangeFuncCalls
import Derived.RangeFuncLeaves
import Derived.RangeFuncBox
import Derived.Shelf.Abstract
import Derived.Shelf.RegionOpen
import Derived.OwnWalkIn
import Derived.TacticsInMore
import Derived.LoopNIn
import Derived.LoopIn
import Derived.Sort.CutIn
import Derived.Test.YtengegcnocdkoaaRe4
import Derived.Test.YtengegcnocdkoaaRe1
set_option linter.unusedVariables false
set_option linter.unusedSimpArgs false
set_option linter.unusedSectionVars false
section
namespace Go.Proofs.Ytengegcnocdkoaa
open Go.RowKit Go.BigFrame
/-- the blocks of options, in memory -/
def BlR (w : World) (A : Option Addr) (l : List (Int × Int)) : Prop :=
  l = [] ∨ ∃ rb off, A = some ⟨rb, off, none⟩ ∧ rb < w.heap.size ∧ ∀ j p, l[j]? = some p → w.cell? ⟨rb, off + j * 2, none⟩ = some (.int .u32 p.1) ∧ w.cell? ⟨rb, off + j * 2 + 1, none⟩ = some (.int .u32 p.2)
theorem BlR.below {w w' : World} {A : Option Addr} {l : List (Int × Int)} (h : BlR w A l) (hb : Below w.heap.size w w') : BlR w' A l := by
  rcases h with rfl | ⟨rb, off, rfl, h1, h2⟩
  · exact .inl rfl
  · exact .inr ⟨rb, off, rfl, Nat.lt_of_lt_of_le h1 hb.size, fun j p hj => ⟨(hb.cell (p := ⟨rb, off + j * 2, none⟩) h1).trans (h2 j p hj).1, (hb.cell (p := ⟨rb, off + j * 2 + 1, none⟩) h1).trans (h2 j p hj).2⟩⟩
/-- options -/
structure Op where
  mss : Nat
  scale : Int
  sack : Bool
  bl : List (Int × Int)
  time : Bool
  val : Nat
  echo : Nat
structure Op.ok (o : Op) : Prop where
  mss : o.mss < 65536
  scale : -1 ≤ o.scale ∧ o.scale ≤ 14
  val : o.val < 4294967296
  echo : o.echo < 4294967296
  bl : ∀ p ∈ o.bl, (0 ≤ p.1 ∧ p.1 ≤ 4294967295) ∧ 0 ≤ p.2 ∧ p.2 ≤ 4294967295
def mssL (o : Op) : List UInt8 := if o.mss = 0 then [] else [2, 4] ++ be2 o.mss
def scaleL (o : Op) : List UInt8 := if o.scale < 0 then [] else [1, 3, 3, UInt8.ofNat o.scale.toNat]
def sackL (o : Op) : List UInt8 := if o.sack then [1, 1, 4, 2] else []
def timeL (o : Op) : List UInt8 := if o.time then [1, 1, 8, 10] ++ (be4 o.val ++ be4 o.echo) else []
def bheadL (n : Nat) : List UInt8 := if n = 0 then [] else [1, 1, 5, UInt8.ofNat (2 + 8 * n)]
def blksL (l : List (Int × Int)) : List UInt8 := l.flatMap fun p => be4 p.1.toNat ++ be4 p.2.toNat
def rawL (o : Op) : List UInt8 := mssL o ++ scaleL o ++ sackL o ++ timeL o ++ bheadL o.bl.length ++ blksL o.bl
def optN (o : Op) (A : Option Addr) (n c : Nat) : Array Value := #[.int .u16 (o.mss : Int), .int .i64 o.scale, .bool o.sack, .slice A n c, .bool o.time, .int .u32 (o.val : Int), .int .u32 (o.echo : Int)]
def optC (o : Op) (A : Option Addr) (c : Nat) : Array Value := #[.int .u16 (o.mss : Int), .int .i64 o.scale, .bool o.sack, .slice A o.bl.length c, .bool o.time, .int .u32 (o.val : Int), .int .u32 (o.echo : Int)]
theorem cat_str (a b : List UInt8) : (⟨a.toArray⟩ : ByteArray) ++ ⟨b.toArray⟩ = ⟨(a ++ b).toArray⟩ := by
  apply ByteArray.ext
  rw [ByteArray.data_append]
  simp
theorem new_str {W : World} {u : Value} (l : List UInt8) (cs : Array Value) (n : Nat) (hn : n = l.length) (hc : cs = (l.map u8v).toArray) (h : newRow 5 cs n [u] W) : (convert 51 9 u).run Try.prog W = .ok (.string ⟨l.toArray⟩) W := by
  obtain ⟨g, e, hk⟩ := h
  have e := (List.cons.inj e).1
  subst e hn hc
  refine run_bytes_back W ⟨g, 0, none⟩ _ _ l rfl ?_
  intro j hj
  rw [add_plain, Nat.zero_add, hk.cell j]
  simp [List.getElem?_eq_getElem hj, u8v]
/-- the class of worlds in which options lie -/
def OptS (W1 : World) (g : Nat) (cs : Array Value) (W : World) : Prop := Below W1.heap.size W1 W ∧ Blk W g 28 cs
theorem OptS.below {W1 : World} {g : Nat} {cs : Array Value} (w w' : World) (h : OptS W1 g cs w) (hb : Below w.heap.size w w') : OptS W1 g cs w' := ⟨h.1.trans (hb.mono h.1.size), h.2.below hb h.2.lt⟩
theorem OptS.drew {W1 : World} {g : Nat} {cs : Array Value} {w : World} (h : OptS W1 g cs w) : OptS W1 g cs w.drew := ⟨h.1.drew, h.2.drew⟩
theorem flow_str2 (a b : List UInt8) : (⟨#[]⟩ : ByteArray) ++ (⟨a.toArray⟩ ++ ⟨b.toArray⟩) = ⟨(a ++ b).toArray⟩ := by
  rw [show (⟨#[]⟩ : ByteArray) = ⟨([] : List UInt8).toArray⟩ from rfl, cat_str, cat_str, List.nil_append]
theorem conv_new (W : World) (l : List UInt8) (n : Nat) (cs : Array Value) (hn : n = l.length) (hc : cs = (l.map u8v).toArray) : (convert 51 9 (.slice (some ⟨W.heap.size, 0, none⟩) n n)).run Try.prog (W.alloc (.cells cs 5)) = .ok (.string ⟨l.toArray⟩) (W.alloc (.cells cs 5)) :=
  new_str l cs n hn hc ⟨_, rfl, Blk.new _ _ _⟩
theorem high32_new {S : World → Prop} (hS : ∀ w w', S w → Below w.heap.size w w' → S w') (xs : List Nat) (n : Nat) (N : Nat) (cs : Array Value) (hx : ∀ x ∈ xs, x < 4294967296) (hcs : cs = (xs.map fun (x : Nat) => Value.int .u32 (x : Int)).toArray) (hlen : xs.length ≤ 1000) (hp : xs ≠ []) (hN : N = xs.length) (x : Cls S) (u : Value) (h : newRow 22 cs N [u] x.w) :
    Calls Try.prog 86 #[.int .i64 4, u] x.w fun e w'' => e = .returned (.string ⟨(xs.flatMap be4).toArray⟩) ∧ S w'' ∧ Below x.w.heap.size x.w w'' := by
  obtain ⟨g', e, hk⟩ := h
  injection e with e
  subst e hN
  refine (ohigh32 x.w g' xs cs hx hcs hk hlen hp).mono ?_
  rintro e w'' ⟨rfl, hb⟩
  exact ⟨rfl, hS _ _ x.h hb, hb⟩
def RawRel (W1 : World) (g : Nat) (o : Op) (A : Option Addr) (n c : Nat) (L : List UInt8) (k : Nat) (s : Value) (wr : World) : Prop := k ≤ n ∧ s = .string ⟨(L ++ blksL (o.bl.take k)).toArray⟩ ∧ OptS W1 g (optN o A n c) wr
theorem blkB_ (w : World) (o : Obj) (t : TypeId) (cs : Array Value) : Blk ((w.alloc o).alloc (.cells cs t)) (w.heap.size + 1) t cs := by
  have := Blk.new (w.alloc o) t cs
  rwa [World.size_alloc] at this
theorem blks_len : ∀ l : List (Int × Int), (blksL l).length = 8 * l.length
  | [] => rfl
  | p :: r => by
    have h1 : blksL (p :: r) = (be4 p.1.toNat ++ be4 p.2.toNat) ++ blksL r := rfl
    rw [h1, List.length_append, blks_len r, List.length_cons]
    simp [be4]
    omega
set_option maxRecDepth 100000 in
set_option maxHeartbeats 4000000 in
theorem raw_any (w : World) (o : Op) (A : Option Addr) (c : Nat) (ho : o.ok) (hr : BlR w A o.bl) (hn : o.bl.length ≤ 4) :
    Calls Try.prog 58 #[.agg (optC o A c)] w fun e w' => e = .returned (.string ⟨(rawL o).toArray⟩) ∧ Below w.heap.size w w' := by
  obtain ⟨n, hne⟩ : ∃ n, n = o.bl.length := ⟨_, rfl⟩
  unfold optC
  rw [← hne]
  have i1 : (n : Int) ≤ 4 := by omega
  have i2 : (0 : Int) ≤ (n : Int) := by omega
  have hb0 : Below w.heap.size w (w.alloc (.cells (optN o A n c) 28)) := (Below.refl _ _).alloc (Nat.le_refl _) _
  have hS0 : OptS (w.alloc (.cells (optN o A n c) 28)) w.heap.size (optN o A n c) (w.alloc (.cells (optN o A n c) 28)) := ⟨Below.refl _ _, Blk.new _ _ _⟩
  have hR0 := hr.below hb0
  unfold optN at hS0 hb0 hR0
  have HO := Lib.hid ho
  have HN := Lib.hid hne
  clear ho hr hne hn
  go_enter Try.func58, Try.ntmps58
  go_upto_region 1 with fail
  obtain ⟨g, hg⟩ : ∃ g, g = w.heap.size := ⟨_, rfl⟩
  generalize hW1 : w.alloc _ = W1 at *
  rw [← hg] at hS0 ⊢
  clear hg hW1
  have hS0 : OptS W1 g (optN o A n c) W1 := hS0
  have HB := Lib.hid hb0
  have HS := Lib.hid hS0
  have HR := Lib.hid hR0
  have c0 := hS0.2.cell 0
  simp [optN] at c0
  clear hb0 hS0 hR0
  obtain ⟨m, hm⟩ : ∃ m : Int, m = (o.mss : Int) := ⟨_, rfl⟩
  obtain ⟨sc, hsc⟩ : ∃ sc : Int, sc = o.scale := ⟨_, rfl⟩
  obtain ⟨sk, hsk⟩ : ∃ sk, sk = o.sack := ⟨_, rfl⟩
  obtain ⟨tm, htm⟩ : ∃ tm, tm = o.time := ⟨_, rfl⟩
  obtain ⟨vl, hvl⟩ : ∃ vl : Int, vl = (o.val : Int) := ⟨_, rfl⟩
  obtain ⟨ec, hec⟩ : ∃ ec : Int, ec = (o.echo : Int) := ⟨_, rfl⟩
  have i3 : sc ≤ 14 := by rw [hsc]; exact HO.out.scale.2
  rw [← hm, ← hsc, ← hsk, ← htm, ← hvl, ← hec]
  rw [← hm] at c0
  have Hm := Lib.hid hm
  clear hm
  have Hsc := Lib.hid hsc
  clear hsc
  have Hsk := Lib.hid hsk
  clear hsk
  have Htm := Lib.hid htm
  clear htm
  have Hvl := Lib.hid hvl
  clear hvl
  have Hec := Lib.hid hec
  clear hec
  go_upto_if 7 with fail
  go_cut [2] from 8 to 16 (fun s wx => s = .string ⟨(mssL o).toArray⟩ ∧ OptS W1 g (optN o A n c) wx)
  case first =>
    by_cases h : m = 0
    · have h1 : (m != 0) = false := by simp [h]
      have hm0 : mssL o = [] := by unfold mssL; rw [if_pos (by have := Hm.out; omega)]
      have Hm0 := Lib.hid hm0
      clear h hm0
      go_wp2_with fail
      go_meet
      case rel => exact ⟨by rw [Hm0.out], HS.out⟩
    · have h1 : (m != 0) = true := by simp [h]
      have hm0 : mssL o = [2, 4] ++ be2 o.mss := by unfold mssL; rw [if_neg (by have := Hm.out; omega)]
      have ne : Nonempty (Cls (OptS W1 g (optN o A n c))) := ⟨⟨W1, HS.out⟩⟩
      have k0 : ∀ y : Cls (OptS W1 g (optN o A n c)), y.w.cell? ⟨g, 0, none⟩ = some (.int .u16 m) := fun y => by rw [y.h.2.cell 0, Hm.out]; rfl
      have cf : ∀ (vals : Array Value) (w : World), (callFunc 91 vals).run Try.prog w = .ok (.enter 91 vals) w := fun _ _ => by kernel_rfl
      have r1 : ∀ W : World, (Instr.buildSlice 51 2 #[(0, .int .u8 2), (1, .int .u8 4)]).run Try.prog W = .ok (.slice (some ⟨W.heap.size, 0, none⟩) 2 2) (W.alloc (.cells #[.int .u8 2, .int .u8 4] 5)) := fun _ => by kernel_rfl
      have r2 : ∀ W : World, (Instr.buildSlice 120 1 #[(0, .int .u16 m)]).run Try.prog W = .ok (.slice (some ⟨W.heap.size, 0, none⟩) 1 1) (W.alloc (.cells #[.int .u16 m] 23)) := fun _ => by kernel_rfl
      have q1 : ∀ u W, newRow 5 #[.int .u8 2, .int .u8 4] 2 [u] W → (convert 51 9 u).run Try.prog W = .ok (.string ⟨#[2, 4]⟩) W := fun u W h => new_str [2, 4] _ 2 rfl rfl h
      have hcl : ∀ (x : Cls (OptS W1 g (optN o A n c))) (u : Value), newRow 23 #[.int .u16 m] 1 [u] x.w → Calls Try.prog 91 #[.int .i64 2, u] x.w fun e w'' => e = .returned (.string ⟨(be2 o.mss).toArray⟩) ∧ OptS W1 g (optN o A n c) w'' ∧ Below x.w.heap.size x.w w'' := by
        rintro x u ⟨g', e, hk⟩
        injection e with e
        subst e
        refine (ohigh16 x.w g' [o.mss] _ (by intro y hy; simp at hy; subst hy; exact HO.out.mss) (by rw [Hm.out]; rfl) hk (by simp) (by simp)).mono ?_
        rintro e w'' ⟨rfl, hb⟩
        exact ⟨by simp, OptS.below _ _ x.h hb, hb⟩
      have z2 : (be2 o.mss).length = 2 := rfl
      have Cf := Lib.hid cf
      clear cf
      have R1 := Lib.hid r1
      clear r1
      have R2 := Lib.hid r2
      clear r2
      have Q1 := Lib.hid q1
      clear q1
      have Hcl := Lib.hid hcl
      clear hcl
      have Hm0 := Lib.hid hm0
      clear hm0
      clear h
      go_upto_region 2 with fail
      refine wp_region_flow 10 (OptS W1 g (optN o A n c)) (fun w w' => Below w.heap.size w w') (by kernel_rfl) (by kernel_rfl) (by kernel_rfl) (fun w => Below.refl _ _) HS.out.drew ?_
      simp only [List.take_succ_cons, List.take_zero, List.drop_succ_cons, List.drop_zero]
      refine flow_quiet (fun w => Below.refl _ _) rfl rfl rfl rfl ?_; intro K hK; go_big_quiet_op; go_big_quiet_on
      refine flow_build (E := 5) _ ?_ _ R1.out OptS.below rfl rfl rfl W1 ?_
      focus (simp only [List.map_toArray, List.map_cons, List.map_nil]; rfl)
      intro K hK; go_big_quiet_op; go_big_quiet_on
      refine flow_conv (.string ⟨#[2, 4]⟩) 0 rfl rfl rfl (by simp) (fun w => Below.refl _ _) Q1.out rfl rfl W1 ?_
      intro K hK; go_big_quiet_op; go_big_quiet_on
      refine flow_quiet (fun w => Below.refl _ _) rfl rfl rfl rfl ?_; intro K hK; go_big_quiet_op; go_big_quiet_on
      refine flow_quiet (fun w => Below.refl _ _) rfl rfl rfl rfl ?_; intro K hK; go_big_quiet_op; go_big_quiet_on
      refine flow_build (E := 23) _ ?_ _ R2.out OptS.below rfl rfl rfl W1 ?_
      focus (simp only [List.map_toArray, List.map_cons, List.map_nil]; rfl)
      intro K hK; go_big_quiet_op; go_big_quiet_on
      refine flow_callY Cf.out (.string ⟨(be2 o.mss).toArray⟩) (fun u => #[.int .i64 2, u]) 0 rfl rfl (fun f' => rfl) Hcl.out rfl rfl W1 ?_
      intro K hK; go_big_quiet_op; go_big_quiet_on
      repeat (refine flow_quiet (fun w => Below.refl _ _) rfl rfl rfl rfl ?_; intro K hK; go_big_quiet_op; go_big_quiet_on)
      refine flow_nil ?_
      intro W f hW hF
      clear hF
      simp only [fillW, Act.put, List.setIfInBounds_toArray, List.set_cons_succ, List.set_cons_zero]
      go_wp2_with fail
      go_meet
      case rel => exact ⟨by rw [Hm0.out, show (⟨#[2, 4]⟩ : ByteArray) = ⟨[2, 4].toArray⟩ from rfl, flow_str2], hW⟩
  case rest =>
    obtain ⟨rfl, hS⟩ := hcut
    obtain ⟨L1, hL1⟩ : ∃ L1, L1 = mssL o := ⟨_, rfl⟩
    have hz1 : L1.length ≤ 4 := by rw [hL1]; unfold mssL; split <;> simp [be2]
    rw [← hL1]
    have c1 := hS.2.cell 1
    simp [optN] at c1
    rw [← Hsc.out] at c1
    have HL1 := Lib.hid hL1
    have HS := Lib.hid hS
    clear hL1 hS c0
    go_upto_if 19 with fail
    go_cut [2] from 20 to 26 (fun s wx => s = .string ⟨(L1 ++ scaleL o).toArray⟩ ∧ OptS W1 g (optN o A n c) wx)
    case first =>
      by_cases h : 0 ≤ sc
      · have hcv := conv_new wc [1, 3, 3, UInt8.ofNat sc.toNat] 4 #[.int .u8 1, .int .u8 3, .int .u8 3, .int .u8 sc] rfl (by simp [u8v]; omega)
        have hs0 : scaleL o = [1, 3, 3, UInt8.ofNat sc.toNat] := by unfold scaleL; rw [if_neg (by have := Hsc.out; omega), Hsc.out]
        have hW := OptS.below _ _ HS.out ((Below.refl wc.heap.size wc).alloc (Nat.le_refl _) (.cells #[.int .u8 1, .int .u8 3, .int .u8 3, .int .u8 sc] 5))
        have Hs0 := Lib.hid hs0
        clear hs0
        have HW := Lib.hid hW
        clear hW
        go_wp2_with fail
        go_meet
        case rel => exact ⟨by rw [Hs0.out]; exact congrArg Value.string (cat_str _ _), HW.out⟩
      · have hs0 : scaleL o = [] := by unfold scaleL; rw [if_pos (by have := Hsc.out; omega)]
        have Hs0 := Lib.hid hs0
        clear hs0
        go_wp2_with fail
        go_meet
        case rel => exact ⟨by rw [Hs0.out, List.append_nil], HS.out⟩
    case rest =>
      clear HS c1
      obtain ⟨rfl, hS⟩ := hcut
      obtain ⟨L2, hL2⟩ : ∃ L2, L2 = L1 ++ scaleL o := ⟨_, rfl⟩
      have hz2 : L2.length ≤ 8 := by
        have h1 : (scaleL o).length ≤ 4 := by unfold scaleL; split <;> simp
        rw [hL2, List.length_append]
        omega
      rw [← hL2]
      have c2 := hS.2.cell 2
      simp [optN] at c2
      rw [← Hsk.out] at c2
      have HL2 := Lib.hid hL2
      have HS := Lib.hid hS
      clear hL2 hS hz1
      go_upto_if 28 with fail
      go_cut [2] from 29 to 32 (fun s wx => s = .string ⟨(L2 ++ sackL o).toArray⟩ ∧ OptS W1 g (optN o A n c) wx)
      case first =>
        cases sk with
        | true =>
          have hcv := conv_new wc [1, 1, 4, 2] 4 #[.int .u8 1, .int .u8 1, .int .u8 4, .int .u8 2] rfl rfl
          have hs0 : sackL o = [1, 1, 4, 2] := by unfold sackL; rw [← Hsk.out]; rfl
          have hW := OptS.below _ _ HS.out ((Below.refl wc.heap.size wc).alloc (Nat.le_refl _) (.cells #[.int .u8 1, .int .u8 1, .int .u8 4, .int .u8 2] 5))
          have Hs0 := Lib.hid hs0
          clear hs0
          have HW := Lib.hid hW
          clear hW
          go_wp2_with fail
          go_meet
          case rel => exact ⟨by rw [Hs0.out]; exact congrArg Value.string (cat_str _ _), HW.out⟩
        | false =>
          have hs0 : sackL o = [] := by unfold sackL; rw [← Hsk.out]; rfl
          have Hs0 := Lib.hid hs0
          clear hs0
          go_wp2_with fail
          go_meet
          case rel => exact ⟨by rw [Hs0.out, List.append_nil], HS.out⟩
      case rest =>
        clear HS c2
        obtain ⟨rfl, hS⟩ := hcut
        obtain ⟨L3, hL3⟩ : ∃ L3, L3 = L2 ++ sackL o := ⟨_, rfl⟩
        have hz3 : L3.length ≤ 12 := by
          have h1 : (sackL o).length ≤ 4 := by unfold sackL; split <;> simp
          rw [hL3, List.length_append]
          omega
        rw [← hL3]
        have c4 := hS.2.cell 4
        simp [optN] at c4
        rw [← Htm.out] at c4
        have HL3 := Lib.hid hL3
        have HS := Lib.hid hS
        clear hL3 hS hz2
        go_upto_if 34 with fail
        go_cut [2] from 35 to 45 (fun s wx => s = .string ⟨(L3 ++ timeL o).toArray⟩ ∧ OptS W1 g (optN o A n c) wx)
        case first =>
          cases tm with
          | true =>
            have hs0 : timeL o = [1, 1, 8, 10] ++ ([o.val, o.echo].flatMap be4) := by unfold timeL; rw [← Htm.out]; rfl
            have ne : Nonempty (Cls (OptS W1 g (optN o A n c))) := ⟨⟨wc, HS.out⟩⟩
            have k5 : ∀ y : Cls (OptS W1 g (optN o A n c)), y.w.cell? ⟨g, 5, none⟩ = some (.int .u32 vl) := fun y => by rw [y.h.2.cell 5, Hvl.out]; rfl
            have k6 : ∀ y : Cls (OptS W1 g (optN o A n c)), y.w.cell? ⟨g, 6, none⟩ = some (.int .u32 ec) := fun y => by rw [y.h.2.cell 6, Hec.out]; rfl
            have cf : ∀ (vals : Array Value) (w : World), (callFunc 86 vals).run Try.prog w = .ok (.enter 86 vals) w := fun _ _ => by kernel_rfl
            have r1 : ∀ W : World, (Instr.buildSlice 51 4 #[(0, .int .u8 1), (1, .int .u8 1), (2, .int .u8 8), (3, .int .u8 10)]).run Try.prog W = .ok (.slice (some ⟨W.heap.size, 0, none⟩) 4 4) (W.alloc (.cells #[.int .u8 1, .int .u8 1, .int .u8 8, .int .u8 10] 5)) := fun _ => by kernel_rfl
            have r2 : ∀ W : World, (Instr.buildSlice 125 2 #[(0, .int .u32 vl), (1, .int .u32 ec)]).run Try.prog W = .ok (.slice (some ⟨W.heap.size, 0, none⟩) 2 2) (W.alloc (.cells #[.int .u32 vl, .int .u32 ec] 22)) := fun _ => by kernel_rfl
            have q1 : ∀ u W, newRow 5 #[.int .u8 1, .int .u8 1, .int .u8 8, .int .u8 10] 4 [u] W → (convert 51 9 u).run Try.prog W = .ok (.string ⟨#[1, 1, 8, 10]⟩) W := fun u W h => new_str [1, 1, 8, 10] _ 4 rfl rfl h
            have hcl := high32_new (S := OptS W1 g (optN o A n c)) OptS.below [o.val, o.echo] 2 2 #[.int .u32 vl, .int .u32 ec] (by intro y hy; simp at hy; rcases hy with rfl | rfl; exact HO.out.val; exact HO.out.echo) (by rw [Hvl.out, Hec.out]; rfl) (by simp) (by simp) rfl
            obtain ⟨b8, hb8⟩ : ∃ b8, b8 = [o.val, o.echo].flatMap be4 := ⟨_, rfl⟩
            rw [← hb8] at hcl hs0
            have zb8 : b8.length = 8 := by rw [hb8]; rfl
            clear hb8
            have Cf := Lib.hid cf
            clear cf
            have R1 := Lib.hid r1
            clear r1
            have R2 := Lib.hid r2
            clear r2
            have Q1 := Lib.hid q1
            clear q1
            have Hcl := Lib.hid hcl
            clear hcl
            have Hs0 := Lib.hid hs0
            clear hs0
            go_upto_region 8 with fail
            refine wp_region_flow 12 (OptS W1 g (optN o A n c)) (fun w w' => Below w.heap.size w w') (by kernel_rfl) (by kernel_rfl) (by kernel_rfl) (fun w => Below.refl _ _) HS.out.drew ?_
            simp only [List.take_succ_cons, List.take_zero, List.drop_succ_cons, List.drop_zero]
            refine flow_quiet (fun w => Below.refl _ _) rfl rfl rfl rfl ?_; intro K hK; go_big_quiet_op; go_big_quiet_on
            refine flow_build (E := 5) _ ?_ _ R1.out OptS.below rfl rfl rfl W1 ?_
            focus (simp only [List.map_toArray, List.map_cons, List.map_nil]; rfl)
            intro K hK; go_big_quiet_op; go_big_quiet_on
            refine flow_conv (.string ⟨#[1, 1, 8, 10]⟩) 0 rfl rfl rfl (by simp) (fun w => Below.refl _ _) Q1.out rfl rfl W1 ?_
            intro K hK; go_big_quiet_op; go_big_quiet_on
            iterate 4 (refine flow_quiet (fun w => Below.refl _ _) rfl rfl rfl rfl ?_; intro K hK; go_big_quiet_op; go_big_quiet_on)
            refine flow_build (E := 22) _ ?_ _ R2.out OptS.below rfl rfl rfl W1 ?_
            focus (simp only [List.map_toArray, List.map_cons, List.map_nil]; rfl)
            intro K hK; go_big_quiet_op; go_big_quiet_on
            refine flow_callY Cf.out (.string ⟨b8.toArray⟩) (fun u => #[.int .i64 4, u]) 0 rfl rfl (fun f' => rfl) Hcl.out rfl rfl W1 ?_
            intro K hK; go_big_quiet_op; go_big_quiet_on
            repeat (refine flow_quiet (fun w => Below.refl _ _) rfl rfl rfl rfl ?_; intro K hK; go_big_quiet_op; go_big_quiet_on)
            refine flow_nil ?_
            intro W f hW hF
            clear hF
            simp only [fillW, Act.put, List.setIfInBounds_toArray, List.set_cons_succ, List.set_cons_zero]
            go_wp2_with fail
            go_meet
            case rel => exact ⟨by rw [Hs0.out, show (⟨#[1, 1, 8, 10]⟩ : ByteArray) = ⟨[1, 1, 8, 10].toArray⟩ from rfl, cat_str, cat_str], hW⟩
          | false =>
            have hs0 : timeL o = [] := by unfold timeL; rw [← Htm.out]; rfl
            have Hs0 := Lib.hid hs0
            clear hs0
            go_wp2_with fail
            go_meet
            case rel => exact ⟨by rw [Hs0.out, List.append_nil], HS.out⟩
        case rest =>
          clear HS c4
          obtain ⟨rfl, hS⟩ := hcut
          obtain ⟨L4, hL4⟩ : ∃ L4, L4 = L3 ++ timeL o := ⟨_, rfl⟩
          have hz4 : L4.length ≤ 24 := by
            have h1 : (timeL o).length ≤ 12 := by unfold timeL; split <;> simp [be4]
            rw [hL4, List.length_append]
            omega
          rw [← hL4]
          have c3 := hS.2.cell 3
          simp [optN] at c3
          have HL4 := Lib.hid hL4
          have HS := Lib.hid hS
          clear hL4 hS hz3
          go_upto_if 49 with fail
          go_cut [2] from 50 to 59 (fun s wx => s = .string ⟨(L4 ++ bheadL n).toArray⟩ ∧ OptS W1 g (optN o A n c) wx)
          case first =>
            by_cases h : 0 < n
            · have i5 : (0 : Int) < (n : Int) := by omega
              have hcv := conv_new wc [1, 1, 5, UInt8.ofNat (2 + 8 * n)] 4 #[.int .u8 1, .int .u8 1, .int .u8 5, .int .u8 (2 + 8 * (n : Int))] rfl (by simp [u8v]; omega)
              have hs0 : bheadL n = [1, 1, 5, UInt8.ofNat (2 + 8 * n)] := by unfold bheadL; rw [if_neg (by omega)]
              obtain ⟨bn, hbn⟩ : ∃ bn, bn = UInt8.ofNat (2 + 8 * n) := ⟨_, rfl⟩
              rw [← hbn] at hcv hs0
              clear hbn
              have hW := OptS.below _ _ HS.out ((Below.refl wc.heap.size wc).alloc (Nat.le_refl _) (.cells #[.int .u8 1, .int .u8 1, .int .u8 5, .int .u8 (2 + 8 * (n : Int))] 5))
              have Hs0 := Lib.hid hs0
              clear hs0
              have HW := Lib.hid hW
              clear hW
              clear h
              go_wp2_with fail
              go_meet
              case rel => exact ⟨by rw [Hs0.out]; exact congrArg Value.string (cat_str _ _), HW.out⟩
            · have i5 : (n : Int) = 0 := by omega
              have hs0 : bheadL n = [] := by unfold bheadL; rw [if_pos (by omega)]
              have i6 : decide ((0 : Int) < (n : Int)) = false := by simp; omega
              have i7 : decide (0 < n) = false := by simpa using h
              have Hs0 := Lib.hid hs0
              clear hs0
              clear i5
              go_wp2_with fail
              go_meet
              case rel => exact ⟨by rw [Hs0.out, List.append_nil], HS.out⟩
          case rest =>
            clear HS c3
            obtain ⟨rfl, hS⟩ := hcut
            obtain ⟨L5, hL5⟩ : ∃ L5, L5 = L4 ++ bheadL n := ⟨_, rfl⟩
            have hz5 : L5.length ≤ 28 := by
              have h1 : (bheadL n).length ≤ 4 := by unfold bheadL; split <;> simp
              rw [hL5, List.length_append]
              omega
            rw [← hL5]
            have hraw : rawL o = L5 ++ blksL o.bl := by
              rw [hL5, HL4.out, HL3.out, HL2.out, HL1.out, HN.out]
              rfl
            have hrel0 : RawRel W1 g o A n c L5 0 (.string ⟨L5.toArray⟩) wc := ⟨Nat.zero_le _, by simp [blksL], hS⟩
            have c3 := hS.2.cell 3
            simp [optN] at c3
            have Hraw := Lib.hid hraw
            clear hraw
            have Hrel0 := Lib.hid hrel0
            clear hrel0
            have HL5 := Lib.hid hL5
            clear hL5
            clear hS hz4
            go_wp2
            go_loopw [63, 2] (fun i s wr => ∃ k : Nat, i = .int .i64 (k : Int) ∧ RawRel W1 g o A n c L5 k s wr) (fun i _ _ => n - (intOf i).toNat)
            case atStart => exact ⟨0, rfl, Hrel0.out⟩
            case round =>
              clear Hrel0 c3
              obtain ⟨k, rfl, hk, rfl, hS⟩ := hrel
              by_cases hlt : k < n
              · have j1 : (k : Int) < (n : Int) := by omega
                have hkl : k < o.bl.length := by rw [← HN.out]; exact hlt
                obtain ⟨p, hp⟩ : ∃ p, o.bl[k]? = some p := ⟨o.bl[k], List.getElem?_eq_getElem hkl⟩
                have hpm : p ∈ o.bl := List.mem_of_getElem? hp
                obtain ⟨⟨b1, b2⟩, b3, b4⟩ := HO.out.bl p hpm
                have hA : ∃ rb off, A = some ⟨rb, off, none⟩ ∧ rb < wr.heap.size ∧ wr.cell? ⟨rb, off + k * 2, none⟩ = some (.int .u32 p.1) ∧ wr.cell? ⟨rb, off + k * 2 + 1, none⟩ = some (.int .u32 p.2) := by
                  rcases HR.out.below hS.1 with h | ⟨rb, off, h1, h2, h3⟩
                  · rw [h] at hkl; simp at hkl
                  · exact ⟨rb, off, h1, h2, h3 k p hp⟩
                obtain ⟨rb, off, hA, hrb, e0, e1⟩ := hA
                subst hA
                have htk : o.bl.take (k + 1) = o.bl.take k ++ [p] := by rw [List.take_add_one, hp]; rfl
                have hbl : blksL (o.bl.take (k + 1)) = blksL (o.bl.take k) ++ ([p.1.toNat, p.2.toNat].flatMap be4) := by
                  rw [htk]
                  unfold blksL
                  rw [List.flatMap_append]
                  simp
                have hlen : (blksL (o.bl.take k)).length ≤ 32 := by
                  rw [blks_len]
                  have := List.length_take_le k o.bl
                  omega
                have hcl : ∀ W g (hk : Blk W g 22 #[.int .u32 p.1, .int .u32 p.2]), Calls Try.prog 86 #[.int .i64 4, .slice (some ⟨g, 0, none⟩) 2 2] W fun e w' => e = .returned (.string ⟨([p.1.toNat, p.2.toNat].flatMap be4).toArray⟩) ∧ Below W.heap.size W w' := fun W g hk => ohigh32 W g [p.1.toNat, p.2.toNat] #[.int .u32 p.1, .int .u32 p.2] (by intro y hy; simp at hy; rcases hy with rfl | rfl <;> omega) (by simp; omega) hk (by simp) (by simp)
                obtain ⟨b8, hb8⟩ : ∃ b8, b8 = [p.1.toNat, p.2.toNat].flatMap be4 := ⟨_, rfl⟩
                rw [← hb8] at hcl hbl
                have zb8 : b8.length = 8 := by rw [hb8]; rfl
                obtain ⟨Lk, hLk⟩ : ∃ Lk, Lk = L5 ++ blksL (o.bl.take k) := ⟨_, rfl⟩
                have hzk : Lk.length ≤ 60 := by rw [hLk, List.length_append]; omega
                have hnext : ∀ W, OptS W1 g (optN o (some ⟨rb, off, none⟩) n c) W → RawRel W1 g o (some ⟨rb, off, none⟩) n c L5 (k + 1) (.string (⟨Lk.toArray⟩ ++ ⟨b8.toArray⟩)) W := fun W h => ⟨hlt, by rw [hbl, cat_str, hLk, List.append_assoc], h⟩
                rw [← hLk]
                obtain ⟨p1, p2⟩ := p
                simp only at e0 e1 hcl b1 b2 b3 b4
                have Hcl := Lib.hid hcl
                have Hnext := Lib.hid hnext
                have HS := Lib.hid hS
                clear hcl hnext hS hLk hbl htk hp hpm hb8 hlen hkl hlt hk
                go_wp2_with fail
                with_reducible refine (Hcl.out _ _ (blkB_ _ _ _ _)).mono ?_
                rintro e w9 ⟨rfl, hb9⟩
                have hst := OptS.below _ _ (OptS.below _ _ HS.out (((Below.refl wr.heap.size wr).alloc (Nat.le_refl _) (.cells #[.int .u32 p1, .int .u32 p2] 92)).alloc (by simp) (.cells #[.int .u32 p1, .int .u32 p2] 22))) hb9
                have Hr := Lib.hid (Hnext.out w9 hst)
                clear hst hb9
                go_wp2
                go_roundw
                case rel => exact ⟨k + 1, by go_num, Hr.out⟩
                case measure => simp [intOf]; omega
              · have hke : k = n := by omega
                have j1 : (n : Int) ≤ (k : Int) := by omega
                have hall : o.bl.take k = o.bl := List.take_of_length_le (by rw [← HN.out]; omega)
                rw [hall, ← Hraw.out]
                have hb := HB.out.trans (hS.1.mono HB.out.size)
                have HF := Lib.hid hb
                clear hall hb hS hke hlt hk
                go_wp2
                go_ret
                exact ⟨rfl, HF.out⟩
end Go.Proofs.Ytengegcnocdkoaa
end
section
namespace Go.Proofs.Ytengegcnocdkoaa
open Go.RowKit Go.BigFrame
structure Op.wf (o : Op) : Prop where
  mss : o.mss < 65536
  scale : (Lit.int .i64 o.scale).wf = true
  val : o.val < 4294967296
  echo : o.echo < 4294967296
  bl : ∀ p ∈ o.bl, (0 ≤ p.1 ∧ p.1 ≤ 4294967295) ∧ 0 ≤ p.2 ∧ p.2 ≤ 4294967295
theorem Op.wf.ok {o : Op} (h : o.wf) (h1 : -1 ≤ o.scale) (h2 : o.scale ≤ 14) : o.ok := ⟨h.mss, ⟨h1, h2⟩, h.val, h.echo, h.bl⟩
def mayB (o : Op) : Bool := decide (-1 ≤ o.scale) && (decide (o.scale ≤ 14) && (decide (o.bl.length ≤ 4) && ((o.time || (o.val == 0 && o.echo == 0)) && decide ((rawL o).length ≤ 40))))
set_option maxRecDepth 100000 in
set_option maxHeartbeats 4000000 in
theorem may_any (w : World) (o : Op) (A : Option Addr) (c : Nat) (ho : o.wf) (hr : BlR w A o.bl) (hn : o.bl.length ≤ 1000) :
    Calls Try.prog 34 #[.agg (optC o A c)] w fun e w' => e = .returned (.bool (mayB o)) ∧ Below w.heap.size w w' := by
  obtain ⟨n, hne⟩ : ∃ n, n = o.bl.length := ⟨_, rfl⟩
  unfold optC
  rw [← hne]
  have i1 : (n : Int) ≤ 1000 := by omega
  have i2 : (0 : Int) ≤ (n : Int) := by omega
  have hb0 : Below w.heap.size w (w.alloc (.cells (optN o A n c) 28)) := (Below.refl _ _).alloc (Nat.le_refl _) _
  have hS0 : Blk (w.alloc (.cells (optN o A n c) 28)) w.heap.size 28 (optN o A n c) := Blk.new _ _ _
  have hR0 := hr.below hb0
  have hcl : ∀ W, BlR W A o.bl → -1 ≤ o.scale → o.scale ≤ 14 → o.bl.length ≤ 4 → Calls Try.prog 58 #[.agg #[.int .u16 (o.mss : Int), .int .i64 o.scale, .bool o.sack, .slice A n c, .bool o.time, .int .u32 (o.val : Int), .int .u32 (o.echo : Int)]] W fun e w' => e = .returned (.string ⟨(rawL o).toArray⟩) ∧ Below W.heap.size W w' := by
    intro W h1 h2 h3 h4
    rw [hne]
    exact raw_any W o A c (ho.ok h2 h3) h1 h4
  have hmay : mayB o = (decide (-1 ≤ o.scale) && (decide (o.scale ≤ 14) && (decide (n ≤ 4) && ((o.time || (o.val == 0 && o.echo == 0)) && decide (((⟨(rawL o).toArray⟩ : ByteArray).size) ≤ 40))))) := by
    rw [hne]
    have : (⟨(rawL o).toArray⟩ : ByteArray).size = (rawL o).length := rfl
    rw [this]
    rfl
  generalize (⟨(rawL o).toArray⟩ : ByteArray) = q at *
  rw [hmay]
  unfold optN at hS0 hb0 hR0
  have hv0 : (o.val == 0) = ((o.val : Int) == 0) := by rw [Bool.eq_iff_iff]; simp
  have he0 : (o.echo == 0) = ((o.echo : Int) == 0) := by rw [Bool.eq_iff_iff]; simp
  rw [hv0, he0]
  rw [hne.symm] at hcl
  clear hmay hv0 he0 hne ho hr hn
  generalize (o.mss : Int) = m at *
  generalize (o.val : Int) = vl at *
  generalize (o.echo : Int) = ec at *
  generalize o.scale = sc at *
  generalize o.sack = sk at *
  generalize o.time = tm at *
  have Hcl := Lib.hid hcl
  clear hcl
  go_enter Try.func34, Try.ntmps34
  go_upto_region 1 with fail
  obtain ⟨g, hg⟩ : ∃ g, g = w.heap.size := ⟨_, rfl⟩
  generalize hW1 : w.alloc _ = W1 at *
  rw [← hg] at hS0 ⊢
  clear hg hW1
  have HB := Lib.hid hb0
  have HR := Lib.hid hR0
  have c0 := hS0.cell 0
  have c1 := hS0.cell 1
  have c2 := hS0.cell 2
  have c3 := hS0.cell 3
  have c4 := hS0.cell 4
  have c5 := hS0.cell 5
  have c6 := hS0.cell 6
  simp at c0 c1 c2 c3 c4 c5 c6
  clear hb0 hR0 hS0
  by_cases q1 : -1 ≤ sc
  · by_cases q2 : sc ≤ 14
    · by_cases q3 : n ≤ 4
      · have j3 : (n : Int) ≤ 4 := by omega
        cases tm with
        | true =>
          go_wp2_with fail
          with_reducible refine (Hcl.out _ HR.out q1 q2 q3).mono ?_
          rintro e w9 ⟨rfl, hb9⟩
          have hF := HB.out.trans (hb9.mono HB.out.size)
          have HF := Lib.hid hF
          clear hF hb9
          go_wp2
          go_ret
          exact ⟨ret_bool (by simp [q1, q2, q3] <;> omega), HF.out⟩
        | false =>
          by_cases q4 : vl = 0
          · by_cases q5 : ec = 0
            · subst q4 q5
              go_wp2_with fail
              with_reducible refine (Hcl.out _ HR.out q1 q2 q3).mono ?_
              rintro e w9 ⟨rfl, hb9⟩
              have hF := HB.out.trans (hb9.mono HB.out.size)
              have HF := Lib.hid hF
              clear hF hb9
              go_wp2
              go_ret
              exact ⟨ret_bool (by simp [q1, q2, q3] <;> omega), HF.out⟩
            · have j5 : (ec == 0) = false := by simpa using q5
              subst q4
              go_wp2
              go_ret
              exact ⟨ret_bool (by simp [q5] <;> omega), HB.out⟩
          · have j4 : (vl == 0) = false := by simpa using q4
            go_wp2
            go_ret
            exact ⟨ret_bool (by simp [q4] <;> omega), HB.out⟩
      · have j3 : (4 : Int) < (n : Int) := by omega
        go_wp2
        go_ret
        exact ⟨ret_bool (by simp [q3] <;> omega), HB.out⟩
    · have j2 : 14 < sc := by omega
      go_wp2
      go_ret
      exact ⟨ret_bool (by simp [q2] <;> omega), HB.out⟩
  · have j1 : sc < -1 := by omega
    go_wp2
    go_ret
    exact ⟨ret_bool (by simp [q1] <;> omega), HB.out⟩
end Go.Proofs.Ytengegcnocdkoaa
end
section
namespace Go.Proofs.Ytengegcnocdkoaa
open Go.RowKit Go.BigFrame
/-- how many bits a number below 8 has -/
def ones3 (k : Nat) : Nat := k % 2 + k / 2 % 2 + k / 4 % 2
set_option maxRecDepth 100000 in
theorem ones_k0 (w : World) : Calls Try.prog 39 #[.int .u8 0] w fun e w' => e = .returned (.int .i64 0) ∧ w = w' := by
  go_enter Try.func39, Try.ntmps39
  go_wp2
  go_ret
  exact ⟨by kernel_rfl, rfl⟩
set_option maxRecDepth 100000 in
theorem ones_k1 (w : World) : Calls Try.prog 39 #[.int .u8 1] w fun e w' => e = .returned (.int .i64 1) ∧ w = w' := by
  go_enter Try.func39, Try.ntmps39
  go_wp2
  go_ret
  exact ⟨by kernel_rfl, rfl⟩
set_option maxRecDepth 100000 in
theorem ones_k2 (w : World) : Calls Try.prog 39 #[.int .u8 2] w fun e w' => e = .returned (.int .i64 1) ∧ w = w' := by
  go_enter Try.func39, Try.ntmps39
  go_wp2
  go_ret
  exact ⟨by kernel_rfl, rfl⟩
set_option maxRecDepth 100000 in
theorem ones_k3 (w : World) : Calls Try.prog 39 #[.int .u8 3] w fun e w' => e = .returned (.int .i64 2) ∧ w = w' := by
  go_enter Try.func39, Try.ntmps39
  go_wp2
  go_ret
  exact ⟨by kernel_rfl, rfl⟩
set_option maxRecDepth 100000 in
theorem ones_k4 (w : World) : Calls Try.prog 39 #[.int .u8 4] w fun e w' => e = .returned (.int .i64 1) ∧ w = w' := by
  go_enter Try.func39, Try.ntmps39
  go_wp2
  go_ret
  exact ⟨by kernel_rfl, rfl⟩
set_option maxRecDepth 100000 in
theorem ones_k5 (w : World) : Calls Try.prog 39 #[.int .u8 5] w fun e w' => e = .returned (.int .i64 2) ∧ w = w' := by
  go_enter Try.func39, Try.ntmps39
  go_wp2
  go_ret
  exact ⟨by kernel_rfl, rfl⟩
set_option maxRecDepth 100000 in
theorem ones_k6 (w : World) : Calls Try.prog 39 #[.int .u8 6] w fun e w' => e = .returned (.int .i64 2) ∧ w = w' := by
  go_enter Try.func39, Try.ntmps39
  go_wp2
  go_ret
  exact ⟨by kernel_rfl, rfl⟩
set_option maxRecDepth 100000 in
theorem ones_k7 (w : World) : Calls Try.prog 39 #[.int .u8 7] w fun e w' => e = .returned (.int .i64 3) ∧ w = w' := by
  go_enter Try.func39, Try.ntmps39
  go_wp2
  go_ret
  exact ⟨by kernel_rfl, rfl⟩
theorem bits_any (k : Nat) (hk : k < 8) (w : World) : Calls Try.prog 39 #[.int .u8 (k : Int)] w fun e w' => e = .returned (.int .i64 (ones3 k : Int)) ∧ w = w' := by
  match k, hk with
  | 0, _ => exact ones_k0 w
  | 1, _ => exact ones_k1 w
  | 2, _ => exact ones_k2 w
  | 3, _ => exact ones_k3 w
  | 4, _ => exact ones_k4 w
  | 5, _ => exact ones_k5 w
  | 6, _ => exact ones_k6 w
  | 7, _ => exact ones_k7 w
def flagsB (f : Nat) : Bool := decide (f < 32) && decide (ones3 (f % 8) ≤ 1)
theorem and224 : ∀ f, f < 256 → (f &&& 224 = 0 ↔ f < 32) := by decide +kernel
theorem andNot31 (f : Nat) (hf : f < 256) : ∃ a : Int, bits .andNot .u8 (f : Int) 31 = a ∧ (a = 0 ↔ f < 32) := by
  refine ⟨_, u8_andNot_nat f 31 hf (by decide), ?_⟩
  show ((f &&& 224 : Nat) : Int) = 0 ↔ _
  rw [← and224 f hf]
  exact ⟨fun h => Int.ofNat_eq_zero.1 h, fun h => by rw [h]; rfl⟩
set_option maxHeartbeats 1000000 in
theorem flags_any (f : Nat) (hf : f < 256) (w : World) : Calls Try.prog 33 #[.int .u8 (f : Int)] w fun e w' => e = .returned (.bool (flagsB f)) ∧ w = w' := by
  obtain ⟨a, h1, h2⟩ := andNot31 f hf
  have h7 : bits .and .u8 (f : Int) 7 = ((f % 8 : Nat) : Int) := by
    have := u8_and_nat f 7 hf (by decide)
    rw [Nat.and_two_pow_sub_one_eq_mod f 3] at this
    exact this
  have ho := bits_any (f % 8) (Nat.mod_lt _ (by decide)) w
  obtain ⟨k, hk⟩ : ∃ k : Int, k = ((f % 8 : Nat) : Int) := ⟨_, rfl⟩
  obtain ⟨q, hq⟩ : ∃ q, q = ones3 (f % 8) := ⟨_, rfl⟩
  have hfb : flagsB f = (decide (f < 32) && decide ((q : Int) ≤ 1)) := by
    unfold flagsB
    rw [← hq]
    congr 1
    apply decide_eq_decide.2
    omega
  rw [hfb]
  rw [← hk] at h7 ho
  rw [← hq] at ho
  have Ho := Lib.hid ho
  by_cases h : f < 32
  · have h3 : a = 0 := h2.2 h
    subst h3
    have hd : decide (f < 32) = true := by simpa using h
    rw [hd]
    generalize (f : Int) = F at *
    clear h2 ho hk hq hfb hd h
    go_enter Try.func33, Try.ntmps33
    go_wp2_with fail
    (with_reducible refine (Ho.out).mono ?_)
    rintro e w' ⟨rfl, rfl⟩
    go_wp2
    go_ret
    exact ⟨ret_bool (by simp), rfl⟩
  · have h3 : a ≠ 0 := fun e => h (h2.1 e)
    have h4 : (a == 0) = false := by simpa using h3
    have hd : decide (f < 32) = false := by simpa using h
    rw [hd]
    generalize (f : Int) = F at *
    clear h2 ho hk hq hfb hd h h3
    go_enter Try.func33, Try.ntmps33
    go_wp2
    go_ret
    exact ⟨ret_bool (by simp), rfl⟩
/-- a segment's cells: its options by themselves -/
def segO (s0 s1 s2 s3 s4 s5 : Int) (f : Nat) (s7 : Int) (o : Op) (A : Option Addr) (c : Nat) (d : ByteArray) : Array Value :=
  #[.int .u32 s0, .int .u16 s1, .int .u32 s2, .int .u16 s3, .int .u32 s4, .int .u32 s5, .int .u8 (f : Int), .int .u16 s7, .int .u16 (o.mss : Int), .int .i64 o.scale, .bool o.sack, .slice A o.bl.length c, .bool o.time, .int .u32 (o.val : Int), .int .u32 (o.echo : Int), .string d]
def pmayB (f : Nat) (o : Op) (d : ByteArray) : Bool := flagsB f && mayB o && decide (d.size ≤ 1460)
set_option maxRecDepth 100000 in
set_option maxHeartbeats 4000000 in
theorem pmay_any (w : World) (s0 s1 s2 s3 s4 s5 : Int) (f : Nat) (s7 : Int) (o : Op) (A : Option Addr) (c : Nat) (d : ByteArray) (ho : o.wf) (hr : BlR w A o.bl) (hn : o.bl.length ≤ 1000) (hf : f < 256) (hd : d.size ≤ maxLen) :
    Calls Try.prog 13 #[.agg (segO s0 s1 s2 s3 s4 s5 f s7 o A c d)] w fun e w' => e = .returned (.bool (pmayB f o d)) ∧ Below w.heap.size w w' := by
  obtain ⟨fb, hfb⟩ : ∃ fb, fb = flagsB f := ⟨_, rfl⟩
  obtain ⟨mb, hmb⟩ : ∃ mb, mb = mayB o := ⟨_, rfl⟩
  have hp : pmayB f o d = (fb && mb && decide ((d.size : Int) ≤ 1460)) := by
    unfold pmayB
    rw [← hfb, ← hmb]
    congr 1
    apply decide_eq_decide.2
    omega
  rw [hp]
  have hfl := fun W => flags_any f hf W
  have hmy := fun W (h : BlR W A o.bl) => may_any W o A c ho h hn
  unfold optC at hmy
  unfold segO
  rw [← hfb] at hfl
  rw [← hmb] at hmy
  have hb0 : Below w.heap.size w (w.alloc (.cells (segO s0 s1 s2 s3 s4 s5 f s7 o A c d) 30)) := (Below.refl _ _).alloc (Nat.le_refl _) _
  have hS0 : Blk (w.alloc (.cells (segO s0 s1 s2 s3 s4 s5 f s7 o A c d) 30)) w.heap.size 30 (segO s0 s1 s2 s3 s4 s5 f s7 o A c d) := Blk.new _ _ _
  have hR0 := hr.below hb0
  unfold segO at hb0 hS0 hR0
  have hz : (d.size : Int) ≤ 9223372036854775807 := by unfold maxLen at hd; omega
  clear hp hfb hmb hr hd
  generalize o.bl.length = n at *
  generalize (o.mss : Int) = m at *
  generalize (o.val : Int) = vl at *
  generalize (o.echo : Int) = ec at *
  generalize o.scale = sc at *
  generalize o.sack = sk at *
  generalize o.time = tm at *
  generalize (f : Int) = F at *
  have Hfl := Lib.hid hfl
  have Hmy := Lib.hid hmy
  clear hfl hmy ho hn hf
  go_enter Try.func13, Try.ntmps13
  go_upto_region 1 with fail
  obtain ⟨g, hg⟩ : ∃ g, g = w.heap.size := ⟨_, rfl⟩
  generalize hW1 : w.alloc _ = W1 at *
  rw [← hg] at hS0 ⊢
  clear hg hW1
  have HB := Lib.hid hb0
  have HR := Lib.hid hR0
  have c6 := hS0.cell 6
  have c8 := hS0.cell 8
  have c9 := hS0.cell 9
  have c10 := hS0.cell 10
  have c11 := hS0.cell 11
  have c12 := hS0.cell 12
  have c13 := hS0.cell 13
  have c14 := hS0.cell 14
  have c15 := hS0.cell 15
  simp at c6 c8 c9 c10 c11 c12 c13 c14 c15
  have HS := Lib.hid hS0
  clear hb0 hR0 hS0
  go_wp2_with fail
  (with_reducible refine (Hfl.out _).mono ?_)
  rintro e w' ⟨rfl, rfl⟩
  cases fb with
  | false =>
    go_wp2
    go_ret
    exact ⟨ret_bool (by simp), HB.out⟩
  | true =>
    go_wp2_with fail
    with_reducible refine (Hmy.out _ HR.out).mono ?_
    rintro e w9 ⟨rfl, hb9⟩
    have hF := HB.out.trans (hb9.mono HB.out.size)
    have d15 := (HS.out.below hb9 HS.out.lt).cell 15
    simp at d15
    have HF := Lib.hid hF
    clear hF hb9 c6 c8 c9 c10 c11 c12 c13 c14 c15
    cases mb with
    | false =>
      go_wp2
      go_ret
      exact ⟨ret_bool (by simp), HF.out⟩
    | true =>
      go_wp2
      go_ret
      exact ⟨ret_bool (by simp), HF.out⟩
end Go.Proofs.Ytengegcnocdkoaa
end
section
namespace Go.Proofs.Ytengegcnocdkoaa
/-- may a kind have so many bytes? -/
def longB (k n : Nat) : Bool :=
  if k = 2 then n == 4 else if k = 3 then n == 3 else if k = 4 then n == 2 else if k = 5 then n == 10 || n == 18 || n == 26 || n == 34 else if k = 8 then n == 10 else decide (2 ≤ n)
theorem longB_two {k n : Nat} (h : longB k n = true) : 2 ≤ n := by
  unfold longB at h
  split at h
  · simp at h; omega
  split at h
  · simp at h; omega
  split at h
  · simp at h; omega
  split at h
  · simp at h; omega
  split at h
  · simp at h; omega
  · simpa using h
def byteN (L : List UInt8) (i : Nat) : Nat := ((L[i]?).getD 0).toNat
theorem byteN_lt (L : List UInt8) (i : Nat) : byteN L i < 256 := UInt8.toNat_lt _
/-- how many bytes the option at a place has; 0: it may not be -/
def stepN (L : List UInt8) (i : Nat) : Nat := if i + 1 < L.length ∧ longB (byteN L i) (byteN L (i + 1)) = true ∧ i + byteN L (i + 1) ≤ L.length then byteN L (i + 1) else 0
/-- where options stand, and how many bytes they have -/
def placesF : Nat → List UInt8 → Nat → List (Nat × Nat)
  | 0, _, _ => []
  | f + 1, L, i => if i < L.length ∧ byteN L i ≠ 0 then (if byteN L i = 1 then placesF f L (i + 1) else (i, stepN L i) :: (if stepN L i = 0 then [] else placesF f L (i + stepN L i))) else []
theorem placesF_eq (L : List UInt8) : ∀ (f g i : Nat), L.length - i < f → L.length - i < g → placesF f L i = placesF g L i := by
  intro f
  induction f with
  | zero => intro g i h; omega
  | succ f ih =>
    intro g i hf hg
    cases g with
    | zero => omega
    | succ g =>
      simp only [placesF]
      by_cases h1 : i < L.length ∧ byteN L i ≠ 0
      · rw [if_pos h1, if_pos h1]
        by_cases h2 : byteN L i = 1
        · rw [if_pos h2, if_pos h2]
          exact ih g (i + 1) (by omega) (by omega)
        · rw [if_neg h2, if_neg h2]
          by_cases h3 : stepN L i = 0
          · rw [if_pos h3, if_pos h3]
          · rw [if_neg h3, if_neg h3, ih g (i + stepN L i) (by omega) (by omega)]
      · rw [if_neg h1, if_neg h1]
def placesAt (L : List UInt8) (i : Nat) : List (Nat × Nat) := placesF (L.length - i + 1) L i
theorem places_end {L : List UInt8} {i : Nat} (h : ¬ (i < L.length ∧ byteN L i ≠ 0)) : placesAt L i = [] := by
  unfold placesAt
  simp only [placesF]
  rw [if_neg h]
theorem places_one {L : List UInt8} {i : Nat} (h : i < L.length) (h1 : byteN L i = 1) : placesAt L i = placesAt L (i + 1) := by
  unfold placesAt
  rw [placesF, if_pos ⟨h, by omega⟩, if_pos h1]
  exact placesF_eq L _ _ _ (by omega) (by omega)
theorem places_bad {L : List UInt8} {i : Nat} (h : i < L.length) (h0 : byteN L i ≠ 0) (h1 : byteN L i ≠ 1) (hs : stepN L i = 0) : placesAt L i = [(i, 0)] := by
  unfold placesAt
  rw [placesF, if_pos ⟨h, h0⟩, if_neg h1, hs, if_pos rfl]
theorem places_cons {L : List UInt8} {i : Nat} (h : i < L.length) (h0 : byteN L i ≠ 0) (h1 : byteN L i ≠ 1) (hs : stepN L i ≠ 0) : placesAt L i = (i, stepN L i) :: placesAt L (i + stepN L i) := by
  unfold placesAt
  rw [placesF, if_pos ⟨h, h0⟩, if_neg h1, if_neg hs]
  congr 1
  exact placesF_eq L _ _ _ (by omega) (by omega)
theorem stepN_pos {L : List UInt8} {i : Nat} (h : stepN L i ≠ 0) : i + 1 < L.length ∧ longB (byteN L i) (byteN L (i + 1)) = true ∧ i + stepN L i ≤ L.length ∧ stepN L i = byteN L (i + 1) ∧ 2 ≤ stepN L i := by
  unfold stepN at h ⊢
  split
  · rename_i hc
    exact ⟨hc.1, hc.2.1, hc.2.2, rfl, longB_two hc.2.1⟩
  · rename_i hc
    rw [if_neg hc] at h
    exact absurd rfl h
/-- a place that options' bytes have -/
def OkP (L : List UInt8) (p : Nat × Nat) : Prop := p.1 < L.length ∧ byteN L p.1 ≠ 0 ∧ byteN L p.1 ≠ 1 ∧ p.2 = stepN L p.1
/-- the bytes of an option behind its kind and its length -/
def bodyL (L : List UInt8) (p : Nat × Nat) : List UInt8 := (L.drop (p.1 + 2)).take (p.2 - 2)
/-- blocks out of bytes -/
def blocksF : Nat → List UInt8 → List (Int × Int)
  | 0, _ => []
  | f + 1, B => if B = [] then [] else (((numL (B.take 4) : Nat) : Int), ((numL ((B.drop 4).take 4) : Nat) : Int)) :: blocksF f (B.drop 8)
def metB (k : Nat) : Bool := decide (k ≤ 5) || k == 8
/-- one option, read -/
def takeP (L : List UInt8) (o : Op) (p : Nat × Nat) : Option Op :=
  let B := bodyL L p
  if byteN L p.1 = 2 then (if numL B % 65536 = 0 then none else some { o with mss := numL B % 65536 })
  else if byteN L p.1 = 3 then some { o with scale := min ((byteN B 0 : Nat) : Int) 14 }
  else if byteN L p.1 = 4 then some { o with sack := true }
  else if byteN L p.1 = 8 then some { o with time := true, val := numL (B.take 4), echo := numL (B.drop 4) }
  else if byteN L p.1 = 5 then some { o with bl := o.bl ++ blocksF B.length B }
  else some o
def stepD (L : List UInt8) (st : Op × List Nat) (p : Nat × Nat) : Option (Op × List Nat) :=
  if p.2 = 0 ∨ byteN L p.1 ∈ st.2 then none
  else (takeP L st.1 p).map fun o => (o, if metB (byteN L p.1) = true then byteN L p.1 :: st.2 else st.2)
def noneO : Op := ⟨0, -1, false, [], false, 0, 0⟩
def foldD (L : List UInt8) (l : List (Nat × Nat)) (st : Op × List Nat) : Option (Op × List Nat) := l.foldlM (stepD L) st
/-- what bytes say -/
def decL (L : List UInt8) : Option Op := (foldD L (placesAt L 0) (noneO, [])).map (·.1)
end Go.Proofs.Ytengegcnocdkoaa
end
section
set_option maxRecDepth 20000
namespace Go.Proofs.Ytengegcnocdkoaa
open Go.RowKit Go.BigFrame Go.ChangeMaps
theorem contains_any (g : Nat) (l : List Int) (x : Int) (w : World) (h : Blk w g 3 (l.map (Value.int .i64)).toArray) (hn : l.length ≤ 1000) :
    Calls Try.prog 103 #[.slice (some ⟨g, 0, none⟩) l.length l.length, .int .i64 x] w fun e w' => (∃ r : Int, e = .returned (.int .i64 r) ∧ (0 ≤ r ↔ x ∈ l)) ∧ w = w' := by
  obtain ⟨n, hn'⟩ : ∃ n, n = l.length := ⟨_, rfl⟩
  rw [← hn'] at hn ⊢
  have hlt := h.lt
  have H := Lib.hid h
  clear h
  have Hn' := Lib.hid hn'
  clear hn'
  go_enter Try.func103, Try.ntmps103
  go_wp2
  go_loopw [8] (fun i wr => w = wr ∧ ∃ k : Nat, k ≤ n ∧ i = .int .i64 (k : Int) ∧ x ∉ l.take k) (fun i _ => n - (intOf i).toNat)
  case atStart => exact ⟨rfl, 0, Nat.zero_le _, rfl, by simp⟩
  case round =>
    obtain ⟨rfl, k, hk, rfl, hx⟩ := hrel
    by_cases hkn : k < n
    · have hkl : k < l.length := by rw [← Hn'.out]; exact hkn
      obtain ⟨v, hv⟩ : ∃ v, v = l[k] := ⟨_, rfl⟩
      have hc : w.cell? ⟨g, k, none⟩ = some (.int .i64 v) := by
        have := H.out.cell k
        rw [this]
        simp [hv, hkl]
      have j1 : (k : Int) < (n : Int) := by omega
      have hmem : x ∈ l.take (k + 1) ↔ x = v := by
        rw [List.take_add_one, List.getElem?_eq_getElem hkl, ← hv]
        simp
        intro h
        exact absurd h hx
      have hvl : v ∈ l := by rw [hv]; exact List.getElem_mem _
      by_cases hxv : x = v
      · subst hxv
        have e1 : (x == x) = true := beq_self_eq_true _
        have Hx := Lib.hid hx
        clear hx
        have Hmem := Lib.hid hmem
        clear hmem
        have Hvl := Lib.hid hvl
        clear hvl
        have Hv := Lib.hid hv
        clear hv
        go_wp2
        go_ret
        exact ⟨⟨(k : Int), rfl, fun _ => Hvl.out, fun _ => by omega⟩, rfl⟩
      · have e1 : (x == v) = false := by simpa using hxv
        have hx2 : x ∉ l.take (k + 1) := fun h => hxv (hmem.1 h)
        have Hx := Lib.hid hx
        clear hx
        have Hmem := Lib.hid hmem
        clear hmem
        have Hvl := Lib.hid hvl
        clear hvl
        have Hv := Lib.hid hv
        clear hv
        have Hx2 := Lib.hid hx2
        clear hx2
        clear hxv
        go_wp2
        go_roundw
        case rel => exact ⟨trivial, k + 1, by omega, by go_num, Hx2.out⟩
        case measure => simp [intOf]; omega
    · obtain rfl : k = n := by omega
      rw [Hn'.out, List.take_length] at hx
      have j1 : ¬ (k : Int) < (k : Int) := by omega
      have Hx := Lib.hid hx
      clear hx
      go_wp2
      go_ret
      exact ⟨⟨-1, rfl, fun h => by omega, fun h => absurd h Hx.out⟩, rfl⟩
theorem has_any (g : Nat) (l : List Int) (x : Int) (w : World) (h : Blk w g 3 (l.map (Value.int .i64)).toArray) (hn : l.length ≤ 1000) :
    Calls Try.prog 100 #[.slice (some ⟨g, 0, none⟩) l.length l.length, .int .i64 x] w fun e w' => e = .returned (.bool (decide (x ∈ l))) ∧ w = w' := by
  have hc := contains_any g l x w h hn
  generalize l.length = n at *
  have HC := Lib.hid hc
  clear hc h hn
  go_enter Try.func100, Try.ntmps100
  go_wp2_with fail
  (with_reducible refine (HC.out).mono ?_)
  rintro e w' ⟨⟨r, rfl, hr⟩, rfl⟩
  have hd : decide (x ∈ l) = decide (0 ≤ r) := by
    by_cases h : 0 ≤ r
    · rw [decide_eq_true h, decide_eq_true (hr.1 h)]
    · rw [decide_eq_false h, decide_eq_false (fun hm => h (hr.2 hm))]
  have HD := Lib.hid hd
  clear hd hr
  go_wp2
  go_ret
  exact ⟨ret_bool HD.out.symm, rfl⟩
/-- an entry that a literal of a map lays, under a key that is not there yet -/
theorem wpl_insert_new {P : Program} {ops : Array Oper} {rest : List Oper} {o : Oper} {a : Act} {Q : Exit → Act → World → Prop} {w : World} (hg : o.guard = none) (m x v : Operand) (t : TypeId) (hop : o.op = .insert t m x v)
    (kt et : TypeId) (q : IntKind) (ht : P.underlying t = some (.map kt et)) (hk : P.underlying kt = some (.int q)) (g : Nat) (es : Array MapEntry) (clock : Nat) (hm : a.eval m = .map (some g)) (hb : w.heap[g]? = some (.map es clock))
    (key : Int) (hx : a.eval x = .int q key) (hnew : Instr.findNow (.int q) (.int q key) es.toList 0 = some none) (val : Value) (hv : a.eval v = val)
    (hK : ∀ w', w'.heap[g]? = some (.map (es.push ⟨.int q key, val, clock⟩) (clock + 1)) → w.grownBy w' (some g) → wpList P ops Q rest (a.put o.dst undef) w') :
    wpList P ops Q (o :: rest) a w := by
  have hrun : (Instr.mapUpdate t (.map (some g)) (.int q key) val).run P w = .ok () (setBlock w g (.map (es.push ⟨.int q key, val, clock⟩) (clock + 1))) := by
    have hc : (Instr.checkKey false 10000 kt (.int q key)).run P w = .ok () w := MapKept.run_checkKey (k := .int q key) hk (by simp [MapKept.IsKey]) false 9999
    have h1 : (Instr.mapUpdate t (.map (some g)) (.int q key) val).run P w = .ok () { w with heap := w.heap.setIfInBounds g (.map (es.push ⟨.int q key, val, clock⟩) (clock + 1)) } := by
      simp [Instr.mapUpdate, run_underlying ht, MapKept.run_getObj_map hb, hc, MapKept.run_findKey hk hnew, MapKept.run_setObj_map _ hb, Result.andThen]
    rw [h1]
    rfl
  refine wpList_plain hg fun K' hK' => ?_
  unfold Oper.wp
  simp [execOp, hop, hm, hx, hv, hrun, Result.andThen]
  exact hK' _ _ (hK _ (heap_setBlock_same hb _) ⟨rfl, rfl, rfl, by simp [setBlock], fun i _ hi => heap_setBlock_other hb _ (fun e => hi (by rw [e]))⟩)
theorem lookI_run {W : World} {g : Nat} {es : Array MapEntry} {c : Nat} (hm : W.heap[g]? = some (.map es c)) (d : Int) (i : Nat) (v : Value) (h : Instr.findNow (.int .u8) (.int .u8 d) es.toList 0 = some (some (i, v))) :
    (Instr.lookup 142 (.map (some g)) (.int .u8 d) true).run Try.prog W = .ok (.tuple #[v, .bool true]) W := by
  have hc : ∀ b, (Instr.checkKey b 10000 5 (.int .u8 d)).run Try.prog W = .ok () W := fun b => MapKept.run_checkKey (k := .int .u8 d) Try.underlying5 (by simp [MapKept.IsKey]) b 9999
  simp [Instr.lookup, run_underlying Try.underlying142, MapKept.run_getObj_map hm, hc, MapKept.run_findKey Try.underlying5 h, Result.andThen]
theorem lookI_none {W : World} {g : Nat} {es : Array MapEntry} {c : Nat} (hm : W.heap[g]? = some (.map es c)) (d : Int) (h : Instr.findNow (.int .u8) (.int .u8 d) es.toList 0 = some none) :
    (Instr.lookup 142 (.map (some g)) (.int .u8 d) true).run Try.prog W = .ok (.tuple #[.slice none 0 0, .bool false]) W := by
  have hc : ∀ b, (Instr.checkKey b 10000 5 (.int .u8 d)).run Try.prog W = .ok () W := fun b => MapKept.run_checkKey (k := .int .u8 d) Try.underlying5 (by simp [MapKept.IsKey]) b 9999
  have hz : (zeroValue 115).run Try.prog W = .ok (.slice none 0 0) W := by kernel_rfl
  simp [Instr.lookup, run_underlying Try.underlying142, MapKept.run_getObj_map hm, hc, MapKept.run_findKey Try.underlying5 h, hz, Result.andThen]
theorem mp_alloc {w : World} {g : Nat} {o : Obj} (h : w.heap[g]? = some o) (o' : Obj) : (w.alloc o').heap[g]? = some o := by
  exact ((World.grownBy_alloc w o' none).block g (Array.getElem?_eq_some_iff.1 h).1 (by simp)).trans h
theorem stepB {A B : World} {g m : Nat} {t : TypeId} {cs : Array Value} {o : Obj} (h : Blk A g t cs) (hg : (A.alloc o).grownBy B (some m)) (hne : g ≠ m) : Blk B g t cs := (h.alloc o).grown hg (fun e => hne (Option.some.inj e))
theorem mp_grown {w w' : World} {g b : Nat} {t : TypeId} {cs : Array Value} (h : Blk w g t cs) (hg : w.grownBy w' (some b)) (hne : g ≠ b) : Blk w' g t cs := h.grown hg (fun e => hne (Option.some.inj e))
set_option maxHeartbeats 4000000 in
theorem long_any (k n : Nat) (w : World) (hk : k < 256) :
    Calls Try.prog 95 #[.int .u8 (k : Int), .int .i64 (n : Int)] w fun e w' => e = .returned (.bool (longB k n)) ∧ Below w.heap.size w w' := by
  obtain ⟨m, hm⟩ : ∃ m, m = w.heap.size := ⟨_, rfl⟩
  have hM0 : (w.alloc (.map #[] 0)).heap[m]? = some (.map #[] 0) := by rw [hm]; exact World.alloc_heap_new w _
  have hb0 : Below w.heap.size w (w.alloc (.map #[] 0)) := (Below.refl _ _).alloc (Nat.le_refl _) _
  have hs0 : m < (w.alloc (.map #[] 0)).heap.size := by rw [hm]; simp
  have hmk : (Instr.makeMap 142 none).run Try.prog w = .ok (.map (some w.heap.size)) (w.alloc (.map #[] 0)) := by kernel_rfl
  have Hm := Lib.hid hm
  clear hm
  go_enter Try.func95, Try.ntmps95
  go_upto_region 2 with (first
    | (refine wpl_insert_new rfl (.tmp 8) (.const (.int .u8 2)) (.tmp 9) 142 rfl 5 115 .u8 Try.underlying142 Try.underlying5 m _ _ (by simp [Act.eval, Hm.out]) (mp_alloc hM0 _) 2 rfl rfl _ rfl ?_; intro W1 hM1 hg1)
    | (refine wpl_insert_new rfl (.tmp 8) (.const (.int .u8 3)) (.tmp 10) 142 rfl 5 115 .u8 Try.underlying142 Try.underlying5 m _ _ (by simp [Act.eval, Hm.out]) (mp_alloc hM1 _) 3 rfl rfl _ rfl ?_; intro W2 hM2 hg2)
    | (refine wpl_insert_new rfl (.tmp 8) (.const (.int .u8 4)) (.tmp 11) 142 rfl 5 115 .u8 Try.underlying142 Try.underlying5 m _ _ (by simp [Act.eval, Hm.out]) (mp_alloc hM2 _) 4 rfl rfl _ rfl ?_; intro W3 hM3 hg3)
    | (refine wpl_insert_new rfl (.tmp 8) (.const (.int .u8 5)) (.tmp 12) 142 rfl 5 115 .u8 Try.underlying142 Try.underlying5 m _ _ (by simp [Act.eval, Hm.out]) (mp_alloc hM3 _) 5 rfl rfl _ rfl ?_; intro W4 hM4 hg4)
    | (refine wpl_insert_new rfl (.tmp 8) (.const (.int .u8 8)) (.tmp 13) 142 rfl 5 115 .u8 Try.underlying142 Try.underlying5 m _ _ (by simp [Act.eval, Hm.out]) (mp_alloc hM4 _) 8 rfl rfl _ rfl ?_; intro W5 hM5 hg5))
  have z1 : w.heap.size + 2 ≤ W1.heap.size := by have := hg1.size; simp at this; omega
  have z2 : W1.heap.size + 1 ≤ W2.heap.size := by have := hg2.size; simp at this; omega
  have z3 : W2.heap.size + 1 ≤ W3.heap.size := by have := hg3.size; simp at this; omega
  have z4 : W3.heap.size + 1 ≤ W4.heap.size := by have := hg4.size; simp at this; omega
  have z5 : W4.heap.size + 1 ≤ W5.heap.size := by have := hg5.size; simp at this; omega
  obtain rfl := Hm.out
  have hb1 := below_only (hb0.alloc hb0.size _) hg1 (Nat.le_refl _) (by simp; omega)
  have hb2 := below_only (hb1.alloc hb1.size _) hg2 (Nat.le_refl _) (by simp; omega)
  have hb3 := below_only (hb2.alloc hb2.size _) hg3 (Nat.le_refl _) (by simp; omega)
  have hb4 := below_only (hb3.alloc hb3.size _) hg4 (Nat.le_refl _) (by simp; omega)
  have hb5 := below_only (hb4.alloc hb4.size _) hg5 (Nat.le_refl _) (by simp; omega)
  have k1 := mp_grown (Blk.new (w.alloc (.map #[] 0)) 3 #[.int .i64 4]) hg1 (by simp)
  rw [World.size_alloc] at k1
  have k1 := stepB k1 hg2 (by omega)
  have k1 := stepB k1 hg3 (by omega)
  have k1 := stepB k1 hg4 (by omega)
  have k1 := stepB k1 hg5 (by omega)
  have k2 := mp_grown (Blk.new W1 3 #[.int .i64 3]) hg2 (by omega)
  have k2 := stepB k2 hg3 (by omega)
  have k2 := stepB k2 hg4 (by omega)
  have k2 := stepB k2 hg5 (by omega)
  have k3 := mp_grown (Blk.new W2 3 #[.int .i64 2]) hg3 (by omega)
  have k3 := stepB k3 hg4 (by omega)
  have k3 := stepB k3 hg5 (by omega)
  have k4 := mp_grown (Blk.new W3 3 #[.int .i64 10, .int .i64 18, .int .i64 26, .int .i64 34]) hg4 (by omega)
  have k4 := stepB k4 hg5 (by omega)
  have k5 := mp_grown (Blk.new W4 3 #[.int .i64 10]) hg5 (by omega)
  obtain ⟨g1, e1⟩ : ∃ g, g = W1.heap.size := ⟨_, rfl⟩
  obtain ⟨g2, e2⟩ : ∃ g, g = W2.heap.size := ⟨_, rfl⟩
  obtain ⟨g3, e3⟩ : ∃ g, g = W3.heap.size := ⟨_, rfl⟩
  obtain ⟨g4, e4⟩ : ∃ g, g = W4.heap.size := ⟨_, rfl⟩
  rw [← e1] at hM5 k2 ⊢
  rw [← e2] at hM5 k3 ⊢
  rw [← e3] at hM5 k4 ⊢
  rw [← e4] at hM5 k5 ⊢
  obtain ⟨g0, e0⟩ : ∃ g, g = w.heap.size + 1 := ⟨_, rfl⟩
  rw [← e0] at k1 ⊢
  have hM6 := hM5
  try simp only [World.size_alloc] at hM6
  try rw [← e0] at hM6
  clear hM0 hM1 hM2 hM3 hM4 hM5 hg1 hg2 hg3 hg4 hg5 z1 z2 z3 z4 z5 hb0 hb1 hb2 hb3 hb4 hs0 hmk e0 e1 e2 e3 e4
  generalize W5 = W at *
  have K1 := Lib.hid k1
  clear k1
  have K2 := Lib.hid k2
  clear k2
  have K3 := Lib.hid k3
  clear k3
  have K4 := Lib.hid k4
  clear k4
  have K5 := Lib.hid k5
  clear k5
  have Hb5 := Lib.hid hb5
  clear hb5
  by_cases h2 : k = 2
  · have hkc : (k : Int) = 2 := by omega
    have hl := lookI_run hM6 2 0 _ rfl
    have hr : longB k n = decide ((n : Int) ∈ ([4] : List Int)) := by
      have e : longB k n = (n == 4) := by rw [show k = 2 by omega]; rfl
      rw [e, Bool.eq_iff_iff]
      simp
      omega
    have hc : Calls Try.prog 100 #[.slice (some ⟨g0, 0, none⟩) 1 1, .int .i64 (n : Int)] W fun e w' => e = .returned (.bool (decide ((n : Int) ∈ ([4] : List Int)))) ∧ W = w' := has_any g0 [4] (n : Int) W K1.out (by decide)
    clear hM6
    generalize decide ((n : Int) ∈ ([4] : List Int)) = r at *
    have Hc := Lib.hid hc
    clear hc
    have Hr := Lib.hid hr
    clear hr
    go_wp2_with fail
    with_reducible refine Hc.out.mono ?_
    rintro e w' ⟨rfl, rfl⟩
    go_wp2
    go_ret
    exact ⟨ret_bool Hr.out.symm, Hb5.out⟩
  by_cases h3 : k = 3
  · have hkc : (k : Int) = 3 := by omega
    have hl := lookI_run hM6 3 1 _ rfl
    have hr : longB k n = decide ((n : Int) ∈ ([3] : List Int)) := by
      have e : longB k n = (n == 3) := by rw [show k = 3 by omega]; rfl
      rw [e, Bool.eq_iff_iff]
      simp
      omega
    have hc : Calls Try.prog 100 #[.slice (some ⟨g1, 0, none⟩) 1 1, .int .i64 (n : Int)] W fun e w' => e = .returned (.bool (decide ((n : Int) ∈ ([3] : List Int)))) ∧ W = w' := has_any g1 [3] (n : Int) W K2.out (by decide)
    clear hM6
    generalize decide ((n : Int) ∈ ([3] : List Int)) = r at *
    have Hc := Lib.hid hc
    clear hc
    have Hr := Lib.hid hr
    clear hr
    go_wp2_with fail
    with_reducible refine Hc.out.mono ?_
    rintro e w' ⟨rfl, rfl⟩
    go_wp2
    go_ret
    exact ⟨ret_bool Hr.out.symm, Hb5.out⟩
  by_cases h4 : k = 4
  · have hkc : (k : Int) = 4 := by omega
    have hl := lookI_run hM6 4 2 _ rfl
    have hr : longB k n = decide ((n : Int) ∈ ([2] : List Int)) := by
      have e : longB k n = (n == 2) := by rw [show k = 4 by omega]; rfl
      rw [e, Bool.eq_iff_iff]
      simp
      omega
    have hc : Calls Try.prog 100 #[.slice (some ⟨g2, 0, none⟩) 1 1, .int .i64 (n : Int)] W fun e w' => e = .returned (.bool (decide ((n : Int) ∈ ([2] : List Int)))) ∧ W = w' := has_any g2 [2] (n : Int) W K3.out (by decide)
    clear hM6
    generalize decide ((n : Int) ∈ ([2] : List Int)) = r at *
    have Hc := Lib.hid hc
    clear hc
    have Hr := Lib.hid hr
    clear hr
    go_wp2_with fail
    with_reducible refine Hc.out.mono ?_
    rintro e w' ⟨rfl, rfl⟩
    go_wp2
    go_ret
    exact ⟨ret_bool Hr.out.symm, Hb5.out⟩
  by_cases h5 : k = 5
  · have hkc : (k : Int) = 5 := by omega
    have hl := lookI_run hM6 5 3 _ rfl
    have hr : longB k n = decide ((n : Int) ∈ ([10, 18, 26, 34] : List Int)) := by
      have e : longB k n = (n == 10 || n == 18 || n == 26 || n == 34) := by rw [show k = 5 by omega]; rfl
      rw [e, Bool.eq_iff_iff]
      simp
      omega
    have hc : Calls Try.prog 100 #[.slice (some ⟨g3, 0, none⟩) 4 4, .int .i64 (n : Int)] W fun e w' => e = .returned (.bool (decide ((n : Int) ∈ ([10, 18, 26, 34] : List Int)))) ∧ W = w' := has_any g3 [10, 18, 26, 34] (n : Int) W K4.out (by decide)
    clear hM6
    generalize decide ((n : Int) ∈ ([10, 18, 26, 34] : List Int)) = r at *
    have Hc := Lib.hid hc
    clear hc
    have Hr := Lib.hid hr
    clear hr
    go_wp2_with fail
    with_reducible refine Hc.out.mono ?_
    rintro e w' ⟨rfl, rfl⟩
    go_wp2
    go_ret
    exact ⟨ret_bool Hr.out.symm, Hb5.out⟩
  by_cases h8 : k = 8
  · have hkc : (k : Int) = 8 := by omega
    have hl := lookI_run hM6 8 4 _ rfl
    have hr : longB k n = decide ((n : Int) ∈ ([10] : List Int)) := by
      have e : longB k n = (n == 10) := by rw [show k = 8 by omega]; rfl
      rw [e, Bool.eq_iff_iff]
      simp
      omega
    have hc : Calls Try.prog 100 #[.slice (some ⟨g4, 0, none⟩) 1 1, .int .i64 (n : Int)] W fun e w' => e = .returned (.bool (decide ((n : Int) ∈ ([10] : List Int)))) ∧ W = w' := has_any g4 [10] (n : Int) W K5.out (by decide)
    clear hM6
    generalize decide ((n : Int) ∈ ([10] : List Int)) = r at *
    have Hc := Lib.hid hc
    clear hc
    have Hr := Lib.hid hr
    clear hr
    go_wp2_with fail
    with_reducible refine Hc.out.mono ?_
    rintro e w' ⟨rfl, rfl⟩
    go_wp2
    go_ret
    exact ⟨ret_bool Hr.out.symm, Hb5.out⟩
  have hl := lookI_none hM6 (k : Int) (by
    have q1 : ((k : Int) == 2) = false := by simp; omega
    have q2 : ((k : Int) == 3) = false := by simp; omega
    have q3 : ((k : Int) == 4) = false := by simp; omega
    have q4 : ((k : Int) == 5) = false := by simp; omega
    have q5 : ((k : Int) == 8) = false := by simp; omega
    simp only [List.push_toArray, List.append_toArray, List.nil_append, List.cons_append, Instr.findNow, Instr.sameNow, if_pos, q1, q2, q3, q4, q5])
  have hr : longB k n = decide (2 ≤ (n : Int)) := by
    unfold longB
    rw [if_neg h2, if_neg h3, if_neg h4, if_neg h5, if_neg h8]
    simp
    omega
  have Hr := Lib.hid hr
  clear hr
  clear hM6 h2 h3 h4 h5 h8
  go_wp2
  go_ret
  exact ⟨ret_bool Hr.out.symm, Hb5.out⟩
end Go.Proofs.Ytengegcnocdkoaa
end
section
set_option maxRecDepth 20000
namespace Go.Proofs.Ytengegcnocdkoaa
open Go.RowKit Go.BigFrame Go.Shelf
attribute [local go_sem] Oper.semAt_some
/-- what a round keeps: what lay below n₀, and each box of a string -/
def KeepsS (n₀ : Nat) (A B : World) : Prop := Below n₀ A B ∧ ∀ (i : Nat) (cs : Array Value), Blk A i 9 cs → Blk B i 9 cs
theorem KeepsS.trans {n₀ : Nat} {A B C : World} (h : KeepsS n₀ A B) (k : KeepsS n₀ B C) : KeepsS n₀ A C := ⟨h.1.trans k.1, fun i cs e => k.2 i cs (h.2 i cs e)⟩
theorem KeepsS.refl (n₀ : Nat) (A : World) : KeepsS n₀ A A := ⟨Below.refl _ _, fun i cs e => e⟩
theorem KeepsS.of_below {n₀ : Nat} {A B : World} (hn : n₀ ≤ A.heap.size) (h : Below A.heap.size A B) : KeepsS n₀ A B := ⟨h.mono hn, fun i cs e => e.below h e.lt⟩
theorem KeepsS.putObj {n₀ : Nat} {w : World} (hn : n₀ ≤ w.heap.size) (W : World) (l : Nat) (o o' : Obj) (hl : w.heap.size ≤ l) (h : W.heap[l]? = some o) (hc : o.isCells = false) (hw : o.isWalk = false) : KeepsS n₀ W (W.putObj l o') :=
  ⟨belowK_b hn W l o o' hl h hc hw, fun i cs e => (World.putObj_heap_other (by rintro rfl; unfold Blk at e; rw [h] at e; cases e; cases hc)).trans e⟩
/-- a place that the bytes have -/
def InP (L : List UInt8) (p : Nat × Nat) : Prop := p ∈ placesAt L 0
abbrev PV (L : List UInt8) := { p : Nat × Nat // OkP L p ∧ InP L p }
theorem each_in (s : ByteArray) (w : World) :
    CallsIn Fence.wide 2 Try.prog 75 #[.string s] w fun e w' => e = .returned (.func (.func 94) #[] #[.pointer (some ⟨w.heap.size, 0, none⟩)]) ∧ w' = w.alloc (.cells #[.string s] 9) := by
  refine callsIn_of_wp Try.func75 rfl trivial ?_ rfl
  simp only [Try.ntmps75, List.size_toArray, List.length_cons, List.length_nil, Nat.reduceAdd, Nat.reduceSub, Array.replicate_succ, Array.replicate_zero, List.push_toArray, List.append_toArray, List.nil_append, List.cons_append]
  have hmf : ∀ (fn : Fn) (first cap : Array Value) (w : World), (Instr.makeFunc fn first cap).run Try.prog w = .ok (.func fn first cap) w := fun _ _ _ _ => rfl
  gi_wp2
  go_ret
  exact ⟨rfl, rfl⟩
theorem index_at (x : ByteArray) (j : Nat) (h : j < x.data.toList.length) (W : World) : (Instr.index 9 (.string x) (.int .i64 (j : Int))).run Try.prog W = .ok (.int .u8 ((byteN x.data.toList j : Nat) : Int)) W := by
  have hl : j < x.size := by simpa using h
  rw [run_index_string W 9 x .i64 _ Try.underlying9, dif_pos ⟨by omega, by omega⟩]
  unfold byteN
  rw [List.getElem?_eq_getElem h, Option.getD_some]
  rfl
set_option maxRecDepth 100000 in
set_option maxHeartbeats 8000000 in
theorem each1_in (n₀ Bs : Nat) (x : ByteArray) (L : List UInt8) (hx : x.data.toList = L) (hm : L.length ≤ 1000) (l : Nat) (J Jx : List (PV L) → World → Prop)
    (W : World) (hW : n₀ ≤ W.heap.size) (hJ : AbidesFrom W.heap.size J)
    (hY : ∀ pre x W1, J pre W1 → pre.length < (placesAt L 0).length → YieldAt Fence.wide 1 Try.prog l #[.int .i64 (x.1.1 : Int), .int .i64 (x.1.2 : Int)] W1 fun e W' =>
      (e = .returned (.bool true) ∧ J (pre ++ [x]) W' ∧ KeepsS n₀ W1 W') ∨ (e = .returned (.bool false) ∧ Jx (pre ++ [x]) W'))
    (hBs : Blk W Bs 9 #[.string x]) (h0 : J [] W) :
    CallsIn Fence.wide 2 Try.prog 94 #[.func (.yield l) #[] #[], .pointer (some ⟨Bs, 0, none⟩)] W fun e W' => (∃ v, e = .returned v) ∧
      ((∃ ys : List (PV L), ys.map (·.1) = placesAt L 0 ∧ J ys W') ∨ (∃ pre : List (PV L), pre.map (·.1) <+: placesAt L 0 ∧ Jx pre W')) := by
  have hsz : x.size = L.length := by rw [← hx]; simp
  refine callsIn_of_wp Try.func94 rfl trivial ?_ rfl
  simp only [Try.ntmps94, List.size_toArray, List.length_cons, List.length_nil, Nat.reduceAdd, Nat.reduceSub, Array.replicate_succ, Array.replicate_zero, List.push_toArray, List.append_toArray, List.nil_append, List.cons_append]
  have Hx := Lib.hid hx
  have Hsz := Lib.hid hsz
  clear hx hsz
  gi_wp2
  gi_loopw [3, 4] (fun i m wr => ∃ (k : Nat) (pre : List (PV L)), k ≤ L.length ∧ i = .int .i64 (k : Int) ∧ pre.map (·.1) ++ placesAt L k = placesAt L 0 ∧ J pre wr ∧ KeepsS n₀ W wr)
    (fun i _ _ => L.length - (intOf i).toNat)
  case atStart => exact ⟨0, [], Nat.zero_le _, rfl, rfl, h0, KeepsS.refl _ _⟩
  case round =>
    obtain ⟨k, pre, hk, rfl, hp, hj, hb⟩ := hrel
    have hsz := Hsz.out
    have hbs := hb.2 _ _ hBs
    have cB := hbs.cell 0
    simp at cB
    have hle : n₀ ≤ wr.heap.size := Nat.le_trans hW hb.1.size
    have ne : Nonempty (Cls (Fresh wr)) := ⟨⟨wr, Below.refl _ _⟩⟩
    by_cases h1 : k < L.length
    · have j1 : (k : Int) < (L.length : Int) := by omega
      have hix := fun W => index_at x k (by rw [Hx.out]; exact h1) W
      rw [Hx.out] at hix
      obtain ⟨b, hbe⟩ : ∃ b, b = byteN L k := ⟨_, rfl⟩
      rw [← hbe] at hix
      have hb256 : b < 256 := by rw [hbe]; exact byteN_lt _ _
      by_cases hb0 : b = 0
      · have t1 : ((b : Int) != 0) = false := by rw [hb0]; rfl
        have t2 : ((b : Int) == 0) = true := by rw [hb0]; rfl
        have hpl : placesAt L k = [] := places_end (by rw [← hbe, hb0]; simp)
        rw [hpl, List.append_nil] at hp
        have Hp := Lib.hid hp
        clear hp
        have Hpl := Lib.hid hpl
        clear hpl
        have Hbe := Lib.hid hbe
        clear hbe
        have Hb0 := Lib.hid hb0
        clear hb0
        clear hY ne hb hbs hle
        gi_wp2
        first | go_end0 | refine bodyPost_ret (results_none rfl _ _ _) rfl ?_
        exact ⟨⟨_, rfl⟩, .inl ⟨pre, Hp.out, hj⟩⟩
      have t1 : ((b : Int) != 0) = true := by simp; omega
      have t0 : ((b : Int) == 0) = false := by simp; omega
      by_cases hb1 : b = 1
      · have t2 : ((b : Int) == 1) = true := by rw [hb1]; rfl
        have hpl : placesAt L k = placesAt L (k + 1) := places_one h1 (by rw [← hbe, hb1])
        rw [hpl] at hp
        have Hp := Lib.hid hp
        clear hp
        have Hpl := Lib.hid hpl
        clear hpl
        have Hbe := Lib.hid hbe
        clear hbe
        have Hb1 := Lib.hid hb1
        clear hb1
        have Hb0 := Lib.hid hb0
        clear hb0
        clear hY ne hbs hle
        gi_wp2
        go_roundw
        case rel => exact ⟨k + 1, pre, by omega, by go_num, Hp.out, hj, hb⟩
        case measure => simp [intOf]; omega
      have t2 : ((b : Int) == 1) = false := by simp; omega
      have hkb0 : byteN L k ≠ 0 := by rw [← hbe]; exact hb0
      have hkb1 : byteN L k ≠ 1 := by rw [← hbe]; exact hb1
      have kB : ∀ y : Cls (Fresh wr), y.w.cell? ⟨Bs, 0, none⟩ = some (.string x) := fun y => (by have := (hbs.below y.h hbs.lt).cell 0; simpa using this)
      have hS0 : Fresh wr wr := Below.refl _ _
      have cf : ∀ (vals : Array Value) (w : World), (callFunc 95 vals).run Try.prog w = .ok (.enter 95 vals) w := fun _ _ => by kernel_rfl
      obtain ⟨c, hce⟩ : ∃ c, c = byteN L (k + 1) := ⟨_, rfl⟩
      have hc256 : c < 256 := by rw [hce]; exact byteN_lt _ _
      have m1 : ∀ y : Cls (Fresh wr), Calls Try.prog 95 #[.int .u8 (b : Int), .int .i64 (c : Int)] y.w fun e w'' => e = .returned (.bool (longB b c)) ∧ Fresh wr w'' ∧ Below y.w.heap.size y.w w'' := fun y => (long_any b c y.w hb256).mono fun e w' ⟨he, hb⟩ => ⟨he, Fresh.below y.h hb, hb⟩
      by_cases hgood : stepN L k = 0
      · have hpl : placesAt L k = [(k, 0)] := places_bad h1 hkb0 hkb1 hgood
        have hok : OkP L (k, 0) ∧ InP L (k, 0) := ⟨⟨h1, hkb0, hkb1, hgood.symm⟩, by unfold InP; rw [← hp, hpl]; simp⟩
        have hlen : pre.length < (placesAt L 0).length := by rw [← hp, hpl]; simp
        have hbad : ¬ (k + 1 < L.length ∧ longB b c = true ∧ k + c ≤ L.length) := by
          rintro ⟨h2, h3, h4⟩
          have h5 := longB_two h3
          unfold stepN at hgood
          rw [← hbe, ← hce, if_pos ⟨h2, h3, h4⟩] at hgood
          omega
        by_cases h2 : k + 1 < L.length
        · have j2 : (k : Int) + 1 < (L.length : Int) := by omega
          have hix2 := fun W => index_at x (k + 1) (by rw [Hx.out]; exact h2) W
          rw [Hx.out, ← hce, show ((k + 1 : Nat) : Int) = (k : Int) + 1 by omega] at hix2
          cases h3 : longB b c with
          | false =>
            rw [h3] at m1
            have Cf := Lib.hid cf
            clear cf
            have M1 := Lib.hid m1
            clear m1
            have Hbe := Lib.hid hbe
            clear hbe
            have Hce := Lib.hid hce
            clear hce
            have Hb0 := Lib.hid hb0
            clear hb0
            have Hb1 := Lib.hid hb1
            clear hb1
            have Hkb0 := Lib.hid hkb0
            clear hkb0
            have Hkb1 := Lib.hid hkb1
            clear hkb1
            have Hgood := Lib.hid hgood
            clear hgood
            have Hbad := Lib.hid hbad
            clear hbad
            have H3 := Lib.hid h3
            clear h3
            gi_upto_region 5 with fail
            refine wpIn_wide.2 ?_
            refine wp_region_flow 28 (Fresh wr) (fun w w' => Below w.heap.size w w') (by kernel_rfl) (by kernel_rfl) (by kernel_rfl) (fun w => Below.refl _ _) (Fresh.below hS0 (Below.drew (Below.refl _ _))) ?_
            simp only [List.take_succ_cons, List.take_zero, List.drop_succ_cons, List.drop_zero]
            repeat (first
              | (refine flow_skip rfl rfl wr ?_; intro K hK; go_big_quiet_op; go_big_quiet_on)
              | (refine flow_quiet (fun w => Below.refl _ _) rfl rfl rfl rfl ?_; intro K hK; go_big_quiet_op; go_big_quiet_on)
              | (refine flow_call Cf.out _ ?_ rfl rfl rfl _ M1.out wr ?_; (focus (simp only [List.map_toArray, List.map_cons, List.map_nil]; rfl)); intro K hK; go_big_quiet_op; go_big_quiet_on))
            refine flow_nil ?_
            intro W5 ff hW5 hF5
            simp only [fillW]
            simp only [wpList, Exit.then]
            go_at_K
            clear hF5
            have hj5 : J pre W5 := hJ _ _ _ none hj (only_of_below hW5 none) (by simp)
            have hb5 : KeepsS n₀ W W5 := hb.trans (KeepsS.of_below hle hW5)
            have cB5 := (hbs.below hW5 hbs.lt).cell 0
            simp at cB5
            clear kB cB hj hb hbs hle ne hS0 hW5
            obtain ⟨fn, tmps, assign, body, hy, hR⟩ := hY pre ⟨(k, 0), hok⟩ W5 hj5 hlen
            dsimp only at hy
            rw [show ((0 : Nat) : Int) = 0 from rfl] at hy
            have HP := Lib.hid hp
            have HPL := Lib.hid hpl
            have HK := Lib.hid hb5
            clear hY hlen hp hpl hb5 hj5
            gi_wp2
            refine hR.mono ?_
            rintro e W3 (⟨rfl, hJ3, hk3⟩ | ⟨rfl, hJx3⟩)
            · clear hy hR
              gi_wp2
              first | go_end0 | refine bodyPost_ret (results_none rfl _ _ _) rfl ?_
              refine ⟨⟨_, rfl⟩, .inl ⟨_, ?_, hJ3⟩⟩
              rw [List.map_append, ← HP.out, HPL.out]
              rfl
            · clear hy hR
              gi_wp2
              first | go_end0 | refine bodyPost_ret (results_none rfl _ _ _) rfl ?_
              refine ⟨⟨_, rfl⟩, .inr ⟨_, ?_, hJx3⟩⟩
              rw [List.map_append, ← HP.out, HPL.out]
              exact List.prefix_rfl
          | true =>
            rw [h3] at m1
            have h4 : ¬ (k : Int) + (c : Int) ≤ (L.length : Int) := by
              intro h4
              exact hbad ⟨h2, h3, by omega⟩
            have Cf := Lib.hid cf
            clear cf
            have M1 := Lib.hid m1
            clear m1
            have Hbe := Lib.hid hbe
            clear hbe
            have Hce := Lib.hid hce
            clear hce
            have Hb0 := Lib.hid hb0
            clear hb0
            have Hb1 := Lib.hid hb1
            clear hb1
            have Hkb0 := Lib.hid hkb0
            clear hkb0
            have Hkb1 := Lib.hid hkb1
            clear hkb1
            have Hgood := Lib.hid hgood
            clear hgood
            have Hbad := Lib.hid hbad
            clear hbad
            have H3 := Lib.hid h3
            clear h3
            gi_upto_region 5 with fail
            refine wpIn_wide.2 ?_
            refine wp_region_flow 28 (Fresh wr) (fun w w' => Below w.heap.size w w') (by kernel_rfl) (by kernel_rfl) (by kernel_rfl) (fun w => Below.refl _ _) (Fresh.below hS0 (Below.drew (Below.refl _ _))) ?_
            simp only [List.take_succ_cons, List.take_zero, List.drop_succ_cons, List.drop_zero]
            repeat (first
              | (refine flow_skip rfl rfl wr ?_; intro K hK; go_big_quiet_op; go_big_quiet_on)
              | (refine flow_quiet (fun w => Below.refl _ _) rfl rfl rfl rfl ?_; intro K hK; go_big_quiet_op; go_big_quiet_on)
              | (refine flow_call Cf.out _ ?_ rfl rfl rfl _ M1.out wr ?_; (focus (simp only [List.map_toArray, List.map_cons, List.map_nil]; rfl)); intro K hK; go_big_quiet_op; go_big_quiet_on))
            refine flow_nil ?_
            intro W5 ff hW5 hF5
            simp only [fillW]
            simp only [wpList, Exit.then]
            go_at_K
            clear hF5
            have hj5 : J pre W5 := hJ _ _ _ none hj (only_of_below hW5 none) (by simp)
            have hb5 : KeepsS n₀ W W5 := hb.trans (KeepsS.of_below hle hW5)
            have cB5 := (hbs.below hW5 hbs.lt).cell 0
            simp at cB5
            clear kB cB hj hb hbs hle ne hS0 hW5
            obtain ⟨fn, tmps, assign, body, hy, hR⟩ := hY pre ⟨(k, 0), hok⟩ W5 hj5 hlen
            dsimp only at hy
            rw [show ((0 : Nat) : Int) = 0 from rfl] at hy
            have HP := Lib.hid hp
            have HPL := Lib.hid hpl
            have HK := Lib.hid hb5
            clear hY hlen hp hpl hb5 hj5
            gi_wp2
            refine hR.mono ?_
            rintro e W3 (⟨rfl, hJ3, hk3⟩ | ⟨rfl, hJx3⟩)
            · clear hy hR
              gi_wp2
              first | go_end0 | refine bodyPost_ret (results_none rfl _ _ _) rfl ?_
              refine ⟨⟨_, rfl⟩, .inl ⟨_, ?_, hJ3⟩⟩
              rw [List.map_append, ← HP.out, HPL.out]
              rfl
            · clear hy hR
              gi_wp2
              first | go_end0 | refine bodyPost_ret (results_none rfl _ _ _) rfl ?_
              refine ⟨⟨_, rfl⟩, .inr ⟨_, ?_, hJx3⟩⟩
              rw [List.map_append, ← HP.out, HPL.out]
              exact List.prefix_rfl
        · have j2 : ¬ (k : Int) + 1 < (L.length : Int) := by omega
          have Cf := Lib.hid cf
          clear cf
          have M1 := Lib.hid m1
          clear m1
          have Hbe := Lib.hid hbe
          clear hbe
          have Hce := Lib.hid hce
          clear hce
          have Hb0 := Lib.hid hb0
          clear hb0
          have Hb1 := Lib.hid hb1
          clear hb1
          have Hkb0 := Lib.hid hkb0
          clear hkb0
          have Hkb1 := Lib.hid hkb1
          clear hkb1
          have Hgood := Lib.hid hgood
          clear hgood
          have Hbad := Lib.hid hbad
          clear hbad
          gi_upto_region 5 with fail
          refine wpIn_wide.2 ?_
          refine wp_region_flow 28 (Fresh wr) (fun w w' => Below w.heap.size w w') (by kernel_rfl) (by kernel_rfl) (by kernel_rfl) (fun w => Below.refl _ _) (Fresh.below hS0 (Below.drew (Below.refl _ _))) ?_
          simp only [List.take_succ_cons, List.take_zero, List.drop_succ_cons, List.drop_zero]
          repeat (first
            | (refine flow_skip rfl rfl wr ?_; intro K hK; go_big_quiet_op; go_big_quiet_on)
            | (refine flow_quiet (fun w => Below.refl _ _) rfl rfl rfl rfl ?_; intro K hK; go_big_quiet_op; go_big_quiet_on)
            | (refine flow_call Cf.out _ ?_ rfl rfl rfl _ M1.out wr ?_; (focus (simp only [List.map_toArray, List.map_cons, List.map_nil]; rfl)); intro K hK; go_big_quiet_op; go_big_quiet_on))
          refine flow_nil ?_
          intro W5 ff hW5 hF5
          simp only [fillW]
          simp only [wpList, Exit.then]
          go_at_K
          clear hF5
          have hj5 : J pre W5 := hJ _ _ _ none hj (only_of_below hW5 none) (by simp)
          have hb5 : KeepsS n₀ W W5 := hb.trans (KeepsS.of_below hle hW5)
          have cB5 := (hbs.below hW5 hbs.lt).cell 0
          simp at cB5
          clear kB cB hj hb hbs hle ne hS0 hW5
          obtain ⟨fn, tmps, assign, body, hy, hR⟩ := hY pre ⟨(k, 0), hok⟩ W5 hj5 hlen
          dsimp only at hy
          rw [show ((0 : Nat) : Int) = 0 from rfl] at hy
          have HP := Lib.hid hp
          have HPL := Lib.hid hpl
          have HK := Lib.hid hb5
          clear hY hlen hp hpl hb5 hj5
          gi_wp2
          refine hR.mono ?_
          rintro e W3 (⟨rfl, hJ3, hk3⟩ | ⟨rfl, hJx3⟩)
          · clear hy hR
            gi_wp2
            first | go_end0 | refine bodyPost_ret (results_none rfl _ _ _) rfl ?_
            refine ⟨⟨_, rfl⟩, .inl ⟨_, ?_, hJ3⟩⟩
            rw [List.map_append, ← HP.out, HPL.out]
            rfl
          · clear hy hR
            gi_wp2
            first | go_end0 | refine bodyPost_ret (results_none rfl _ _ _) rfl ?_
            refine ⟨⟨_, rfl⟩, .inr ⟨_, ?_, hJx3⟩⟩
            rw [List.map_append, ← HP.out, HPL.out]
            exact List.prefix_rfl
      · obtain ⟨h2, h3, h4, h5, h6⟩ := stepN_pos hgood
        have hpl : placesAt L k = (k, c) :: placesAt L (k + c) := by
          have := places_cons h1 hkb0 hkb1 hgood
          rwa [h5, ← hce] at this
        have hok : OkP L (k, c) ∧ InP L (k, c) := ⟨⟨h1, hkb0, hkb1, by rw [hce, ← h5]⟩, by unfold InP; rw [← hp, hpl]; simp⟩
        have hlen : pre.length < (placesAt L 0).length := by rw [← hp, hpl]; simp
        rw [← hbe, ← hce] at h3
        rw [h5, ← hce] at h4
        rw [h5, ← hce] at h6
        rw [h3] at m1
        have j2 : (k : Int) + 1 < (L.length : Int) := by omega
        have j3 : (k : Int) + (c : Int) ≤ (L.length : Int) := by omega
        have hix2 := fun W => index_at x (k + 1) (by rw [Hx.out]; exact h2) W
        rw [Hx.out, ← hce, show ((k + 1 : Nat) : Int) = (k : Int) + 1 by omega] at hix2
        have t3 : ((c : Int) == 0) = false := by simp; omega
        have Cf := Lib.hid cf
        clear cf
        have M1 := Lib.hid m1
        clear m1
        have Hbe := Lib.hid hbe
        clear hbe
        have Hce := Lib.hid hce
        clear hce
        have Hb0 := Lib.hid hb0
        clear hb0
        have Hb1 := Lib.hid hb1
        clear hb1
        have Hkb0 := Lib.hid hkb0
        clear hkb0
        have Hkb1 := Lib.hid hkb1
        clear hkb1
        have Hgood := Lib.hid hgood
        clear hgood
        have H3 := Lib.hid h3
        clear h3
        have H5 := Lib.hid h5
        clear h5
        gi_upto_region 5 with fail
        refine wpIn_wide.2 ?_
        refine wp_region_flow 28 (Fresh wr) (fun w w' => Below w.heap.size w w') (by kernel_rfl) (by kernel_rfl) (by kernel_rfl) (fun w => Below.refl _ _) (Fresh.below hS0 (Below.drew (Below.refl _ _))) ?_
        simp only [List.take_succ_cons, List.take_zero, List.drop_succ_cons, List.drop_zero]
        repeat (first
          | (refine flow_skip rfl rfl wr ?_; intro K hK; go_big_quiet_op; go_big_quiet_on)
          | (refine flow_quiet (fun w => Below.refl _ _) rfl rfl rfl rfl ?_; intro K hK; go_big_quiet_op; go_big_quiet_on)
          | (refine flow_call Cf.out _ ?_ rfl rfl rfl _ M1.out wr ?_; (focus (simp only [List.map_toArray, List.map_cons, List.map_nil]; rfl)); intro K hK; go_big_quiet_op; go_big_quiet_on))
        refine flow_nil ?_
        intro W5 ff hW5 hF5
        simp only [fillW]
        simp only [wpList, Exit.then]
        go_at_K
        clear hF5
        have hj5 : J pre W5 := hJ _ _ _ none hj (only_of_below hW5 none) (by simp)
        have hb5 : KeepsS n₀ W W5 := hb.trans (KeepsS.of_below hle hW5)
        have cB5 := (hbs.below hW5 hbs.lt).cell 0
        simp at cB5
        clear kB cB hj hb hbs hle ne hS0 hW5
        obtain ⟨fn, tmps, assign, body, hy, hR⟩ := hY pre ⟨(k, c), hok⟩ W5 hj5 hlen
        dsimp only at hy
        have HP := Lib.hid hp
        have HPL := Lib.hid hpl
        have HK := Lib.hid hb5
        clear hY hlen hp hpl hb5 hj5
        gi_wp2
        refine hR.mono ?_
        rintro e W3 (⟨rfl, hJ3, hk3⟩ | ⟨rfl, hJx3⟩)
        · clear hy hR
          gi_wp2
          go_roundw
          case rel =>
            refine ⟨k + c, _, by omega, by go_num, ?_, hJ3, HK.out.trans hk3⟩
            rw [List.map_append, List.append_assoc, ← HP.out, HPL.out]
            rfl
          case measure => simp [intOf]; omega
        · clear hy hR
          gi_wp2
          first | go_end0 | refine bodyPost_ret (results_none rfl _ _ _) rfl ?_
          refine ⟨⟨_, rfl⟩, .inr ⟨_, ?_, hJx3⟩⟩
          rw [List.map_append, ← HP.out, HPL.out]
          exact ⟨placesAt L (k + c), by simp⟩
    · have hpl : placesAt L k = [] := places_end (by rintro ⟨h, _⟩; exact h1 h)
      have j1 : ¬ (k : Int) < (L.length : Int) := by omega
      rw [hpl, List.append_nil] at hp
      have Hp := Lib.hid hp
      clear hp
      have Hpl := Lib.hid hpl
      clear hpl
      clear hY ne hb hbs hle
      gi_wp2
      first | go_end0 | refine bodyPost_ret (results_none rfl _ _ _) rfl ?_
      exact ⟨⟨_, rfl⟩, .inl ⟨pre, Hp.out, hj⟩⟩
theorem each_stops (n₀ Bs : Nat) (x : ByteArray) (L : List UInt8) (hx : x.data.toList = L) (hm : L.length ≤ 1000) (w : World) (hw : n₀ ≤ w.heap.size) (hBs : Blk w Bs 9 #[.string x]) :
    SeqStopsK Fence.wide 2 Try.prog 94 #[.pointer (some ⟨Bs, 0, none⟩)] (fun x : PV L => #[Value.int .i64 (x.1.1 : Int), Value.int .i64 (x.1.2 : Int)]) (KeepsS n₀) (fun ys => ys.map (·.1) = placesAt L 0) (fun pre => pre.map (·.1) <+: placesAt L 0) (placesAt L 0).length w :=
  fun l J Jx W hW hJ _ hY h0 => by
    refine (each1_in n₀ Bs x L hx hm l J Jx W (Nat.le_trans hw hW.size) hJ hY (hBs.below hW hBs.lt) h0).mono ?_
    rintro e W' ⟨he, h | ⟨pre, hp, hx⟩⟩
    · exact ⟨he, .inl h⟩
    · exact ⟨he, .inr ⟨pre, hp, hx⟩⟩
end Go.Proofs.Ytengegcnocdkoaa
end
section
set_option maxRecDepth 20000
namespace Go.Proofs.Ytengegcnocdkoaa
open Go.RowKit Go.BigFrame Go.Shelf Go.Maps
theorem none_any (w : World) : Calls Try.prog 26 #[] w fun e w' => e = .returned (.agg #[.int .u16 0, .int .i64 (-1), .bool false, .slice none 0 0, .bool false, .int .u32 0, .int .u32 0]) ∧ Below w.heap.size w w' := by
  have hb0 : Below w.heap.size w w := Below.refl _ _
  have HB := Lib.hid hb0
  clear hb0
  go_enter Try.func26, Try.ntmps26
  go_upto_region 1 with fail
  have hr := Blk.new w 28 #[.int .u16 0, .int .i64 0, .bool false, .slice none 0 0, .bool false, .int .u32 0, .int .u32 0]
  have hB := HB.out.alloc HB.out.size (.cells #[.int .u16 0, .int .i64 0, .bool false, .slice none 0 0, .bool false, .int .u32 0, .int .u32 0] 28)
  clear HB
  obtain ⟨gr, hge⟩ : ∃ g, g = w.heap.size := ⟨_, rfl⟩
  rw [← hge] at hr ⊢
  have hle_r : w.heap.size ≤ gr := by omega
  clear hge
  generalize w.alloc _ = wn1 at *
  have Hr := Lib.hid hr
  clear hr
  have HB := Lib.hid hB
  clear hB
  have d0 := Hr.out.cell 0
  have d1 := Hr.out.cell 1
  have d2 := Hr.out.cell 2
  have d3 := Hr.out.cell 3
  have d4 := Hr.out.cell 4
  have d5 := Hr.out.cell 5
  have d6 := Hr.out.cell 6
  simp at d0 d1 d2 d3 d4 d5 d6
  have fr := Hr.out.frozen
  go_wp2
  generalize hWf : World.setCell _ _ _ = Wf
  have hf : Blk Wf gr 28 #[.int .u16 0, .int .i64 (-1), .bool false, .slice none 0 0, .bool false, .int .u32 0, .int .u32 0] := by
    rw [← hWf]
    have := ((((((Hr.out.set_ 0 (.int .u16 0)).set_ 1 (.int .i64 (-1))).set_ 2 (.bool false)).set_ 3 (.slice none 0 0)).set_ 4 (.bool false)).set_ 5 (.int .u32 0)).set_ 6 (.int .u32 0)
    simpa using this
  have hBf : Below w.heap.size w Wf := by
    rw [← hWf]
    repeat (refine Below.setCell ?_ hle_r _)
    exact HB.out
  clear hWf d0 d1 d2 d3 d4 d5 d6 fr
  have z0 := hf.cell 0
  have z1 := hf.cell 1
  have z2 := hf.cell 2
  have z3 := hf.cell 3
  have z4 := hf.cell 4
  have z5 := hf.cell 5
  have z6 := hf.cell 6
  simp at z0 z1 z2 z3 z4 z5 z6
  exact bodyPost_ret (v := .agg #[.int .u16 0, .int .i64 (-1), .bool false, .slice none 0 0, .bool false, .int .u32 0, .int .u32 0]) (by simp [results, Try.results26, go_sem, z0, z1, z2, z3, z4, z5, z6]) rfl ⟨rfl, hBf⟩
/-- which kinds were met -/
def metM (met : List Nat) : Lit → Option Value := fun kl => match kl with
  | .int .u8 i => if 0 ≤ i ∧ i.toNat ∈ met then some (.int .i64 1) else none
  | _ => none
theorem lawU8o : Keyed Try.prog 5 := int_keyed Try.underlying5
theorem keyU8o {n : Nat} (h : n < 256) : keyOf Try.prog 5 (.int .u8 (n : Int)) = some (.int .u8 (n : Int)) := keyOf_int_mk Try.underlying5 (by simp [Lit.wf, IntKind.min, IntKind.max, IntKind.signed, IntKind.bits]; omega)
theorem zeroInt (w : World) : (zeroValue 3).run Try.prog w = .ok (.int .i64 0) w := by kernel_rfl
theorem metM_at (met : List Nat) (n : Nat) : metM met (.int .u8 (n : Int)) = if n ∈ met then some (.int .i64 1) else none := by
  simp [metM]
theorem metM_upd (met : List Nat) (n : Nat) : updM (metM met) (.int .u8 (n : Int)) (some (.int .i64 1)) = metM (n :: met) := by
  funext kl
  by_cases h : kl = .int .u8 (n : Int)
  · subst h
    rw [updM_same, metM_at, if_pos List.mem_cons_self]
  · rw [updM_other _ _ h]
    cases kl with
    | int k i =>
      cases k with
      | u8 =>
        simp only [metM, List.mem_cons]
        by_cases hi : 0 ≤ i
        · have hne : i.toNat ≠ n := fun e => h (by rw [← e, Int.toNat_of_nonneg hi])
          simp [hi, hne]
        · simp [hi]
      | _ => rfl
    | _ => rfl
def blkC (p : Int × Int) : List Value := [.int .u32 p.1, .int .u32 p.2]
def optV (o : Op) (v : Value) : Array Value := #[.int .u16 (o.mss : Int), .int .i64 o.scale, .bool o.sack, v, .bool o.time, .int .u32 (o.val : Int), .int .u32 (o.echo : Int)]
/-- options in a block, their blocks in a row of the call's own -/
def OptAt (base go : Nat) (W : World) (o : Op) : Prop := ∃ v, W.ownsRow base 92 2 v o.bl.length (o.bl.flatMap blkC) ∧ Blk W go 28 (optV o v)
def DecI (w : World) (gs go ge gb gm : Nat) (x : ByteArray) (L : List UInt8) (pre : List (PV L)) (W : World) : Prop :=
  Below w.heap.size w W ∧ Blk W gs 9 #[.string x] ∧ Blk W ge 33 #[.int .i64 0] ∧ Blk W gb 107 #[.map (some gm)] ∧
    ∃ o met n, foldD L (pre.map (·.1)) (noneO, []) = some (o, met) ∧ OptAt w.heap.size go W o ∧ MapIs Try.prog 5 W gm n (metM met) ∧ n ≤ pre.length
def zeroV : Array Value := #[.int .u16 0, .int .i64 0, .bool false, .slice none 0 0, .bool false, .int .u32 0, .int .u32 0]
def DecX (w : World) (go ge : Nat) (L : List UInt8) (c : Code) (pre : List (PV L)) (W : World) : Prop :=
  c = .ret ∧ Below w.heap.size w W ∧ foldD L (pre.map (·.1)) (noneO, []) = none ∧ Blk W go 28 zeroV ∧ Blk W ge 33 #[.int .i64 70]
theorem blk_notrow {W W' : World} {row : Option Nat} {g : Nat} {t : TypeId} {cs : Array Value} (h : Blk W g t cs) (hg : W.grownBy W' row) (hr : ∀ r, row = some r → ∃ o : Obj, W.heap[r]? = some o ∧ o.isCells = false) : Blk W' g t cs :=
  h.grown hg (fun e => by
    obtain ⟨o, h1, h2⟩ := hr g e.symm
    rw [show W.heap[g]? = _ from h] at h1
    cases h1
    cases h2)
theorem own_notrow {W W' : World} {row : Option Nat} {base n size : Nat} {e : TypeId} {v : Value} {xs : List Value} (h : W.ownsRow base e size v n xs) (hg : W.grownBy W' row) (hr : ∀ r, row = some r → ∃ o : Obj, W.heap[r]? = some o ∧ o.isCells = false) : W'.ownsRow base e size v n xs := by
  refine h.kept hg ?_
  rcases h.2 with ⟨rfl, _⟩ | ⟨g, cap, cur, rfl, _, hgg, _⟩
  · exact .inl rfl
  · refine .inr (fun he => ?_)
    obtain ⟨o, h1, h2⟩ := hr g he.symm
    rw [hgg] at h1
    cases h1
    cases h2
theorem DecI.own {w w0 : World} {gs go ge gb gm : Nat} {x : ByteArray} {L : List UInt8} {B : Nat} (hw : w.heap.size ≤ B) (hgm : gm < B) : OwnFrom B (DecI w gs go ge gb gm x L) := by
  intro pre W W' row ⟨h1, h2, h3, h4, o, met, n, h5, ⟨v, h6, h7⟩, h8, h9⟩ hg hr
  have hr2 : ∀ r, row = some r → ∃ o : Obj, W.heap[r]? = some o ∧ o.isCells = false := fun r e => (hr r e).2
  refine ⟨ownFrom_below (Nat.le_refl _) hw pre W W' row h1 hg hr, blk_notrow h2 hg hr2, blk_notrow h3 hg hr2, blk_notrow h4 hg hr2, o, met, n, h5, ⟨v, own_notrow h6 hg hr2, blk_notrow h7 hg hr2⟩, h8.kept hg (fun e => ?_), h9⟩
  have := (hr gm e.symm).1
  omega
theorem DecX.own {w : World} {go ge : Nat} {L : List UInt8} {B : Nat} (hw : w.heap.size ≤ B) (c : Code) : OwnFrom B (DecX w go ge L c) := by
  intro pre W W' row ⟨h0, h1, h2, h3, h4⟩ hg hr
  have hr2 : ∀ r, row = some r → ∃ o : Obj, W.heap[r]? = some o ∧ o.isCells = false := fun r e => (hr r e).2
  exact ⟨h0, ownFrom_below (Nat.le_refl _) hw pre W W' row h1 hg hr, h2, blk_notrow h3 hg hr2, blk_notrow h4 hg hr2⟩
theorem keepsFrom_out {O : Nat → Prop} {B : Nat} {W W' : World} (h : Out O W W') (hO : ∀ i, O i → i < B ∨ ∃ cs t d, W.heap[i]? = some (.cells cs t d)) : KeepsFrom B W W' :=
  ⟨h.size, fun k o hB hk ho => (h.block k (Array.getElem?_eq_some_iff.1 hk).1 (fun hOk => by
    rcases hO k hOk with h1 | ⟨cs, t, d, h1⟩
    · omega
    · rw [hk] at h1; cases h1; cases ho)).trans hk⟩
theorem own_cells {W : World} {base n size : Nat} {e : TypeId} {v : Value} {xs : List Value} (h : W.ownsRow base e size v n xs) {i : Nat} (hi : v.ownBlock = some i) : base ≤ i ∧ ∃ cs, W.heap[i]? = some (.cells cs e (0, 0)) := by
  rcases h.2 with ⟨rfl, _⟩ | ⟨g, cap, cur, rfl, hb, hgg, _⟩
  · cases hi
  · cases hi
    exact ⟨hb, cur, hgg⟩
theorem map_not_blk {P : Program} {k : TypeId} {W : World} {b n g : Nat} {M : Lit → Option Value} {t : TypeId} {cs : Array Value} (h : MapIs P k W b n M) (hb : Blk W g t cs) : g ≠ b := by
  rintro rfl
  obtain ⟨es, cl, h1, _⟩ := h.size
  rw [show W.heap[g]? = _ from hb] at h1
  cases h1
/-- what a round may turn -/
def DecO (go gm : Nat) (v : Value) : Nat → Prop := fun i => i = go ∨ i = gm ∨ v.ownBlock = some i
theorem dec_next {w W W' : World} {gs go ge gb gm B n : Nat} {x : ByteArray} {L : List UInt8} {v : Value} {l : List (Int × Int)} {cs : Array Value} {M : Lit → Option Value} {pre' : List (PV L)}
    (hB : Below w.heap.size w W) (hs : Blk W gs 9 #[.string x]) (he : Blk W ge 33 #[.int .i64 0]) (hb : Blk W gb 107 #[.map (some gm)])
    (hv : W.ownsRow w.heap.size 92 2 v l.length (l.flatMap blkC)) (ho : Blk W go 28 cs) (hM : MapIs Try.prog 5 W gm n M)
    (h1 : w.heap.size ≤ go) (h2 : w.heap.size ≤ gm) (h3 : go < B) (h4 : gm < B) (hout : Out (DecO go gm v) W W')
    (hnew : ∃ o met n, foldD L (pre'.map (·.1)) (noneO, []) = some (o, met) ∧ OptAt w.heap.size go W' o ∧ MapIs Try.prog 5 W' gm n (metM met) ∧ n ≤ pre'.length) :
    KeepsFrom B W W' ∧ KeepsS w.heap.size W W' ∧ DecI w gs go ge gb gm x L pre' W' := by
  have hbase : ∀ i, DecO go gm v i → w.heap.size ≤ i := by
    rintro i (rfl | rfl | h)
    · exact h1
    · exact h2
    · exact (own_cells hv h).1
  have hty : ∀ {g : Nat} {t : TypeId} {cs' : Array Value}, Blk W g t cs' → t ≠ 28 → t ≠ 92 → Blk W' g t cs' := by
    intro g t cs' hg h5 h6
    refine (hout.block g hg.lt ?_).trans hg
    rintro (rfl | rfl | h)
    · have ho2 : W.heap[g]? = _ := ho
      rw [show W.heap[g]? = _ from hg] at ho2
      injection ho2 with e
      injection e with _ e
      exact h5 e
    · exact map_not_blk hM hg rfl
    · obtain ⟨_, c, hc⟩ := own_cells hv h
      rw [show W.heap[g]? = _ from hg] at hc
      injection hc with e
      injection e with _ e
      exact h6 e
  have hbw : Below w.heap.size W W' := hout.below hB.size (fun i hi h => by have := hbase i h; omega)
  refine ⟨keepsFrom_out hout ?_, ⟨hbw, fun i cs' hi => hty hi (by decide) (by decide)⟩, hB.trans hbw, hty hs (by decide) (by decide), hty he (by decide) (by decide), hty hb (by decide) (by decide), hnew⟩
  rintro i (rfl | rfl | h)
  · exact .inl h3
  · exact .inl h4
  · obtain ⟨_, c, hc⟩ := own_cells hv h
    exact .inr ⟨_, _, _, hc⟩
theorem dec_stop {w W W' : World} {go ge gm B : Nat} {L : List UInt8} {v : Value} {l : List (Int × Int)} {pre' : List (PV L)}
    (hB : Below w.heap.size w W) (hv : W.ownsRow w.heap.size 92 2 v l.length (l.flatMap blkC))
    (h1 : w.heap.size ≤ go) (h2 : w.heap.size ≤ gm) (h5 : w.heap.size ≤ ge) (h3 : go < B) (h4 : gm < B) (h6 : ge < B) (hout : Out (fun i => DecO go gm v i ∨ i = ge) W W')
    (hf : foldD L (pre'.map (·.1)) (noneO, []) = none) (ho : Blk W' go 28 zeroV) (he : Blk W' ge 33 #[.int .i64 70]) :
    KeepsFrom B W W' ∧ DecX w go ge L .ret pre' W' := by
  have hbase : ∀ i, (DecO go gm v i ∨ i = ge) → w.heap.size ≤ i := by
    rintro i ((rfl | rfl | h) | rfl)
    · exact h1
    · exact h2
    · exact (own_cells hv h).1
    · exact h5
  have hbw : Below w.heap.size W W' := hout.below hB.size (fun i hi h => by have := hbase i h; omega)
  refine ⟨keepsFrom_out hout ?_, rfl, hB.trans hbw, hf, ho, he⟩
  rintro i ((rfl | rfl | h) | rfl)
  · exact .inl h3
  · exact .inl h4
  · obtain ⟨_, c, hc⟩ := own_cells hv h
    exact .inr ⟨_, _, _, hc⟩
  · exact .inl h6
theorem places_len (L : List UInt8) : ∀ (f i : Nat), (placesF f L i).length ≤ f := by
  intro f
  induction f with
  | zero => intro i; simp [placesF]
  | succ f ih =>
    intro i
    simp only [placesF]
    split
    · split
      · have := ih (i + 1); omega
      · rw [List.length_cons]
        split
        · simp
        · have := ih (i + stepN L i); omega
    · simp
theorem blocksF_eq : ∀ (f g : Nat) (B : List UInt8), B.length ≤ f → B.length ≤ g → blocksF f B = blocksF g B := by
  intro f
  induction f with
  | zero =>
    intro g B h _
    have : B = [] := List.length_eq_zero_iff.1 (by omega)
    subst this
    cases g <;> simp [blocksF]
  | succ f ih =>
    intro g B hf hg
    cases g with
    | zero =>
      have : B = [] := List.length_eq_zero_iff.1 (by omega)
      subst this
      simp [blocksF]
    | succ g =>
      simp only [blocksF]
      by_cases hB : B = []
      · rw [if_pos hB, if_pos hB]
      · rw [if_neg hB, if_neg hB]
        have hl : 0 < B.length := List.length_pos_iff.2 hB
        rw [ih g (B.drop 8) (by rw [List.length_drop]; omega) (by rw [List.length_drop]; omega)]
def blocksL (B : List UInt8) : List (Int × Int) := blocksF B.length B
theorem blocksL_nil : blocksL [] = [] := rfl
theorem blocksL_step {B : List UInt8} (h : B ≠ []) : blocksL B = (((numL (B.take 4) : Nat) : Int), ((numL ((B.drop 4).take 4) : Nat) : Int)) :: blocksL (B.drop 8) := by
  have hl : 0 < B.length := List.length_pos_iff.2 h
  obtain ⟨n, hn⟩ : ∃ n, B.length = n + 1 := ⟨B.length - 1, by omega⟩
  unfold blocksL
  rw [hn]
  simp only [blocksF]
  rw [if_neg h]
  congr 1
  exact blocksF_eq _ _ _ (by rw [List.length_drop]; omega) (Nat.le_refl _)
theorem infoBo : (Try.prog.info? 92).map (fun i => (i.zero, i.size, i.bytes)) = some (some (.agg #[.int .u32 0, .int .u32 0]), 2, 8) := by kernel_rfl
theorem foldD_append (L : List UInt8) (l m : List (Nat × Nat)) (st : Op × List Nat) : foldD L (l ++ m) st = (foldD L l st).bind fun s => foldD L m s := by
  unfold foldD
  rw [List.foldlM_append]
  rfl
theorem blocksF_len : ∀ (f : Nat) (B : List UInt8), (blocksF f B).length ≤ f := by
  intro f
  induction f with
  | zero => intro B; simp [blocksF]
  | succ f ih =>
    intro B
    simp only [blocksF]
    split
    · simp
    · rw [List.length_cons]
      have := ih (B.drop 8)
      omega
theorem body_len (L : List UInt8) (p : Nat × Nat) : (bodyL L p).length ≤ L.length := by
  unfold bodyL
  rw [List.length_take, List.length_drop]
  omega
theorem takeP_bl {L : List UInt8} {o o2 : Op} {p : Nat × Nat} (h : takeP L o p = some o2) : o2.bl.length ≤ o.bl.length + L.length := by
  unfold takeP at h
  simp only at h
  split at h
  · split at h
    · cases h
    · cases h; simp
  split at h
  · cases h; simp
  split at h
  · cases h; simp
  split at h
  · cases h; simp
  split at h
  · cases h
    have h1 := blocksF_len (bodyL L p).length (bodyL L p)
    have h2 := body_len L p
    simp only [List.length_append]
    omega
  · cases h; simp
theorem fold_bl (L : List UInt8) : ∀ (l : List (Nat × Nat)) (st : Op × List Nat) (o : Op) (met : List Nat), foldD L l st = some (o, met) → o.bl.length ≤ st.1.bl.length + L.length * l.length := by
  intro l
  induction l with
  | nil =>
    intro st o met h
    have : some st = some (o, met) := h
    cases this
    simp
  | cons p l ih =>
    intro st o met h
    have h1 : (stepD L st p).bind (fun s => foldD L l s) = some (o, met) := by
      unfold foldD at h
      rw [List.foldlM_cons] at h
      exact h
    cases hs : stepD L st p with
    | none => rw [hs] at h1; cases h1
    | some s2 =>
      rw [hs] at h1
      have h2 := ih s2 o met h1
      unfold stepD at hs
      split at hs
      · cases hs
      · cases ht : takeP L st.1 p with
        | none => rw [ht] at hs; cases hs
        | some o2 =>
          rw [ht] at hs
          cases hs
          have h3 := takeP_bl ht
          simp only [List.length_cons] at *
          rw [Nat.mul_succ]
          omega
end Go.Proofs.Ytengegcnocdkoaa
end
section
set_option maxRecDepth 20000
namespace Go.Proofs.Ytengegcnocdkoaa
open Go.RowKit Go.BigFrame
def encR (o : Op) : ByteArray × Int := if mayB o = true then (⟨(rawL o).toArray⟩, 0) else (⟨#[]⟩, 2)
theorem mayB_parts {o : Op} (h : mayB o = true) : -1 ≤ o.scale ∧ o.scale ≤ 14 ∧ o.bl.length ≤ 4 ∧ (rawL o).length ≤ 40 := by
  unfold mayB at h
  simp only [Bool.and_eq_true, decide_eq_true_eq] at h
  exact ⟨h.1, h.2.1, h.2.2.1, h.2.2.2.2⟩
set_option maxHeartbeats 2000000 in
theorem enc_any (w : World) (o : Op) (A : Option Addr) (c : Nat) (ho : o.wf) (hr : BlR w A o.bl) (hn : o.bl.length ≤ 1000) :
    Calls Try.prog 27 #[.agg (optC o A c)] w fun e w' => e = .returned (.tuple #[.string (encR o).1, .int .i64 (encR o).2]) ∧ Below w.heap.size w w' := by
  have hmy := fun W (h : BlR W A o.bl) => may_any W o A c ho h hn
  have hrw := fun (h : mayB o = true) W (h2 : BlR W A o.bl) => raw_any W o A c (ho.ok (mayB_parts h).1 (mayB_parts h).2.1) h2 (mayB_parts h).2.2.1
  have hE : encR o = if mayB o = true then (⟨(rawL o).toArray⟩, 0) else (⟨#[]⟩, 2) := rfl
  generalize encR o = E at *
  obtain ⟨R, hR⟩ : ∃ R, R = (⟨(rawL o).toArray⟩ : ByteArray) := ⟨_, rfl⟩
  rw [← hR] at hE
  simp only [← hR] at hrw
  generalize mayB o = mb at *
  have hb0 : Below w.heap.size w w := Below.refl _ _
  have HB := Lib.hid hb0
  clear hb0 hn ho
  unfold optC at *
  generalize (o.mss : Int) = m at *
  generalize (o.val : Int) = vl at *
  generalize (o.echo : Int) = ec at *
  generalize o.scale = sc at *
  generalize o.sack = sk at *
  generalize o.time = tm at *
  generalize hl : o.bl = l at *
  generalize l.length = n at *
  clear hl
  have Hmy := Lib.hid hmy
  clear hmy
  have Hrw := Lib.hid hrw
  clear hrw
  have HE := Lib.hid hE
  clear hE
  have HR := Lib.hid hR
  clear hR
  have Hr := Lib.hid hr
  clear hr
  go_enter Try.func27, Try.ntmps27
  go_upto_region 1 with fail
  have hq := Blk.new w 28 #[.int .u16 m, .int .i64 sc, .bool sk, .slice A n c, .bool tm, .int .u32 vl, .int .u32 ec]
  have hB := HB.out.alloc HB.out.size (.cells #[.int .u16 m, .int .i64 sc, .bool sk, .slice A n c, .bool tm, .int .u32 vl, .int .u32 ec] 28)
  clear HB
  obtain ⟨gq, hge⟩ : ∃ g, g = w.heap.size := ⟨_, rfl⟩
  rw [← hge] at hq ⊢
  clear hge
  generalize w.alloc _ = w1 at *
  have Hq := Lib.hid hq
  clear hq
  have HB := Lib.hid hB
  clear hB
  have c0 := Hq.out.cell 0
  have c1 := Hq.out.cell 1
  have c2 := Hq.out.cell 2
  have c3 := Hq.out.cell 3
  have c4 := Hq.out.cell 4
  have c5 := Hq.out.cell 5
  have c6 := Hq.out.cell 6
  simp at c0 c1 c2 c3 c4 c5 c6
  go_wp2_with fail
  (with_reducible refine (Hmy.out _ (Hr.out.below HB.out)).mono ?_)
  rintro e w2 ⟨rfl, hbq⟩
  have hq := Hq.out.below hbq Hq.out.lt
  clear Hq
  have Hq := Lib.hid hq
  clear hq
  have hB := HB.out.trans (hbq.mono HB.out.size)
  clear HB
  have HB := Lib.hid hB
  clear hB
  clear hbq
  cases mb with
  | false =>
    go_wp2
    go_ret2
    have e : E = (⟨#[]⟩, 2) := HE.out
    rw [e]
    exact ⟨rfl, HB.out⟩
  | true =>
    clear c0 c1 c2 c3 c4 c5 c6
    have d0 := Hq.out.cell 0
    have d1 := Hq.out.cell 1
    have d2 := Hq.out.cell 2
    have d3 := Hq.out.cell 3
    have d4 := Hq.out.cell 4
    have d5 := Hq.out.cell 5
    have d6 := Hq.out.cell 6
    simp at d0 d1 d2 d3 d4 d5 d6
    go_wp2_with fail
    (with_reducible refine (Hrw.out trivial _ (Hr.out.below HB.out)).mono ?_)
    rintro e w3 ⟨rfl, hbq⟩
    have hq := Hq.out.below hbq Hq.out.lt
    clear Hq
    have Hq := Lib.hid hq
    clear hq
    have hB := HB.out.trans (hbq.mono HB.out.size)
    clear HB
    have HB := Lib.hid hB
    clear hB
    clear hbq
    go_wp2
    go_ret2
    have e : E = (R, 0) := HE.out
    rw [e]
    exact ⟨rfl, HB.out⟩
end Go.Proofs.Ytengegcnocdkoaa
end
