/- Layer 7 (opt): which bytes options have. -/
import Derived.Test.YtimepplfaaddeaaOptHigh
import Derived.Test.YtimepplfaaddeaaFlowV
import Derived.Deep.DeepCutAuto
import Derived.Lib.MinMax
set_option linter.unusedVariables false
set_option linter.unusedSimpArgs false
namespace Go.Proofs.Ytimepplfaaddeaa
open Go.RowKit Go.BigFrame

/-- the blocks of options, in memory -/
def BlR (w : World) (A : Option Addr) (l : List (Int × Int)) : Prop :=
  l = [] ∨ ∃ rb off, A = some ⟨rb, off, none⟩ ∧ rb < w.heap.size ∧ ∀ j p, l[j]? = some p → w.cell? ⟨rb, off + j * 2, none⟩ = some (.int .u32 p.1) ∧ w.cell? ⟨rb, off + j * 2 + 1, none⟩ = some (.int .u32 p.2)
theorem BlR.below {w w' : World} {A : Option Addr} {l : List (Int × Int)} (h : BlR w A l) (hb : Below w.heap.size w w') : BlR w' A l := by
  rcases h with rfl | ⟨rb, off, rfl, h1, h2⟩
  · exact .inl rfl
  · exact .inr ⟨rb, off, rfl, Nat.lt_of_lt_of_le h1 hb.size, fun j p hj => ⟨(hb.cell (p := ⟨rb, off + j * 2, none⟩) h1).trans (h2 j p hj).1, (hb.cell (p := ⟨rb, off + j * 2 + 1, none⟩) h1).trans (h2 j p hj).2⟩⟩
/-- options -/
structure Op where
  mss : Nat
  scale : Int
  sack : Bool
  bl : List (Int × Int)
  time : Bool
  val : Nat
  echo : Nat
structure Op.ok (o : Op) : Prop where
  mss : o.mss < 65536
  scale : -1 ≤ o.scale ∧ o.scale ≤ 14
  val : o.val < 4294967296
  echo : o.echo < 4294967296
  bl : ∀ p ∈ o.bl, (0 ≤ p.1 ∧ p.1 ≤ 4294967295) ∧ 0 ≤ p.2 ∧ p.2 ≤ 4294967295
def mssL (o : Op) : List UInt8 := if o.mss = 0 then [] else [2, 4] ++ be2 o.mss
def scaleL (o : Op) : List UInt8 := if o.scale < 0 then [] else [1, 3, 3, UInt8.ofNat o.scale.toNat]
def sackL (o : Op) : List UInt8 := if o.sack then [1, 1, 4, 2] else []
def timeL (o : Op) : List UInt8 := if o.time then [1, 1, 8, 10] ++ (be4 o.val ++ be4 o.echo) else []
def bheadL (n : Nat) : List UInt8 := if n = 0 then [] else [1, 1, 5, UInt8.ofNat (2 + 8 * n)]
def blksL (l : List (Int × Int)) : List UInt8 := l.flatMap fun p => be4 p.1.toNat ++ be4 p.2.toNat
def rawL (o : Op) : List UInt8 := mssL o ++ scaleL o ++ sackL o ++ timeL o ++ bheadL o.bl.length ++ blksL o.bl
def optN (o : Op) (A : Option Addr) (n c : Nat) : Array Value := #[.int .u16 (o.mss : Int), .int .i64 o.scale, .bool o.sack, .slice A n c, .bool o.time, .int .u32 (o.val : Int), .int .u32 (o.echo : Int)]
def optC (o : Op) (A : Option Addr) (c : Nat) : Array Value := #[.int .u16 (o.mss : Int), .int .i64 o.scale, .bool o.sack, .slice A o.bl.length c, .bool o.time, .int .u32 (o.val : Int), .int .u32 (o.echo : Int)]
theorem cat_str (a b : List UInt8) : (⟨a.toArray⟩ : ByteArray) ++ ⟨b.toArray⟩ = ⟨(a ++ b).toArray⟩ := by
  apply ByteArray.ext
  rw [ByteArray.data_append]
  simp
theorem new_str {W : World} {u : Value} (l : List UInt8) (cs : Array Value) (n : Nat) (hn : n = l.length) (hc : cs = (l.map u8v).toArray) (h : newRow 5 cs n [u] W) : (convert 46 9 u).run Try.prog W = .ok (.string ⟨l.toArray⟩) W := by
  obtain ⟨g, e, hk⟩ := h
  injection e with e
  subst e hn hc
  refine run_bytes_back W ⟨g, 0, none⟩ _ _ l rfl ?_
  intro j hj
  rw [add_plain, Nat.zero_add, hk.cell j]
  simp [List.getElem?_eq_getElem hj, u8v]
/-- the class of worlds in which options lie -/
def OptS (W1 : World) (g : Nat) (cs : Array Value) (W : World) : Prop := Below W1.heap.size W1 W ∧ Blk W g 26 cs
theorem OptS.below {W1 : World} {g : Nat} {cs : Array Value} (w w' : World) (h : OptS W1 g cs w) (hb : Below w.heap.size w w') : OptS W1 g cs w' := ⟨h.1.trans (hb.mono h.1.size), h.2.below hb h.2.lt⟩
theorem OptS.drew {W1 : World} {g : Nat} {cs : Array Value} {w : World} (h : OptS W1 g cs w) : OptS W1 g cs w.drew := ⟨h.1.drew, h.2.drew⟩
theorem flow_str2 (a b : List UInt8) : (⟨#[]⟩ : ByteArray) ++ (⟨a.toArray⟩ ++ ⟨b.toArray⟩) = ⟨(a ++ b).toArray⟩ := by
  rw [show (⟨#[]⟩ : ByteArray) = ⟨([] : List UInt8).toArray⟩ from rfl, cat_str, cat_str, List.nil_append]
theorem conv_new (W : World) (l : List UInt8) (n : Nat) (cs : Array Value) (hn : n = l.length) (hc : cs = (l.map u8v).toArray) : (convert 46 9 (.slice (some ⟨W.heap.size, 0, none⟩) n n)).run Try.prog (W.alloc (.cells cs 5)) = .ok (.string ⟨l.toArray⟩) (W.alloc (.cells cs 5)) :=
  new_str l cs n hn hc ⟨_, rfl, Blk.new _ _ _⟩
theorem high32_new {S : World → Prop} (hS : ∀ w w', S w → Below w.heap.size w w' → S w') (xs : List Nat) (n : Nat) (N : Nat) (cs : Array Value) (hx : ∀ x ∈ xs, x < 4294967296) (hcs : cs = (xs.map fun (x : Nat) => Value.int .u32 (x : Int)).toArray) (hlen : xs.length ≤ 1000) (hp : xs ≠ []) (hN : N = xs.length) (x : Cls S) (u : Value) (h : newRow 24 cs N [u] x.w) :
    Calls Try.prog 31 #[.int .i64 4, u] x.w fun e w'' => e = .returned (.string ⟨(xs.flatMap be4).toArray⟩) ∧ S w'' ∧ Below x.w.heap.size x.w w'' := by
  obtain ⟨g', e, hk⟩ := h
  injection e with e
  subst e hN
  refine (ohigh32 x.w g' xs cs hx hcs hk hlen hp).mono ?_
  rintro e w'' ⟨rfl, hb⟩
  exact ⟨rfl, hS _ _ x.h hb, hb⟩
def RawRel (W1 : World) (g : Nat) (o : Op) (A : Option Addr) (n c : Nat) (L : List UInt8) (k : Nat) (s : Value) (wr : World) : Prop := k ≤ n ∧ s = .string ⟨(L ++ blksL (o.bl.take k)).toArray⟩ ∧ OptS W1 g (optN o A n c) wr
theorem blkB_ (w : World) (o : Obj) (t : TypeId) (cs : Array Value) : Blk ((w.alloc o).alloc (.cells cs t)) (w.heap.size + 1) t cs := by
  have := Blk.new (w.alloc o) t cs
  rwa [World.size_alloc] at this
theorem blks_len : ∀ l : List (Int × Int), (blksL l).length = 8 * l.length
  | [] => rfl
  | p :: r => by
    have h1 : blksL (p :: r) = (be4 p.1.toNat ++ be4 p.2.toNat) ++ blksL r := rfl
    rw [h1, List.length_append, blks_len r, List.length_cons]
    simp [be4]
    omega
set_option maxRecDepth 100000 in
set_option maxHeartbeats 4000000 in
theorem raw_any (w : World) (o : Op) (A : Option Addr) (c : Nat) (ho : o.ok) (hr : BlR w A o.bl) (hn : o.bl.length ≤ 4) :
    Calls Try.prog 22 #[.agg (optC o A c)] w fun e w' => e = .returned (.string ⟨(rawL o).toArray⟩) ∧ Below w.heap.size w w' := by
  obtain ⟨n, hne⟩ : ∃ n, n = o.bl.length := ⟨_, rfl⟩
  unfold optC
  rw [← hne]
  have i1 : (n : Int) ≤ 4 := by omega
  have i2 : (0 : Int) ≤ (n : Int) := by omega
  have hb0 : Below w.heap.size w (w.alloc (.cells (optN o A n c) 26)) := (Below.refl _ _).alloc (Nat.le_refl _) _
  have hS0 : OptS (w.alloc (.cells (optN o A n c) 26)) w.heap.size (optN o A n c) (w.alloc (.cells (optN o A n c) 26)) := ⟨Below.refl _ _, Blk.new _ _ _⟩
  have hR0 := hr.below hb0
  unfold optN at hS0 hb0 hR0
  have HO := Lib.hid ho
  have HN := Lib.hid hne
  clear ho hr hne hn
  go_enter Try.func22, Try.ntmps22
  go_upto_region 1 with fail
  obtain ⟨g, hg⟩ : ∃ g, g = w.heap.size := ⟨_, rfl⟩
  generalize hW1 : w.alloc _ = W1 at *
  rw [← hg] at hS0 ⊢
  clear hg hW1
  have hS0 : OptS W1 g (optN o A n c) W1 := hS0
  have HB := Lib.hid hb0
  have HS := Lib.hid hS0
  have HR := Lib.hid hR0
  have c0 := hS0.2.cell 0
  simp [optN] at c0
  clear hb0 hS0 hR0
  obtain ⟨m, hm⟩ : ∃ m : Int, m = (o.mss : Int) := ⟨_, rfl⟩
  obtain ⟨sc, hsc⟩ : ∃ sc : Int, sc = o.scale := ⟨_, rfl⟩
  obtain ⟨sk, hsk⟩ : ∃ sk, sk = o.sack := ⟨_, rfl⟩
  obtain ⟨tm, htm⟩ : ∃ tm, tm = o.time := ⟨_, rfl⟩
  obtain ⟨vl, hvl⟩ : ∃ vl : Int, vl = (o.val : Int) := ⟨_, rfl⟩
  obtain ⟨ec, hec⟩ : ∃ ec : Int, ec = (o.echo : Int) := ⟨_, rfl⟩
  have i3 : sc ≤ 14 := by rw [hsc]; exact HO.out.scale.2
  rw [← hm, ← hsc, ← hsk, ← htm, ← hvl, ← hec]
  rw [← hm] at c0
  have Hm := Lib.hid hm
  clear hm
  have Hsc := Lib.hid hsc
  clear hsc
  have Hsk := Lib.hid hsk
  clear hsk
  have Htm := Lib.hid htm
  clear htm
  have Hvl := Lib.hid hvl
  clear hvl
  have Hec := Lib.hid hec
  clear hec
  go_upto_if 7 with fail
  go_cut [2] from 8 to 16 (fun s wx => s = .string ⟨(mssL o).toArray⟩ ∧ OptS W1 g (optN o A n c) wx)
  case first =>
    by_cases h : m = 0
    · have h1 : (m != 0) = false := by simp [h]
      have hm0 : mssL o = [] := by unfold mssL; rw [if_pos (by have := Hm.out; omega)]
      have Hm0 := Lib.hid hm0
      clear h hm0
      go_wp2_with fail
      go_meet
      case rel => exact ⟨by rw [Hm0.out], HS.out⟩
    · have h1 : (m != 0) = true := by simp [h]
      have hm0 : mssL o = [2, 4] ++ be2 o.mss := by unfold mssL; rw [if_neg (by have := Hm.out; omega)]
      have ne : Nonempty (Cls (OptS W1 g (optN o A n c))) := ⟨⟨W1, HS.out⟩⟩
      have k0 : ∀ y : Cls (OptS W1 g (optN o A n c)), y.w.cell? ⟨g, 0, none⟩ = some (.int .u16 m) := fun y => by rw [y.h.2.cell 0, Hm.out]; rfl
      have cf : ∀ (vals : Array Value) (w : World), (callFunc 33 vals).run Try.prog w = .ok (.enter 33 vals) w := fun _ _ => by kernel_rfl
      have r1 : ∀ W : World, (Instr.buildSlice 46 2 #[(0, .int .u8 2), (1, .int .u8 4)]).run Try.prog W = .ok (.slice (some ⟨W.heap.size, 0, none⟩) 2 2) (W.alloc (.cells #[.int .u8 2, .int .u8 4] 5)) := fun _ => by kernel_rfl
      have r2 : ∀ W : World, (Instr.buildSlice 77 1 #[(0, .int .u16 m)]).run Try.prog W = .ok (.slice (some ⟨W.heap.size, 0, none⟩) 1 1) (W.alloc (.cells #[.int .u16 m] 22)) := fun _ => by kernel_rfl
      have q1 : ∀ u W, newRow 5 #[.int .u8 2, .int .u8 4] 2 [u] W → (convert 46 9 u).run Try.prog W = .ok (.string ⟨#[2, 4]⟩) W := fun u W h => new_str [2, 4] _ 2 rfl rfl h
      have hcl : ∀ (x : Cls (OptS W1 g (optN o A n c))) (u : Value), newRow 22 #[.int .u16 m] 1 [u] x.w → Calls Try.prog 33 #[.int .i64 2, u] x.w fun e w'' => e = .returned (.string ⟨(be2 o.mss).toArray⟩) ∧ OptS W1 g (optN o A n c) w'' ∧ Below x.w.heap.size x.w w'' := by
        rintro x u ⟨g', e, hk⟩
        injection e with e
        subst e
        refine (ohigh16 x.w g' [o.mss] _ (by intro y hy; simp at hy; subst hy; exact HO.out.mss) (by rw [Hm.out]; rfl) hk (by simp) (by simp)).mono ?_
        rintro e w'' ⟨rfl, hb⟩
        exact ⟨by simp, OptS.below _ _ x.h hb, hb⟩
      have z2 : (be2 o.mss).length = 2 := rfl
      have Cf := Lib.hid cf
      clear cf
      have R1 := Lib.hid r1
      clear r1
      have R2 := Lib.hid r2
      clear r2
      have Q1 := Lib.hid q1
      clear q1
      have Hcl := Lib.hid hcl
      clear hcl
      have Hm0 := Lib.hid hm0
      clear hm0
      clear h
      go_upto_region 2 with fail
      refine wp_region_flow 10 (OptS W1 g (optN o A n c)) (fun w w' => Below w.heap.size w w') (by kernel_rfl) (by kernel_rfl) (by kernel_rfl) (fun w => Below.refl _ _) HS.out.drew ?_
      simp only [List.take_succ_cons, List.take_zero, List.drop_succ_cons, List.drop_zero]
      refine flow_quiet (fun w => Below.refl _ _) rfl rfl rfl rfl ?_; intro K hK; go_big_quiet_op; go_big_quiet_on
      refine flow_build (E := 5) _ ?_ _ R1.out OptS.below rfl rfl rfl W1 ?_
      focus (simp only [List.map_toArray, List.map_cons, List.map_nil]; rfl)
      intro K hK; go_big_quiet_op; go_big_quiet_on
      refine flow_conv (.string ⟨#[2, 4]⟩) 0 rfl rfl rfl (by simp) (fun w => Below.refl _ _) Q1.out rfl rfl W1 ?_
      intro K hK; go_big_quiet_op; go_big_quiet_on
      refine flow_quiet (fun w => Below.refl _ _) rfl rfl rfl rfl ?_; intro K hK; go_big_quiet_op; go_big_quiet_on
      refine flow_quiet (fun w => Below.refl _ _) rfl rfl rfl rfl ?_; intro K hK; go_big_quiet_op; go_big_quiet_on
      refine flow_build (E := 22) _ ?_ _ R2.out OptS.below rfl rfl rfl W1 ?_
      focus (simp only [List.map_toArray, List.map_cons, List.map_nil]; rfl)
      intro K hK; go_big_quiet_op; go_big_quiet_on
      refine flow_callY Cf.out (.string ⟨(be2 o.mss).toArray⟩) (fun u => #[.int .i64 2, u]) 0 rfl rfl (fun f' => rfl) Hcl.out rfl rfl W1 ?_
      intro K hK; go_big_quiet_op; go_big_quiet_on
      repeat (refine flow_quiet (fun w => Below.refl _ _) rfl rfl rfl rfl ?_; intro K hK; go_big_quiet_op; go_big_quiet_on)
      refine flow_nil ?_
      intro W f hW hF
      clear hF
      simp only [fillW, Act.put, List.setIfInBounds_toArray, List.set_cons_succ, List.set_cons_zero]
      go_wp2_with fail
      go_meet
      case rel => exact ⟨by rw [Hm0.out, show (⟨#[2, 4]⟩ : ByteArray) = ⟨[2, 4].toArray⟩ from rfl, flow_str2], hW⟩
  case rest =>
    obtain ⟨rfl, hS⟩ := hcut
    obtain ⟨L1, hL1⟩ : ∃ L1, L1 = mssL o := ⟨_, rfl⟩
    have hz1 : L1.length ≤ 4 := by rw [hL1]; unfold mssL; split <;> simp [be2]
    rw [← hL1]
    have c1 := hS.2.cell 1
    simp [optN] at c1
    rw [← Hsc.out] at c1
    have HL1 := Lib.hid hL1
    have HS := Lib.hid hS
    clear hL1 hS c0
    go_upto_if 19 with fail
    go_cut [2] from 20 to 26 (fun s wx => s = .string ⟨(L1 ++ scaleL o).toArray⟩ ∧ OptS W1 g (optN o A n c) wx)
    case first =>
      by_cases h : 0 ≤ sc
      · have hcv := conv_new wc [1, 3, 3, UInt8.ofNat sc.toNat] 4 #[.int .u8 1, .int .u8 3, .int .u8 3, .int .u8 sc] rfl (by simp [u8v]; omega)
        have hs0 : scaleL o = [1, 3, 3, UInt8.ofNat sc.toNat] := by unfold scaleL; rw [if_neg (by have := Hsc.out; omega), Hsc.out]
        have hW := OptS.below _ _ HS.out ((Below.refl wc.heap.size wc).alloc (Nat.le_refl _) (.cells #[.int .u8 1, .int .u8 3, .int .u8 3, .int .u8 sc] 5))
        have Hs0 := Lib.hid hs0
        clear hs0
        have HW := Lib.hid hW
        clear hW
        go_wp2_with fail
        go_meet
        case rel => exact ⟨by rw [Hs0.out]; exact congrArg Value.string (cat_str _ _), HW.out⟩
      · have hs0 : scaleL o = [] := by unfold scaleL; rw [if_pos (by have := Hsc.out; omega)]
        have Hs0 := Lib.hid hs0
        clear hs0
        go_wp2_with fail
        go_meet
        case rel => exact ⟨by rw [Hs0.out, List.append_nil], HS.out⟩
    case rest =>
      clear HS c1
      obtain ⟨rfl, hS⟩ := hcut
      obtain ⟨L2, hL2⟩ : ∃ L2, L2 = L1 ++ scaleL o := ⟨_, rfl⟩
      have hz2 : L2.length ≤ 8 := by
        have h1 : (scaleL o).length ≤ 4 := by unfold scaleL; split <;> simp
        rw [hL2, List.length_append]
        omega
      rw [← hL2]
      have c2 := hS.2.cell 2
      simp [optN] at c2
      rw [← Hsk.out] at c2
      have HL2 := Lib.hid hL2
      have HS := Lib.hid hS
      clear hL2 hS hz1
      go_upto_if 28 with fail
      go_cut [2] from 29 to 32 (fun s wx => s = .string ⟨(L2 ++ sackL o).toArray⟩ ∧ OptS W1 g (optN o A n c) wx)
      case first =>
        cases sk with
        | true =>
          have hcv := conv_new wc [1, 1, 4, 2] 4 #[.int .u8 1, .int .u8 1, .int .u8 4, .int .u8 2] rfl rfl
          have hs0 : sackL o = [1, 1, 4, 2] := by unfold sackL; rw [← Hsk.out]; rfl
          have hW := OptS.below _ _ HS.out ((Below.refl wc.heap.size wc).alloc (Nat.le_refl _) (.cells #[.int .u8 1, .int .u8 1, .int .u8 4, .int .u8 2] 5))
          have Hs0 := Lib.hid hs0
          clear hs0
          have HW := Lib.hid hW
          clear hW
          go_wp2_with fail
          go_meet
          case rel => exact ⟨by rw [Hs0.out]; exact congrArg Value.string (cat_str _ _), HW.out⟩
        | false =>
          have hs0 : sackL o = [] := by unfold sackL; rw [← Hsk.out]; rfl
          have Hs0 := Lib.hid hs0
          clear hs0
          go_wp2_with fail
          go_meet
          case rel => exact ⟨by rw [Hs0.out, List.append_nil], HS.out⟩
      case rest =>
        clear HS c2
        obtain ⟨rfl, hS⟩ := hcut
        obtain ⟨L3, hL3⟩ : ∃ L3, L3 = L2 ++ sackL o := ⟨_, rfl⟩
        have hz3 : L3.length ≤ 12 := by
          have h1 : (sackL o).length ≤ 4 := by unfold sackL; split <;> simp
          rw [hL3, List.length_append]
          omega
        rw [← hL3]
        have c4 := hS.2.cell 4
        simp [optN] at c4
        rw [← Htm.out] at c4
        have HL3 := Lib.hid hL3
        have HS := Lib.hid hS
        clear hL3 hS hz2
        go_upto_if 34 with fail
        go_cut [2] from 35 to 45 (fun s wx => s = .string ⟨(L3 ++ timeL o).toArray⟩ ∧ OptS W1 g (optN o A n c) wx)
        case first =>
          cases tm with
          | true =>
            have hs0 : timeL o = [1, 1, 8, 10] ++ ([o.val, o.echo].flatMap be4) := by unfold timeL; rw [← Htm.out]; rfl
            have ne : Nonempty (Cls (OptS W1 g (optN o A n c))) := ⟨⟨wc, HS.out⟩⟩
            have k5 : ∀ y : Cls (OptS W1 g (optN o A n c)), y.w.cell? ⟨g, 5, none⟩ = some (.int .u32 vl) := fun y => by rw [y.h.2.cell 5, Hvl.out]; rfl
            have k6 : ∀ y : Cls (OptS W1 g (optN o A n c)), y.w.cell? ⟨g, 6, none⟩ = some (.int .u32 ec) := fun y => by rw [y.h.2.cell 6, Hec.out]; rfl
            have cf : ∀ (vals : Array Value) (w : World), (callFunc 31 vals).run Try.prog w = .ok (.enter 31 vals) w := fun _ _ => by kernel_rfl
            have r1 : ∀ W : World, (Instr.buildSlice 46 4 #[(0, .int .u8 1), (1, .int .u8 1), (2, .int .u8 8), (3, .int .u8 10)]).run Try.prog W = .ok (.slice (some ⟨W.heap.size, 0, none⟩) 4 4) (W.alloc (.cells #[.int .u8 1, .int .u8 1, .int .u8 8, .int .u8 10] 5)) := fun _ => by kernel_rfl
            have r2 : ∀ W : World, (Instr.buildSlice 63 2 #[(0, .int .u32 vl), (1, .int .u32 ec)]).run Try.prog W = .ok (.slice (some ⟨W.heap.size, 0, none⟩) 2 2) (W.alloc (.cells #[.int .u32 vl, .int .u32 ec] 24)) := fun _ => by kernel_rfl
            have q1 : ∀ u W, newRow 5 #[.int .u8 1, .int .u8 1, .int .u8 8, .int .u8 10] 4 [u] W → (convert 46 9 u).run Try.prog W = .ok (.string ⟨#[1, 1, 8, 10]⟩) W := fun u W h => new_str [1, 1, 8, 10] _ 4 rfl rfl h
            have hcl := high32_new (S := OptS W1 g (optN o A n c)) OptS.below [o.val, o.echo] 2 2 #[.int .u32 vl, .int .u32 ec] (by intro y hy; simp at hy; rcases hy with rfl | rfl; exact HO.out.val; exact HO.out.echo) (by rw [Hvl.out, Hec.out]; rfl) (by simp) (by simp) rfl
            obtain ⟨b8, hb8⟩ : ∃ b8, b8 = [o.val, o.echo].flatMap be4 := ⟨_, rfl⟩
            rw [← hb8] at hcl hs0
            have zb8 : b8.length = 8 := by rw [hb8]; rfl
            clear hb8
            have Cf := Lib.hid cf
            clear cf
            have R1 := Lib.hid r1
            clear r1
            have R2 := Lib.hid r2
            clear r2
            have Q1 := Lib.hid q1
            clear q1
            have Hcl := Lib.hid hcl
            clear hcl
            have Hs0 := Lib.hid hs0
            clear hs0
            go_upto_region 8 with fail
            refine wp_region_flow 12 (OptS W1 g (optN o A n c)) (fun w w' => Below w.heap.size w w') (by kernel_rfl) (by kernel_rfl) (by kernel_rfl) (fun w => Below.refl _ _) HS.out.drew ?_
            simp only [List.take_succ_cons, List.take_zero, List.drop_succ_cons, List.drop_zero]
            refine flow_quiet (fun w => Below.refl _ _) rfl rfl rfl rfl ?_; intro K hK; go_big_quiet_op; go_big_quiet_on
            refine flow_build (E := 5) _ ?_ _ R1.out OptS.below rfl rfl rfl W1 ?_
            focus (simp only [List.map_toArray, List.map_cons, List.map_nil]; rfl)
            intro K hK; go_big_quiet_op; go_big_quiet_on
            refine flow_conv (.string ⟨#[1, 1, 8, 10]⟩) 0 rfl rfl rfl (by simp) (fun w => Below.refl _ _) Q1.out rfl rfl W1 ?_
            intro K hK; go_big_quiet_op; go_big_quiet_on
            iterate 4 (refine flow_quiet (fun w => Below.refl _ _) rfl rfl rfl rfl ?_; intro K hK; go_big_quiet_op; go_big_quiet_on)
            refine flow_build (E := 24) _ ?_ _ R2.out OptS.below rfl rfl rfl W1 ?_
            focus (simp only [List.map_toArray, List.map_cons, List.map_nil]; rfl)
            intro K hK; go_big_quiet_op; go_big_quiet_on
            refine flow_callY Cf.out (.string ⟨b8.toArray⟩) (fun u => #[.int .i64 4, u]) 0 rfl rfl (fun f' => rfl) Hcl.out rfl rfl W1 ?_
            intro K hK; go_big_quiet_op; go_big_quiet_on
            repeat (refine flow_quiet (fun w => Below.refl _ _) rfl rfl rfl rfl ?_; intro K hK; go_big_quiet_op; go_big_quiet_on)
            refine flow_nil ?_
            intro W f hW hF
            clear hF
            simp only [fillW, Act.put, List.setIfInBounds_toArray, List.set_cons_succ, List.set_cons_zero]
            go_wp2_with fail
            go_meet
            case rel => exact ⟨by rw [Hs0.out, show (⟨#[1, 1, 8, 10]⟩ : ByteArray) = ⟨[1, 1, 8, 10].toArray⟩ from rfl, cat_str, cat_str], hW⟩
          | false =>
            have hs0 : timeL o = [] := by unfold timeL; rw [← Htm.out]; rfl
            have Hs0 := Lib.hid hs0
            clear hs0
            go_wp2_with fail
            go_meet
            case rel => exact ⟨by rw [Hs0.out, List.append_nil], HS.out⟩
        case rest =>
          clear HS c4
          obtain ⟨rfl, hS⟩ := hcut
          obtain ⟨L4, hL4⟩ : ∃ L4, L4 = L3 ++ timeL o := ⟨_, rfl⟩
          have hz4 : L4.length ≤ 24 := by
            have h1 : (timeL o).length ≤ 12 := by unfold timeL; split <;> simp [be4]
            rw [hL4, List.length_append]
            omega
          rw [← hL4]
          have c3 := hS.2.cell 3
          simp [optN] at c3
          have HL4 := Lib.hid hL4
          have HS := Lib.hid hS
          clear hL4 hS hz3
          go_upto_if 49 with fail
          go_cut [2] from 50 to 59 (fun s wx => s = .string ⟨(L4 ++ bheadL n).toArray⟩ ∧ OptS W1 g (optN o A n c) wx)
          case first =>
            by_cases h : 0 < n
            · have i5 : (0 : Int) < (n : Int) := by omega
              have hcv := conv_new wc [1, 1, 5, UInt8.ofNat (2 + 8 * n)] 4 #[.int .u8 1, .int .u8 1, .int .u8 5, .int .u8 (2 + 8 * (n : Int))] rfl (by simp [u8v]; omega)
              have hs0 : bheadL n = [1, 1, 5, UInt8.ofNat (2 + 8 * n)] := by unfold bheadL; rw [if_neg (by omega)]
              obtain ⟨bn, hbn⟩ : ∃ bn, bn = UInt8.ofNat (2 + 8 * n) := ⟨_, rfl⟩
              rw [← hbn] at hcv hs0
              clear hbn
              have hW := OptS.below _ _ HS.out ((Below.refl wc.heap.size wc).alloc (Nat.le_refl _) (.cells #[.int .u8 1, .int .u8 1, .int .u8 5, .int .u8 (2 + 8 * (n : Int))] 5))
              have Hs0 := Lib.hid hs0
              clear hs0
              have HW := Lib.hid hW
              clear hW
              clear h
              go_wp2_with fail
              go_meet
              case rel => exact ⟨by rw [Hs0.out]; exact congrArg Value.string (cat_str _ _), HW.out⟩
            · have i5 : (n : Int) = 0 := by omega
              have hs0 : bheadL n = [] := by unfold bheadL; rw [if_pos (by omega)]
              have i6 : decide ((0 : Int) < (n : Int)) = false := by simp; omega
              have i7 : decide (0 < n) = false := by simpa using h
              have Hs0 := Lib.hid hs0
              clear hs0
              clear i5
              go_wp2_with fail
              go_meet
              case rel => exact ⟨by rw [Hs0.out, List.append_nil], HS.out⟩
          case rest =>
            clear HS c3
            obtain ⟨rfl, hS⟩ := hcut
            obtain ⟨L5, hL5⟩ : ∃ L5, L5 = L4 ++ bheadL n := ⟨_, rfl⟩
            have hz5 : L5.length ≤ 28 := by
              have h1 : (bheadL n).length ≤ 4 := by unfold bheadL; split <;> simp
              rw [hL5, List.length_append]
              omega
            rw [← hL5]
            have hraw : rawL o = L5 ++ blksL o.bl := by
              rw [hL5, HL4.out, HL3.out, HL2.out, HL1.out, HN.out]
              rfl
            have hrel0 : RawRel W1 g o A n c L5 0 (.string ⟨L5.toArray⟩) wc := ⟨Nat.zero_le _, by simp [blksL], hS⟩
            have c3 := hS.2.cell 3
            simp [optN] at c3
            have Hraw := Lib.hid hraw
            clear hraw
            have Hrel0 := Lib.hid hrel0
            clear hrel0
            have HL5 := Lib.hid hL5
            clear hL5
            clear hS hz4
            go_wp2
            go_loopw [63, 2] (fun i s wr => ∃ k : Nat, i = .int .i64 (k : Int) ∧ RawRel W1 g o A n c L5 k s wr) (fun i _ _ => n - (intOf i).toNat)
            case atStart => exact ⟨0, rfl, Hrel0.out⟩
            case round =>
              clear Hrel0 c3
              obtain ⟨k, rfl, hk, rfl, hS⟩ := hrel
              by_cases hlt : k < n
              · have j1 : (k : Int) < (n : Int) := by omega
                have hkl : k < o.bl.length := by rw [← HN.out]; exact hlt
                obtain ⟨p, hp⟩ : ∃ p, o.bl[k]? = some p := ⟨o.bl[k], List.getElem?_eq_getElem hkl⟩
                have hpm : p ∈ o.bl := List.mem_of_getElem? hp
                obtain ⟨⟨b1, b2⟩, b3, b4⟩ := HO.out.bl p hpm
                have hA : ∃ rb off, A = some ⟨rb, off, none⟩ ∧ rb < wr.heap.size ∧ wr.cell? ⟨rb, off + k * 2, none⟩ = some (.int .u32 p.1) ∧ wr.cell? ⟨rb, off + k * 2 + 1, none⟩ = some (.int .u32 p.2) := by
                  rcases HR.out.below hS.1 with h | ⟨rb, off, h1, h2, h3⟩
                  · rw [h] at hkl; simp at hkl
                  · exact ⟨rb, off, h1, h2, h3 k p hp⟩
                obtain ⟨rb, off, hA, hrb, e0, e1⟩ := hA
                subst hA
                have htk : o.bl.take (k + 1) = o.bl.take k ++ [p] := by rw [List.take_add_one, hp]; rfl
                have hbl : blksL (o.bl.take (k + 1)) = blksL (o.bl.take k) ++ ([p.1.toNat, p.2.toNat].flatMap be4) := by
                  rw [htk]
                  unfold blksL
                  rw [List.flatMap_append]
                  simp
                have hlen : (blksL (o.bl.take k)).length ≤ 32 := by
                  rw [blks_len]
                  have := List.length_take_le k o.bl
                  omega
                have hcl : ∀ W g (hk : Blk W g 24 #[.int .u32 p.1, .int .u32 p.2]), Calls Try.prog 31 #[.int .i64 4, .slice (some ⟨g, 0, none⟩) 2 2] W fun e w' => e = .returned (.string ⟨([p.1.toNat, p.2.toNat].flatMap be4).toArray⟩) ∧ Below W.heap.size W w' := fun W g hk => ohigh32 W g [p.1.toNat, p.2.toNat] #[.int .u32 p.1, .int .u32 p.2] (by intro y hy; simp at hy; rcases hy with rfl | rfl <;> omega) (by simp; omega) hk (by simp) (by simp)
                obtain ⟨b8, hb8⟩ : ∃ b8, b8 = [p.1.toNat, p.2.toNat].flatMap be4 := ⟨_, rfl⟩
                rw [← hb8] at hcl hbl
                have zb8 : b8.length = 8 := by rw [hb8]; rfl
                obtain ⟨Lk, hLk⟩ : ∃ Lk, Lk = L5 ++ blksL (o.bl.take k) := ⟨_, rfl⟩
                have hzk : Lk.length ≤ 60 := by rw [hLk, List.length_append]; omega
                have hnext : ∀ W, OptS W1 g (optN o (some ⟨rb, off, none⟩) n c) W → RawRel W1 g o (some ⟨rb, off, none⟩) n c L5 (k + 1) (.string (⟨Lk.toArray⟩ ++ ⟨b8.toArray⟩)) W := fun W h => ⟨hlt, by rw [hbl, cat_str, hLk, List.append_assoc], h⟩
                rw [← hLk]
                obtain ⟨p1, p2⟩ := p
                simp only at e0 e1 hcl b1 b2 b3 b4
                have Hcl := Lib.hid hcl
                have Hnext := Lib.hid hnext
                have HS := Lib.hid hS
                clear hcl hnext hS hLk hbl htk hp hpm hb8 hlen hkl hlt hk
                go_wp2_with fail
                with_reducible refine (Hcl.out _ _ (blkB_ _ _ _ _)).mono ?_
                rintro e w9 ⟨rfl, hb9⟩
                have hst := OptS.below _ _ (OptS.below _ _ HS.out (((Below.refl wr.heap.size wr).alloc (Nat.le_refl _) (.cells #[.int .u32 p1, .int .u32 p2] 56)).alloc (by simp) (.cells #[.int .u32 p1, .int .u32 p2] 24))) hb9
                have Hr := Lib.hid (Hnext.out w9 hst)
                clear hst hb9
                go_wp2
                go_roundw
                case rel => exact ⟨k + 1, by go_num, Hr.out⟩
                case measure => simp [intOf]; omega
              · have hke : k = n := by omega
                have j1 : (n : Int) ≤ (k : Int) := by omega
                have hall : o.bl.take k = o.bl := List.take_of_length_le (by rw [← HN.out]; omega)
                rw [hall, ← Hraw.out]
                have hb := HB.out.trans (hS.1.mono HB.out.size)
                have HF := Lib.hid hb
                clear hall hb hS hke hlt hk
                go_wp2
                go_ret
                exact ⟨rfl, HF.out⟩
end Go.Proofs.Ytimepplfaaddeaa
