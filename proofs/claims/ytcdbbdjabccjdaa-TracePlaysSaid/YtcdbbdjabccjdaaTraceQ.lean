/- Layer 31 (trace): what the law keeps beside a trace: five arrays. -/
import Derived.Test.YtcdbbdjabccjdaaTraceP
set_option linter.unusedVariables false
set_option linter.unusedSimpArgs false
namespace Go.Proofs.Ytcdbbdjabccjdaa
open Go.RowKit

structure Vs where
  W0 : ByteArray
  W1 : ByteArray
  R0 : ByteArray
  R1 : ByteArray
  C0 : Bool
  C1 : Bool
  E0 : Bool
  E1 : Bool
  D0 : Bool
  D1 : Bool
/-- where they lie, apart from each other -/
structure Gs where
  gW : Nat
  gR : Nat
  gC : Nat
  gE : Nat
  gD : Nat
  n1 : gW ≠ gR
  n2 : gC ≠ gE
  n3 : gC ≠ gD
  n4 : gE ≠ gD
structure Arrs (g : Gs) (v : Vs) (w : World) : Prop where
  bgW : Blk w g.gW 43 #[.string v.W0, .string v.W1]
  bgR : Blk w g.gR 43 #[.string v.R0, .string v.R1]
  bgC : Blk w g.gC 44 #[.bool v.C0, .bool v.C1]
  bgE : Blk w g.gE 44 #[.bool v.E0, .bool v.E1]
  bgD : Blk w g.gD 44 #[.bool v.D0, .bool v.D1]

theorem Arrs.below {g : Gs} {v : Vs} {w w' : World} (h : Arrs g v w) (hb : Below w.heap.size w w') : Arrs g v w' :=
  ⟨h.bgW.below hb h.bgW.lt, h.bgR.below hb h.bgR.lt, h.bgC.below hb h.bgC.lt, h.bgE.below hb h.bgE.lt, h.bgD.below hb h.bgD.lt⟩
theorem Arrs.drewN {g : Gs} {v : Vs} {w : World} (h : Arrs g v w) (n : Nat) : Arrs g v (w.drewN n) := ⟨h.bgW, h.bgR, h.bgC, h.bgE, h.bgD⟩
theorem Arrs.drew {g : Gs} {v : Vs} {w : World} (h : Arrs g v w) : Arrs g v w.drew := ⟨h.bgW, h.bgR, h.bgC, h.bgE, h.bgD⟩
theorem Arrs.grown {g : Gs} {v : Vs} {w w' : World} {b : Nat} {t : Tr} (h : Arrs g v w) (ht : TrAt w b t) (hg : w.grownBy w' (some b)) : Arrs g v w' :=
  ⟨h.bgW.grown hg (fun e => by injection e with e; exact Blk.ne_ h.bgW ht (by decide) e), h.bgR.grown hg (fun e => by injection e with e; exact Blk.ne_ h.bgR ht (by decide) e), h.bgC.grown hg (fun e => by injection e with e; exact Blk.ne_ h.bgC ht (by decide) e), h.bgE.grown hg (fun e => by injection e with e; exact Blk.ne_ h.bgE ht (by decide) e), h.bgD.grown hg (fun e => by injection e with e; exact Blk.ne_ h.bgD ht (by decide) e)⟩
theorem Arrs.setW0 {g : Gs} {v : Vs} {w : World} (h : Arrs g v w) (u : ByteArray) : Arrs g { v with W0 := u } (w.setCell ⟨g.gW, 0, none⟩ (.string u)) :=
  ⟨(by have := h.bgW.set_ 0 (.string u); simpa using this), h.bgR.far (p := ⟨g.gW, 0, none⟩) (g.n1.symm) _, h.bgC.far (p := ⟨g.gW, 0, none⟩) (Blk.ne_ h.bgC h.bgW (by decide)) _, h.bgE.far (p := ⟨g.gW, 0, none⟩) (Blk.ne_ h.bgE h.bgW (by decide)) _, h.bgD.far (p := ⟨g.gW, 0, none⟩) (Blk.ne_ h.bgD h.bgW (by decide)) _⟩
theorem Arrs.setW1 {g : Gs} {v : Vs} {w : World} (h : Arrs g v w) (u : ByteArray) : Arrs g { v with W1 := u } (w.setCell ⟨g.gW, 1, none⟩ (.string u)) :=
  ⟨(by have := h.bgW.set_ 1 (.string u); simpa using this), h.bgR.far (p := ⟨g.gW, 1, none⟩) (g.n1.symm) _, h.bgC.far (p := ⟨g.gW, 1, none⟩) (Blk.ne_ h.bgC h.bgW (by decide)) _, h.bgE.far (p := ⟨g.gW, 1, none⟩) (Blk.ne_ h.bgE h.bgW (by decide)) _, h.bgD.far (p := ⟨g.gW, 1, none⟩) (Blk.ne_ h.bgD h.bgW (by decide)) _⟩
theorem Arrs.setR0 {g : Gs} {v : Vs} {w : World} (h : Arrs g v w) (u : ByteArray) : Arrs g { v with R0 := u } (w.setCell ⟨g.gR, 0, none⟩ (.string u)) :=
  ⟨h.bgW.far (p := ⟨g.gR, 0, none⟩) (g.n1) _, (by have := h.bgR.set_ 0 (.string u); simpa using this), h.bgC.far (p := ⟨g.gR, 0, none⟩) (Blk.ne_ h.bgC h.bgR (by decide)) _, h.bgE.far (p := ⟨g.gR, 0, none⟩) (Blk.ne_ h.bgE h.bgR (by decide)) _, h.bgD.far (p := ⟨g.gR, 0, none⟩) (Blk.ne_ h.bgD h.bgR (by decide)) _⟩
theorem Arrs.setR1 {g : Gs} {v : Vs} {w : World} (h : Arrs g v w) (u : ByteArray) : Arrs g { v with R1 := u } (w.setCell ⟨g.gR, 1, none⟩ (.string u)) :=
  ⟨h.bgW.far (p := ⟨g.gR, 1, none⟩) (g.n1) _, (by have := h.bgR.set_ 1 (.string u); simpa using this), h.bgC.far (p := ⟨g.gR, 1, none⟩) (Blk.ne_ h.bgC h.bgR (by decide)) _, h.bgE.far (p := ⟨g.gR, 1, none⟩) (Blk.ne_ h.bgE h.bgR (by decide)) _, h.bgD.far (p := ⟨g.gR, 1, none⟩) (Blk.ne_ h.bgD h.bgR (by decide)) _⟩
theorem Arrs.setC0 {g : Gs} {v : Vs} {w : World} (h : Arrs g v w) (u : Bool) : Arrs g { v with C0 := u } (w.setCell ⟨g.gC, 0, none⟩ (.bool u)) :=
  ⟨h.bgW.far (p := ⟨g.gC, 0, none⟩) (Blk.ne_ h.bgW h.bgC (by decide)) _, h.bgR.far (p := ⟨g.gC, 0, none⟩) (Blk.ne_ h.bgR h.bgC (by decide)) _, (by have := h.bgC.set_ 0 (.bool u); simpa using this), h.bgE.far (p := ⟨g.gC, 0, none⟩) (g.n2.symm) _, h.bgD.far (p := ⟨g.gC, 0, none⟩) (g.n3.symm) _⟩
theorem Arrs.setC1 {g : Gs} {v : Vs} {w : World} (h : Arrs g v w) (u : Bool) : Arrs g { v with C1 := u } (w.setCell ⟨g.gC, 1, none⟩ (.bool u)) :=
  ⟨h.bgW.far (p := ⟨g.gC, 1, none⟩) (Blk.ne_ h.bgW h.bgC (by decide)) _, h.bgR.far (p := ⟨g.gC, 1, none⟩) (Blk.ne_ h.bgR h.bgC (by decide)) _, (by have := h.bgC.set_ 1 (.bool u); simpa using this), h.bgE.far (p := ⟨g.gC, 1, none⟩) (g.n2.symm) _, h.bgD.far (p := ⟨g.gC, 1, none⟩) (g.n3.symm) _⟩
theorem Arrs.setE0 {g : Gs} {v : Vs} {w : World} (h : Arrs g v w) (u : Bool) : Arrs g { v with E0 := u } (w.setCell ⟨g.gE, 0, none⟩ (.bool u)) :=
  ⟨h.bgW.far (p := ⟨g.gE, 0, none⟩) (Blk.ne_ h.bgW h.bgE (by decide)) _, h.bgR.far (p := ⟨g.gE, 0, none⟩) (Blk.ne_ h.bgR h.bgE (by decide)) _, h.bgC.far (p := ⟨g.gE, 0, none⟩) (g.n2) _, (by have := h.bgE.set_ 0 (.bool u); simpa using this), h.bgD.far (p := ⟨g.gE, 0, none⟩) (g.n4.symm) _⟩
theorem Arrs.setE1 {g : Gs} {v : Vs} {w : World} (h : Arrs g v w) (u : Bool) : Arrs g { v with E1 := u } (w.setCell ⟨g.gE, 1, none⟩ (.bool u)) :=
  ⟨h.bgW.far (p := ⟨g.gE, 1, none⟩) (Blk.ne_ h.bgW h.bgE (by decide)) _, h.bgR.far (p := ⟨g.gE, 1, none⟩) (Blk.ne_ h.bgR h.bgE (by decide)) _, h.bgC.far (p := ⟨g.gE, 1, none⟩) (g.n2) _, (by have := h.bgE.set_ 1 (.bool u); simpa using this), h.bgD.far (p := ⟨g.gE, 1, none⟩) (g.n4.symm) _⟩
theorem Arrs.setD0 {g : Gs} {v : Vs} {w : World} (h : Arrs g v w) (u : Bool) : Arrs g { v with D0 := u } (w.setCell ⟨g.gD, 0, none⟩ (.bool u)) :=
  ⟨h.bgW.far (p := ⟨g.gD, 0, none⟩) (Blk.ne_ h.bgW h.bgD (by decide)) _, h.bgR.far (p := ⟨g.gD, 0, none⟩) (Blk.ne_ h.bgR h.bgD (by decide)) _, h.bgC.far (p := ⟨g.gD, 0, none⟩) (g.n3) _, h.bgE.far (p := ⟨g.gD, 0, none⟩) (g.n4) _, (by have := h.bgD.set_ 0 (.bool u); simpa using this)⟩
theorem Arrs.setD1 {g : Gs} {v : Vs} {w : World} (h : Arrs g v w) (u : Bool) : Arrs g { v with D1 := u } (w.setCell ⟨g.gD, 1, none⟩ (.bool u)) :=
  ⟨h.bgW.far (p := ⟨g.gD, 1, none⟩) (Blk.ne_ h.bgW h.bgD (by decide)) _, h.bgR.far (p := ⟨g.gD, 1, none⟩) (Blk.ne_ h.bgR h.bgD (by decide)) _, h.bgC.far (p := ⟨g.gD, 1, none⟩) (g.n3) _, h.bgE.far (p := ⟨g.gD, 1, none⟩) (g.n4) _, (by have := h.bgD.set_ 1 (.bool u); simpa using this)⟩
/-- what the arrays hold beside the trace t -/
def vsOf (t : Tr) : Vs := ⟨t.s0.wr, t.s1.wr, t.s1.wr.extract 0 t.s0.rd, t.s0.wr.extract 0 t.s1.rd, t.s0.cl, t.s1.cl, t.s0.eof, t.s1.eof, t.s0.dd, t.s1.dd⟩
/-- who is dead was open -/
def Opn (t : Tr) : Prop := (t.s0.dd = true → t.s0.opn = true) ∧ (t.s1.dd = true → t.s1.opn = true)
structure Tell (w : World) (b : Nat) (g : Gs) (t : Tr) (wr : World) : Prop where
  sz : Szd t
  op : Opn t
  at_ : TrAt wr b t
  ar : Arrs g (vsOf t) wr
  bl : Below w.heap.size w wr
  lo : w.heap.size ≤ g.gW ∧ w.heap.size ≤ g.gR ∧ w.heap.size ≤ g.gC ∧ w.heap.size ≤ g.gE ∧ w.heap.size ≤ g.gD
theorem extract_app (x s : ByteArray) (n : Nat) (h : n ≤ x.size) : (x ++ s).extract 0 n = x.extract 0 n := by
  apply ByteArray.ext
  simp only [ByteArray.data_extract, ByteArray.data_append]
  rw [Array.extract_append]
  have e : n - x.data.size = 0 := by have : x.data.size = x.size := rfl; omega
  rw [e]
  simp
theorem extract_more (x s : ByteArray) (r : Nat) (hr : r ≤ x.size) (h : prefixB x r s = true) : x.extract 0 r ++ s = x.extract 0 (r + s.size) := by
  unfold prefixB at h
  simp only [decide_eq_true_eq] at h
  obtain ⟨h1, h2⟩ := h
  have e : s = (x.extract r x.size).extract 0 s.size := h2.symm
  apply ByteArray.ext
  rw [ByteArray.data_append]
  rw [e]
  have hs : ((x.extract r x.size).extract 0 s.size).size = s.size := by rw [h2]
  rw [hs]
  simp only [ByteArray.data_extract, Array.extract_extract]
  have hx : x.data.size = x.size := rfl
  simp at h1
  rw [Nat.add_zero, Array.extract_append_extract]
  congr 1 <;> omega
theorem vs_w0 (t : Tr) (s : ByteArray) (h : Szd t) : { vsOf t with W0 := t.s0.wr ++ s } = vsOf (eff 0 3 s t) := by
  have := extract_app t.s0.wr s t.s1.rd h.2.2.2
  simp [vsOf, eff, gA, Tr.put, Tr.own, this]
theorem vs_w1 (t : Tr) (s : ByteArray) (h : Szd t) : { vsOf t with W1 := t.s1.wr ++ s } = vsOf (eff 1 3 s t) := by
  have := extract_app t.s1.wr s t.s0.rd h.2.2.1
  simp [vsOf, eff, gA, Tr.put, Tr.own, this]
theorem vs_r0 (t : Tr) (s : ByteArray) (h : Szd t) (hp : prefixB t.s1.wr t.s0.rd s = true) : { vsOf t with R0 := t.s1.wr.extract 0 t.s0.rd ++ s } = vsOf (eff 0 4 s t) := by
  have := extract_more t.s1.wr s t.s0.rd h.2.2.1 hp
  simp [vsOf, eff, gA, Tr.put, Tr.own, this]
theorem vs_r1 (t : Tr) (s : ByteArray) (h : Szd t) (hp : prefixB t.s0.wr t.s1.rd s = true) : { vsOf t with R1 := t.s0.wr.extract 0 t.s1.rd ++ s } = vsOf (eff 1 4 s t) := by
  have := extract_more t.s0.wr s t.s1.rd h.2.2.2 hp
  simp [vsOf, eff, gA, Tr.put, Tr.own, this]
theorem do_err {t : Tr} {x : AAct} (h : (stepA t x).1 ≠ 0) : (stepA t x).2 = t := by
  unfold stepA doM at *
  by_cases hok : argOk x.e x.d x.s = true
  case neg => rw [if_neg hok]
  rw [if_pos hok] at h ⊢
  by_cases hf : fullB x.e.toNat x.d t x.s = true
  · rw [if_pos hf]
  rw [if_neg hf] at h ⊢
  cases hr : ruleM x.d x.e.toNat t x.s with
  | none => rfl
  | some t' => rw [hr] at h; exact absurd rfl h
theorem extract_size (x : ByteArray) (n : Nat) (h : n ≤ x.size) : (x.extract 0 n).size = n ∧ x.extract 0 (x.extract 0 n).size = x.extract 0 n := by
  have e : (x.extract 0 n).size = n := by simp; omega
  exact ⟨e, by rw [e]⟩
theorem extract_all (x : ByteArray) : x.extract 0 x.size = x := by
  apply ByteArray.ext
  simp [ByteArray.data_extract]
theorem eff_own (t : Tr) (d : Nat) (s : ByteArray) : eff 0 d s t = { s0 := gA d s t.s0, s1 := t.s1, cause := t.cause || cA d } ∧ eff 1 d s t = { s0 := t.s0, s1 := gA d s t.s1, cause := t.cause || cA d } := ⟨rfl, rfl⟩
theorem opn_eff {t : Tr} {d e : Nat} {s : ByteArray} (h : Opn t) (hr : ruleM d e t s = some (eff e d s t)) (he : e ≤ 1) : Opn (eff e d s t) := by
  obtain ⟨h0, h1⟩ := h
  obtain rfl | rfl : e = 0 ∨ e = 1 := by omega
  all_goals
    unfold ruleM at hr
    split at hr
    case h_10 => cases hr
    case h_9 => exact ⟨h0, h1⟩
    all_goals
      split at hr
      case isFalse => cases hr
      rename_i hc
      simp [Tr.own, Tr.oth, Sd.live] at hc
      all_goals refine ⟨fun hq => ?_, fun hq => ?_⟩ <;> simp only [eff, Tr.put, Tr.own, gA] at hq ⊢ <;> simp_all
end Go.Proofs.Ytcdbbdjabccjdaa
