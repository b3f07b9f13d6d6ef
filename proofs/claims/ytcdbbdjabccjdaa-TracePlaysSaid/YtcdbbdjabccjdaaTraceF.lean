/- Layer 31 (trace): what is looked up in the map of rules does what the act's rule lets. -/
import Derived.Test.YtcdbbdjabccjdaaTraceE
import Derived.Test.YtcdbbdjabccjdaaFlowA
set_option linter.unusedVariables false
set_option linter.unusedSimpArgs false
namespace Go.Proofs.Ytcdbbdjabccjdaa
open Go.RowKit Go.BigFrame Go.ChangeMaps

/-- c is a closure that does what act d at end e lets, in whatever world that has the cells of W -/
def Does (W : World) (c : Value) (b d e : Nat) (s : ByteArray) : Prop := ∃ f cap, c = .func (.func f) #[] cap ∧ (∀ (vals : Array Value) (w : World), (callFunc f vals).run Try.prog w = .ok (.enter f vals) w) ∧
  ∀ W' t, (∀ g T cs, Blk W g T cs → Blk W' g T cs) → TrAt W' b t → Okt t s → Calls Try.prog f (#[.pointer (some ⟨b, 6 * e, none⟩), .pointer (some ⟨b, 6 * (1 - e), none⟩)] ++ cap) W' (Lets W' b (ruleM d e t s).isSome ((ruleM d e t s).getD t))
theorem Does.of {W W2 : World} {c : Value} {b d e : Nat} {s : ByteArray} (h : Does W c b d e s) (hk : ∀ g T cs, Blk W g T cs → Blk W2 g T cs) : Does W2 c b d e s := by
  obtain ⟨f, cap, h1, h2, h3⟩ := h
  exact ⟨f, cap, h1, h2, fun W' t hW ht ho => h3 W' t (fun g T cs hg => hW g T cs (hk g T cs hg)) ht ho⟩
theorem keeps_below {w w' : World} (h : Below w.heap.size w w') : ∀ g T cs, Blk w g T cs → Blk w' g T cs := fun g T cs hg => hg.below h hg.lt
theorem RulesAt.of {W W2 : World} {n g b : Nat} {e d : Int} {s : ByteArray} (h : RulesAt W n g b e d s) (hb : Below W.heap.size W W2) : RulesAt W2 n g b e d s := by
  obtain ⟨gt, ga, go, g3, g4, g5, g6, g7, g8, hn, hm, h1, h2, h3, h4, h5, h6, h7, h8, h9⟩ := h
  exact ⟨gt, ga, go, g3, g4, g5, g6, g7, g8, hn, (hb.block _ (mapAt_lt hm)).trans hm, h1.below hb h1.lt, h2.below hb h2.lt, h3.below hb h3.lt, h4.below hb h4.lt, h5.below hb h5.lt, h6.below hb h6.lt, h7.below hb h7.lt, h8.below hb h8.lt, h9.below hb h9.lt⟩
theorem look_run {W : World} {g : Nat} {es : Array MapEntry} {c : Nat} (hm : W.heap[g]? = some (.map es c)) (d : Int) (i : Nat) (v : Value) (h : Instr.findNow (.int .u8) (.int .u8 d) es.toList 0 = some (some (i, v))) :
    (Instr.lookup 73 (.map (some g)) (.int .u8 d) true).run Try.prog W = .ok (.tuple #[v, .bool true]) W := by
  have hc : ∀ b, (Instr.checkKey b 10000 5 (.int .u8 d)).run Try.prog W = .ok () W := fun b => MapKept.run_checkKey (k := .int .u8 d) Try.underlying5 (by simp [MapKept.IsKey]) b 9999
  simp [Instr.lookup, run_underlying Try.underlying73, MapKept.run_getObj_map hm, hc, MapKept.run_findKey Try.underlying5 h, Result.andThen]
theorem look_none {W : World} {g : Nat} {es : Array MapEntry} {c : Nat} (hm : W.heap[g]? = some (.map es c)) (d : Int) (h : Instr.findNow (.int .u8) (.int .u8 d) es.toList 0 = some none) :
    (Instr.lookup 73 (.map (some g)) (.int .u8 d) true).run Try.prog W = .ok (.tuple #[.nilFunc, .bool false]) W := by
  have hc : ∀ b, (Instr.checkKey b 10000 5 (.int .u8 d)).run Try.prog W = .ok () W := fun b => MapKept.run_checkKey (k := .int .u8 d) Try.underlying5 (by simp [MapKept.IsKey]) b 9999
  have hz : (zeroValue 71).run Try.prog W = .ok .nilFunc W := by kernel_rfl
  simp [Instr.lookup, run_underlying Try.underlying73, MapKept.run_getObj_map hm, hc, MapKept.run_findKey Try.underlying5 h, hz, Result.andThen]
theorem RulesAt.miss {W : World} {n g b : Nat} {e d : Int} {s : ByteArray} (h : RulesAt W n g b e d s) (hd : d < 1 ∨ 9 < d) : (Instr.lookup 73 (.map (some g)) (.int .u8 d) true).run Try.prog W = .ok (.tuple #[.nilFunc, .bool false]) W := by
  obtain ⟨gt, ga, go, g3, g4, g5, g6, g7, g8, hn, hm, _⟩ := h
  refine look_none hm d ?_
  have e1 : (d == 1) = false := by simp; omega
  have e2 : (d == 2) = false := by simp; omega
  have e3 : (d == 3) = false := by simp; omega
  have e4 : (d == 4) = false := by simp; omega
  have e5 : (d == 5) = false := by simp; omega
  have e6 : (d == 6) = false := by simp; omega
  have e7 : (d == 7) = false := by simp; omega
  have e8 : (d == 8) = false := by simp; omega
  have e9 : (d == 9) = false := by simp; omega
  simp only [Instr.findNow, Instr.sameNow, if_pos, e1, e2, e3, e4, e5, e6, e7, e8, e9]

theorem RulesAt.hit1 {W : World} {n g b : Nat} {e : Int} {s : ByteArray} (h : RulesAt W n g b e 1 s) (hb : b < n) : ∃ c, (Instr.lookup 73 (.map (some g)) (.int .u8 1) true).run Try.prog W = .ok (.tuple #[c, .bool true]) W ∧ ∀ e' : Nat, e' ≤ 1 → e = (e' : Int) → Does W c b 1 e' s := by
  obtain ⟨gt, ga, go, g3, g4, g5, g6, g7, g8, ⟨hn1, hn2, hn3, _⟩, hm, h1, h2, h3, h4, h5, h6, h7, h8, h9⟩ := h
  refine ⟨_, look_run hm 1 0 _ rfl, fun e' he' hee => ⟨40, #[.pointer (some ⟨go, 0, none⟩), .pointer (some ⟨ga, 0, none⟩)], rfl, fun _ _ => by kernel_rfl, fun W' t hW ht hk => ?_⟩⟩
  subst hee
  obtain rfl | rfl : e' = 0 ∨ e' = 1 := by omega
  · exact does_1_0 W' b go ga t s ht hk (hW _ _ _ h2) (hW _ _ _ h3)
  · exact does_1_1 W' b go ga t s ht hk (hW _ _ _ h2) (hW _ _ _ h3)

theorem RulesAt.hit2 {W : World} {n g b : Nat} {e : Int} {s : ByteArray} (h : RulesAt W n g b e 2 s) (hb : b < n) : ∃ c, (Instr.lookup 73 (.map (some g)) (.int .u8 2) true).run Try.prog W = .ok (.tuple #[c, .bool true]) W ∧ ∀ e' : Nat, e' ≤ 1 → e = (e' : Int) → Does W c b 2 e' s := by
  obtain ⟨gt, ga, go, g3, g4, g5, g6, g7, g8, ⟨hn1, hn2, hn3, _⟩, hm, h1, h2, h3, h4, h5, h6, h7, h8, h9⟩ := h
  refine ⟨_, look_run hm 2 1 _ rfl, fun e' he' hee => ⟨41, #[.pointer (some ⟨go, 0, none⟩), .pointer (some ⟨ga, 0, none⟩)], rfl, fun _ _ => by kernel_rfl, fun W' t hW ht hk => ?_⟩⟩
  subst hee
  obtain rfl | rfl : e' = 0 ∨ e' = 1 := by omega
  · exact does_2_0 W' b go ga t s ht hk (hW _ _ _ h2) (hW _ _ _ h3)
  · exact does_2_1 W' b go ga t s ht hk (hW _ _ _ h2) (hW _ _ _ h3)

theorem RulesAt.hit3 {W : World} {n g b : Nat} {e : Int} {s : ByteArray} (h : RulesAt W n g b e 3 s) (hb : b < n) : ∃ c, (Instr.lookup 73 (.map (some g)) (.int .u8 3) true).run Try.prog W = .ok (.tuple #[c, .bool true]) W ∧ ∀ e' : Nat, e' ≤ 1 → e = (e' : Int) → Does W c b 3 e' s := by
  obtain ⟨gt, ga, go, g3, g4, g5, g6, g7, g8, ⟨hn1, hn2, hn3, _⟩, hm, h1, h2, h3, h4, h5, h6, h7, h8, h9⟩ := h
  refine ⟨_, look_run hm 3 2 _ rfl, fun e' he' hee => ⟨38, #[.pointer (some ⟨g3, 0, none⟩)], rfl, fun _ _ => by kernel_rfl, fun W' t hW ht hk => ?_⟩⟩
  subst hee
  obtain rfl | rfl : e' = 0 ∨ e' = 1 := by omega
  · exact does_3_0 W' b ga g3 t s ht hk (hW _ _ _ h2) (hW _ _ _ h4)
  · exact does_3_1 W' b ga g3 t s ht hk (hW _ _ _ h2) (hW _ _ _ h4)

theorem RulesAt.hit4 {W : World} {n g b : Nat} {e : Int} {s : ByteArray} (h : RulesAt W n g b e 4 s) (hb : b < n) : ∃ c, (Instr.lookup 73 (.map (some g)) (.int .u8 4) true).run Try.prog W = .ok (.tuple #[c, .bool true]) W ∧ ∀ e' : Nat, e' ≤ 1 → e = (e' : Int) → Does W c b 4 e' s := by
  obtain ⟨gt, ga, go, g3, g4, g5, g6, g7, g8, ⟨hn1, hn2, hn3, _⟩, hm, h1, h2, h3, h4, h5, h6, h7, h8, h9⟩ := h
  refine ⟨_, look_run hm 4 3 _ rfl, fun e' he' hee => ⟨38, #[.pointer (some ⟨g4, 0, none⟩)], rfl, fun _ _ => by kernel_rfl, fun W' t hW ht hk => ?_⟩⟩
  subst hee
  obtain rfl | rfl : e' = 0 ∨ e' = 1 := by omega
  · exact does_4_0 W' b ga g4 t s ht hk (hW _ _ _ h2) (hW _ _ _ h5)
  · exact does_4_1 W' b ga g4 t s ht hk (hW _ _ _ h2) (hW _ _ _ h5)

theorem RulesAt.hit5 {W : World} {n g b : Nat} {e : Int} {s : ByteArray} (h : RulesAt W n g b e 5 s) (hb : b < n) : ∃ c, (Instr.lookup 73 (.map (some g)) (.int .u8 5) true).run Try.prog W = .ok (.tuple #[c, .bool true]) W ∧ ∀ e' : Nat, e' ≤ 1 → e = (e' : Int) → Does W c b 5 e' s := by
  obtain ⟨gt, ga, go, g3, g4, g5, g6, g7, g8, ⟨hn1, hn2, hn3, _⟩, hm, h1, h2, h3, h4, h5, h6, h7, h8, h9⟩ := h
  refine ⟨_, look_run hm 5 4 _ rfl, fun e' he' hee => ⟨38, #[.pointer (some ⟨g5, 0, none⟩)], rfl, fun _ _ => by kernel_rfl, fun W' t hW ht hk => ?_⟩⟩
  subst hee
  obtain rfl | rfl : e' = 0 ∨ e' = 1 := by omega
  · exact does_5_0 W' b go g5 t s ht hk (hW _ _ _ h3) (hW _ _ _ h6)
  · exact does_5_1 W' b go g5 t s ht hk (hW _ _ _ h3) (hW _ _ _ h6)

theorem RulesAt.hit6 {W : World} {n g b : Nat} {e : Int} {s : ByteArray} (h : RulesAt W n g b e 6 s) (hb : b < n) : ∃ c, (Instr.lookup 73 (.map (some g)) (.int .u8 6) true).run Try.prog W = .ok (.tuple #[c, .bool true]) W ∧ ∀ e' : Nat, e' ≤ 1 → e = (e' : Int) → Does W c b 6 e' s := by
  obtain ⟨gt, ga, go, g3, g4, g5, g6, g7, g8, ⟨hn1, hn2, hn3, _⟩, hm, h1, h2, h3, h4, h5, h6, h7, h8, h9⟩ := h
  refine ⟨_, look_run hm 6 5 _ rfl, fun e' he' hee => ⟨38, #[.pointer (some ⟨g6, 0, none⟩)], rfl, fun _ _ => by kernel_rfl, fun W' t hW ht hk => ?_⟩⟩
  subst hee
  obtain rfl | rfl : e' = 0 ∨ e' = 1 := by omega
  · exact does_6_0 W' b go g6 t s ht hk (hW _ _ _ h3) (hW _ _ _ h7)
  · exact does_6_1 W' b go g6 t s ht hk (hW _ _ _ h3) (hW _ _ _ h7)

theorem RulesAt.hit7 {W : World} {n g b : Nat} {e : Int} {s : ByteArray} (h : RulesAt W n g b e 7 s) (hb : b < n) : ∃ c, (Instr.lookup 73 (.map (some g)) (.int .u8 7) true).run Try.prog W = .ok (.tuple #[c, .bool true]) W ∧ ∀ e' : Nat, e' ≤ 1 → e = (e' : Int) → Does W c b 7 e' s := by
  obtain ⟨gt, ga, go, g3, g4, g5, g6, g7, g8, ⟨hn1, hn2, hn3, _⟩, hm, h1, h2, h3, h4, h5, h6, h7, h8, h9⟩ := h
  refine ⟨_, look_run hm 7 6 _ rfl, fun e' he' hee => ⟨38, #[.pointer (some ⟨g7, 0, none⟩)], rfl, fun _ _ => by kernel_rfl, fun W' t hW ht hk => ?_⟩⟩
  subst hee
  obtain rfl | rfl : e' = 0 ∨ e' = 1 := by omega
  · exact does_7_0 W' b gt go g7 t s ht hk (hW _ _ _ h3) (hW _ _ _ h1) (by omega) (by omega) (hW _ _ _ h8)
  · exact does_7_1 W' b gt go g7 t s ht hk (hW _ _ _ h3) (hW _ _ _ h1) (by omega) (by omega) (hW _ _ _ h8)

theorem RulesAt.hit8 {W : World} {n g b : Nat} {e : Int} {s : ByteArray} (h : RulesAt W n g b e 8 s) (hb : b < n) : ∃ c, (Instr.lookup 73 (.map (some g)) (.int .u8 8) true).run Try.prog W = .ok (.tuple #[c, .bool true]) W ∧ ∀ e' : Nat, e' ≤ 1 → e = (e' : Int) → Does W c b 8 e' s := by
  obtain ⟨gt, ga, go, g3, g4, g5, g6, g7, g8, ⟨hn1, hn2, hn3, _⟩, hm, h1, h2, h3, h4, h5, h6, h7, h8, h9⟩ := h
  refine ⟨_, look_run hm 8 7 _ rfl, fun e' he' hee => ⟨38, #[.pointer (some ⟨g8, 0, none⟩)], rfl, fun _ _ => by kernel_rfl, fun W' t hW ht hk => ?_⟩⟩
  subst hee
  obtain rfl | rfl : e' = 0 ∨ e' = 1 := by omega
  · exact does_8_0 W' b go gt g8 t s ht hk (hW _ _ _ h3) (hW _ _ _ h1) (hW _ _ _ h9)
  · exact does_8_1 W' b go gt g8 t s ht hk (hW _ _ _ h3) (hW _ _ _ h1) (hW _ _ _ h9)

theorem RulesAt.hit9 {W : World} {n g b : Nat} {e : Int} {s : ByteArray} (h : RulesAt W n g b e 9 s) (hb : b < n) : ∃ c, (Instr.lookup 73 (.map (some g)) (.int .u8 9) true).run Try.prog W = .ok (.tuple #[c, .bool true]) W ∧ ∀ e' : Nat, e' ≤ 1 → e = (e' : Int) → Does W c b 9 e' s := by
  obtain ⟨gt, ga, go, g3, g4, g5, g6, g7, g8, ⟨hn1, hn2, hn3, _⟩, hm, h1, h2, h3, h4, h5, h6, h7, h8, h9⟩ := h
  refine ⟨_, look_run hm 9 8 _ rfl, fun e' he' hee => ⟨49, #[.pointer (some ⟨gt, 0, none⟩)], rfl, fun _ _ => by kernel_rfl, fun W' t hW ht hk => ?_⟩⟩
  subst hee
  obtain rfl | rfl : e' = 0 ∨ e' = 1 := by omega
  · exact does_9_0 W' b gt t s ht hk (hW _ _ _ h1)
  · exact does_9_1 W' b gt t s ht hk (hW _ _ _ h1)

theorem RulesAt.hit {W : World} {n g b d : Nat} {e : Int} {s : ByteArray} (h : RulesAt W n g b e (d : Int) s) (hb : b < n) (hd : 1 ≤ d ∧ d ≤ 9) : ∃ c, (Instr.lookup 73 (.map (some g)) (.int .u8 (d : Int)) true).run Try.prog W = .ok (.tuple #[c, .bool true]) W ∧ ∀ e' : Nat, e' ≤ 1 → e = (e' : Int) → Does W c b d e' s := by
  obtain rfl | rfl | rfl | rfl | rfl | rfl | rfl | rfl | rfl : d = 1 ∨ d = 2 ∨ d = 3 ∨ d = 4 ∨ d = 5 ∨ d = 6 ∨ d = 7 ∨ d = 8 ∨ d = 9 := by omega
  · exact h.hit1 hb
  · exact h.hit2 hb
  · exact h.hit3 hb
  · exact h.hit4 hb
  · exact h.hit5 hb
  · exact h.hit6 hb
  · exact h.hit7 hb
  · exact h.hit8 hb
  · exact h.hit9 hb
end Go.Proofs.Ytcdbbdjabccjdaa
