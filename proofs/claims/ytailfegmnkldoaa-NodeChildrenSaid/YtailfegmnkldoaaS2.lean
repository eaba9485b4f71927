/- THE WALKS OF THE PROGRAM'S SMALL FUNCTIONS FOR SLOTS. No condition but those stated. -/
import Derived.Test.YtailfegmnkldoaaS1
set_option linter.unusedSimpArgs false
set_option linter.unusedVariables false
set_option linter.unusedSectionVars false
namespace Go.Proofs.Ytailfegmnkldoaa
open Go Go.Am Go.Slots
set_option maxHeartbeats 2000000
set_option maxRecDepth 10000
theorem must_px (b : Bool) (e : Int) (H : Heap) : pcx (cbL tab) 145 [.bool b, .int .i64 e] H = if b = true then some (.plain (.tup [])) else some (.pan [(.iface 25 (.int .i64 e), false)]) := by
  cases b
  · rw [if_neg (by simp)]
    refine pcx_N rfl (pc_wp (fi := c145) rfl rfl (by simp [c145]) (by decide) ?_)
    unfold c145
    simp (disch := omega) only [wk, avalE, aactE, evPE, boundE, asNat, bv_seql cellsEq_ii, bv_sneqd cellsEq_ii, readC, allOne, fillL, resE, tupled, ↓reduceIte, Nat.reduceEqDiff, Int.reduceEq, Int.reduceLT, Int.reduceLE, Nat.reduceAdd, Nat.reduceMul, Nat.reduceLT, Nat.reduceLeDiff, reduceCtorEq, lend_int, lend_bool, purify, hfL, AV.hf, Bool.not_false, Bool.false_eq_true, Bool.and_true]
  · rw [if_pos rfl]
    refine pcx_N rfl (pc_wp (fi := c145) rfl rfl (by simp [c145]) (by decide) ?_)
    unfold c145
    simp (disch := omega) only [wk, avalE, aactE, evPE, boundE, asNat, bv_seql cellsEq_ii, bv_sneqd cellsEq_ii, readC, allOne, fillL, resE, tupled, ↓reduceIte, Nat.reduceEqDiff, Int.reduceEq, Int.reduceLT, Int.reduceLE, Nat.reduceAdd, Nat.reduceMul, Nat.reduceLT, Nat.reduceLeDiff, reduceCtorEq, lend_int, lend_bool, purify, unownT, lend, unown, AV.hf, hfL, Bool.not_true, Bool.false_eq_true]
theorem many_px (n : Nat) (cs : List AV) (tk : Tk) (H : Heap) (hn : (n : Int) ≤ 9223372036854775807) (hc : hfL cs = true) (ht : tk.hf = true) : pcx (cbL tab) 146 [.sl 1 n cs tk] H = some (.plain (.int .i64 ((n : Int) / 2))) := by
  obtain ⟨u1, e1, f1⟩ := lend_sl 1 n cs tk
  refine pcx_L rfl (by rw [List.map_cons, List.map_nil, lendK_sl]) (pc_wp (fi := c146) rfl ?_ (by simp [c146]) (by decide) ?_) rfl
  · simp only [pcOn, List.map_cons, List.map_nil, hfL, hf_lend_sl, hf_lend_int, hf_lend_bool, hf_lend_str, hfL_append, Bool.and_self, Bool.and_true, Bool.true_and, c146, AV.hf, hc, ht]
  unfold c146
  rw [List.map_cons, List.map_nil, e1]
  simp (disch := omega) only [wk, avalE, aactE, evPE, boundE, asNat, bv_seql cellsEq_ii, bv_sneqd cellsEq_ii, readC, allOne, fillL, resE, tupled, ↓reduceIte, Nat.reduceEqDiff, Int.reduceEq, Int.reduceLT, Int.reduceLE, Nat.reduceAdd, Nat.reduceMul, Nat.reduceLT, Nat.reduceLeDiff, reduceCtorEq, purify, unownT, lend, unown, AV.hf]
theorem slotsright_px (left : Int) (n : Nat) (cs : List AV) (tk : Tk) (H : Heap) (hn : (n : Int) ≤ 9223372036854775807) (hc : hfL cs = true) (ht : tk.hf = true) : pcx (cbL tab) 115 [rowV n cs tk left] H = some (.plain (.bool (decide (right left n)))) := by
  obtain ⟨u1, e1, f1⟩ := lend_sl 1 n cs tk
  have hlend : lend (rowV n cs tk left) = rowV n cs u1 left := by
    cases tk <;> cases e1 <;> rfl
  refine pcx_L rfl (by rw [List.map_cons, List.map_nil, rowV, lendK_agg, List.map_cons, List.map_cons, List.map_nil, lendK_sl, lendK_int]) (pc_wp (fi := c115) rfl ?_ (by simp [c115]) (by decide) ?_) rfl
  · rw [← rowV]; simp only [pcOn, List.map_cons, List.map_nil, hfL, hf_lend_sl, hf_lend_int, hf_lend_bool, hf_lend_str, hfL_append, Bool.and_self, Bool.and_true, Bool.true_and, c115, hlend]; simp [rowV, AV.hf, hfL, hc, ht, f1]
  rw [← rowV]
  unfold c115
  rw [List.map_cons, List.map_nil, hlend, rowV]
  have m1 := fun H => many_px n cs u1 H hn hc f1
  by_cases h1 : left = 0
  · subst h1
    have : ¬ right 0 n := fun h => h.1 rfl
    simp (disch := omega) only [wk, avalE, aactE, evPE, boundE, asNat, bv_seql cellsEq_ii, bv_sneqd cellsEq_ii, readC, allOne, fillL, resE, tupled, ↓reduceIte, Nat.reduceEqDiff, Int.reduceEq, Int.reduceLT, Int.reduceLE, Nat.reduceAdd, Nat.reduceMul, Nat.reduceLT, Nat.reduceLeDiff, reduceCtorEq, purify, unownT, lend, unown, AV.hf, this]
  by_cases h2 : n % 2 = 0
  case neg =>
    have : ¬ right left n := fun h => h2 h.2.1
    simp (disch := omega) only [wk, avalE, aactE, evPE, boundE, asNat, bv_seql cellsEq_ii, bv_sneqd cellsEq_ii, readC, allOne, fillL, resE, tupled, ↓reduceIte, Nat.reduceEqDiff, Int.reduceEq, Int.reduceLT, Int.reduceLE, Nat.reduceAdd, Nat.reduceMul, Nat.reduceLT, Nat.reduceLeDiff, reduceCtorEq, h1, m1, purify, unownT, lend, unown, AV.hf, this]
  by_cases h3 : 4 ≤ n
  case neg =>
    have : ¬ right left n := fun h => h3 h.2.2.1
    simp (disch := omega) only [wk, avalE, aactE, evPE, boundE, asNat, bv_seql cellsEq_ii, bv_sneqd cellsEq_ii, readC, allOne, fillL, resE, tupled, ↓reduceIte, Nat.reduceEqDiff, Int.reduceEq, Int.reduceLT, Int.reduceLE, Nat.reduceAdd, Nat.reduceMul, Nat.reduceLT, Nat.reduceLeDiff, reduceCtorEq, h1, m1, purify, unownT, lend, unown, AV.hf, this]
  have : right left n ↔ (n : Int) / 2 ≤ 28 := ⟨fun h => by have := h.2.2.2; omega, fun h => ⟨h1, h2, h3, by omega⟩⟩
  simp (disch := omega) only [wk, avalE, aactE, evPE, boundE, asNat, bv_seql cellsEq_ii, bv_sneqd cellsEq_ii, readC, allOne, fillL, resE, tupled, ↓reduceIte, Nat.reduceEqDiff, Int.reduceEq, Int.reduceLT, Int.reduceLE, Nat.reduceAdd, Nat.reduceMul, Nat.reduceLT, Nat.reduceLeDiff, reduceCtorEq, h1, m1, purify, unownT, lend, unown, AV.hf, this]
theorem ptr_px (pre : List (Int × Int)) (x : Int × Int) (r : List (Int × Int)) (rest : List AV) (tk : Tk) (H : Heap) (hn : (pre ++ x :: r).length ≤ 1000) (hc : hfL rest = true) (ht : tk.hf = true) :
    pcx (cbL tab) 117 [row (pre ++ x :: r) rest tk, .int .i64 (pre.length : Nat)] H = some (.plain (.int .u64 x.2)) := by
  obtain ⟨u1, e1, f1⟩ := lend_sl 1 (2 * (pre ++ x :: r).length) (encs pairA (pre ++ x :: r) ++ rest) tk
  refine pcx_L rfl (by rw [List.map_cons, List.map_cons, List.map_nil, row, lendK_sl, lendK_int]) (pc_wp (fi := c117) rfl ?_ (by simp [c117]) (by decide) ?_) rfl
  · simp only [pcOn, List.map_cons, List.map_nil, hfL, hf_lend_sl, hf_lend_int, hf_lend_bool, hf_lend_str, hfL_append, Bool.and_self, Bool.and_true, Bool.true_and, c117, AV.hf, hc, ht, hf_pairA]
  unfold c117
  rw [List.map_cons, List.map_cons, List.map_nil, e1, lend_int]
  simp only [List.length_append, List.length_cons] at hn
  simp (disch := omega) only [wk, avalE, aactE, evPE, boundE, asNat, bv_seql cellsEq_ii, bv_sneqd cellsEq_ii, readC, allOne, fillL, resE, tupled, ↓reduceIte, Nat.reduceEqDiff, Int.reduceEq, Int.reduceLT, Int.reduceLE, Nat.reduceAdd, Nat.reduceMul, Nat.reduceLT, Nat.reduceLeDiff, reduceCtorEq, row_ptr, purify, unownT, lend, unown, AV.hf]
theorem key_px (pre : List (Int × Int)) (x : Int × Int) (r : List (Int × Int)) (rest : List AV) (tk : Tk) (H : Heap) (hn : (pre ++ x :: r).length ≤ 1000) (hc : hfL rest = true) (ht : tk.hf = true) :
    pcx (cbL tab) 119 [row (pre ++ x :: r) rest tk, .int .i64 (pre.length : Nat)] H = some (.plain (.int .u64 x.1)) := by
  obtain ⟨u1, e1, f1⟩ := lend_sl 1 (2 * (pre ++ x :: r).length) (encs pairA (pre ++ x :: r) ++ rest) tk
  refine pcx_L rfl (by rw [List.map_cons, List.map_cons, List.map_nil, row, lendK_sl, lendK_int]) (pc_wp (fi := c119) rfl ?_ (by simp [c119]) (by decide) ?_) rfl
  · simp only [pcOn, List.map_cons, List.map_nil, hfL, hf_lend_sl, hf_lend_int, hf_lend_bool, hf_lend_str, hfL_append, Bool.and_self, Bool.and_true, Bool.true_and, c119, AV.hf, hc, ht, hf_pairA]
  unfold c119
  rw [List.map_cons, List.map_cons, List.map_nil, e1, lend_int]
  simp only [List.length_append, List.length_cons] at hn
  simp (disch := omega) only [wk, avalE, aactE, evPE, boundE, asNat, bv_seql cellsEq_ii, bv_sneqd cellsEq_ii, readC, allOne, fillL, resE, tupled, ↓reduceIte, Nat.reduceEqDiff, Int.reduceEq, Int.reduceLT, Int.reduceLE, Nat.reduceAdd, Nat.reduceMul, Nat.reduceLT, Nat.reduceLeDiff, reduceCtorEq, row_key, purify, unownT, lend, unown, AV.hf]
theorem lend_rowV (n : Nat) (cs : List AV) (tk : Tk) (left : Int) : ∃ u, lend (rowV n cs tk left) = rowV n cs u left ∧ u.hf = true := by
  cases tk <;> exact ⟨_, rfl, rfl⟩
theorem hf_rowV (n : Nat) (cs : List AV) (tk : Tk) (left : Int) : (rowV n cs tk left).hf = (hfL cs && tk.hf) := by simp [rowV, AV.hf, hfL]
theorem hf_lend_rowV (n : Nat) (cs : List AV) (tk : Tk) (left : Int) : (lend (rowV n cs tk left)).hf = hfL cs := by
  cases tk <;> simp [rowV, lend, unown, AV.hf, hfL, Tk.hf]
theorem lendK_rowV (H : Heap) (k n : Nat) (cs : List AV) (tk : Tk) (left : Int) : lendK H k (rowV n cs tk left) = rowV n cs tk left := by
  cases k with
  | zero => rfl
  | succ k => rw [rowV, lendK_agg, List.map_cons, List.map_cons, List.map_nil, lendK_sl, lendK_int]
theorem slotsraw_px (left : Int) (ps : List (Int × Int)) (rest : List AV) (tk : Tk) (H : Heap) (hn : ps.length ≤ 1000) (hc : hfL rest = true) (ht : tk.hf = true) :
    pcx (cbL tab) 116 [rowV (2 * ps.length) (encs pairA ps ++ rest) tk left] H = some (.plain (.int .i64 (rawL ps : Nat))) := by
  obtain ⟨u1, e1, f1⟩ := lend_rowV (2 * ps.length) (encs pairA ps ++ rest) tk left
  refine pcx_L rfl (by rw [List.map_cons, List.map_nil, lendK_rowV]) (pc_wp (fi := c116) rfl ?_ (by simp [c116]) (by decide) ?_) rfl
  · simp only [pcOn, List.map_cons, List.map_nil, hfL, hf_lend_sl, hf_lend_int, hf_lend_bool, hf_lend_str, hfL_append, Bool.and_self, Bool.and_true, Bool.true_and, c116, hf_rowV, hf_lend_rowV, hc, ht, hf_pairA]
  unfold c116
  rw [List.map_cons, List.map_nil, e1, rowV]
  simp (disch := omega) only [wk, avalE, aactE, evPE, boundE, asNat, bv_seql cellsEq_ii, bv_sneqd cellsEq_ii, readC, allOne, fillL, resE, tupled, ↓reduceIte, Nat.reduceEqDiff, Int.reduceEq, Int.reduceLT, Int.reduceLE, Nat.reduceAdd, Nat.reduceMul, Nat.reduceLT, Nat.reduceLeDiff, reduceCtorEq]
  refine loop_ind (fun (x : List (Int × Int) × List (Int × Int)) E df H => ps = x.1 ++ x.2 ∧ rawL ps = x.1.length + rawL x.2 ∧ E 1 = .ptr 0 0 ∧ E 2 = .int .i64 (x.1.length : Nat) ∧ df = [] ∧ H = [.cells [row ps rest u1, .int .u64 left]])
    (fun x => x.2.length) ([], ps) (by decide) (.inl rfl) ⟨rfl, by simp, rfl, rfl, rfl, rfl⟩ ?_
  intro ⟨pre, suf⟩ E df H ih hP
  obtain ⟨a1, a2, E1, E2, hdf, hH⟩ := hP
  dsimp only at a1 a2 E2
  subst hdf hH a1
  have m1 := fun H => many_px (2 * (pre ++ suf).length) (encs pairA (pre ++ suf) ++ rest) u1 H (by omega) (by rw [hfL_append, hf_pairA, hc]; rfl) f1
  simp only [List.length_append] at hn m1
  cases suf with
  | nil =>
    simp only [rawL, Nat.add_zero, List.length_nil] at a2 m1
    simp (disch := omega) only [wk, avalE, aactE, evPE, boundE, asNat, bv_seql cellsEq_ii, bv_sneqd cellsEq_ii, readC, allOne, fillL, resE, tupled, ↓reduceIte, Nat.reduceEqDiff, Int.reduceEq, Int.reduceLT, Int.reduceLE, Nat.reduceAdd, Nat.reduceMul, Nat.reduceLT, Nat.reduceLeDiff, reduceCtorEq, E1, E2, row, m1, purify, unownT, lend, unown, AV.hf, a2]
  | cons x r =>
    have p1 := fun H => ptr_px pre x r rest u1 H (by simp only [List.length_append]; exact hn) hc f1
    simp only [List.length_cons, row, List.length_append] at hn m1 p1
    by_cases hx : x.2 = 0
    · simp only [rawL, hx, if_true, Nat.add_zero] at a2
      simp (disch := omega) only [wk, avalE, aactE, evPE, boundE, asNat, bv_seql cellsEq_ii, bv_sneqd cellsEq_ii, readC, allOne, fillL, resE, tupled, ↓reduceIte, Nat.reduceEqDiff, Int.reduceEq, Int.reduceLT, Int.reduceLE, Nat.reduceAdd, Nat.reduceMul, Nat.reduceLT, Nat.reduceLeDiff, reduceCtorEq, E1, E2, row, m1, p1, hx, purify, unownT, lend, unown, AV.hf, a2]
    · simp (disch := omega) only [wk, avalE, aactE, evPE, boundE, asNat, bv_seql cellsEq_ii, bv_sneqd cellsEq_ii, readC, allOne, fillL, resE, tupled, ↓reduceIte, Nat.reduceEqDiff, Int.reduceEq, Int.reduceLT, Int.reduceLE, Nat.reduceAdd, Nat.reduceMul, Nat.reduceLT, Nat.reduceLeDiff, reduceCtorEq, E1, E2, row, m1, p1, hx]
      refine ih (pre ++ [x], r) _ _ _ (by simp) ?_
      exact ⟨by simp, by simp only [a2, rawL, hx, if_false, List.length_append, List.length_cons, List.length_nil]; omega, by simp only [en, ↓reduceIte, Nat.reduceEqDiff, E1], by simp only [en, ↓reduceIte, Nat.reduceEqDiff], rfl, by simp [row]⟩
theorem slotsahead_px (left : Int) (pre r : List (Int × Int)) (rest : List AV) (tk : Tk) (H : Heap) (hn : (pre ++ r).length ≤ 1000) (hc : hfL rest = true) (ht : tk.hf = true) :
    pcx (cbL tab) 118 [rowV (2 * (pre ++ r).length) (encs pairA (pre ++ r) ++ rest) tk left, .int .i64 (pre.length : Nat)] H = some (.plain (.int .u64 (lastP left pre))) := by
  obtain ⟨u1, e1, f1⟩ := lend_rowV (2 * (pre ++ r).length) (encs pairA (pre ++ r) ++ rest) tk left
  refine pcx_L rfl (by rw [List.map_cons, List.map_cons, List.map_nil, lendK_rowV, lendK_int]) (pc_wp (fi := c118) rfl ?_ (by simp [c118]) (by decide) ?_) rfl
  · simp only [pcOn, List.map_cons, List.map_nil, hfL, hf_lend_sl, hf_lend_int, hf_lend_bool, hf_lend_str, hfL_append, Bool.and_self, Bool.and_true, Bool.true_and, c118, hf_rowV, hf_lend_rowV, hc, ht, hf_pairA, AV.hf]
  unfold c118
  rw [List.map_cons, List.map_cons, List.map_nil, e1, rowV, lend_int]
  rcases List.eq_nil_or_concat pre with rfl | ⟨p', x, rfl⟩
  · simp (disch := omega) only [wk, avalE, aactE, evPE, boundE, asNat, bv_seql cellsEq_ii, bv_sneqd cellsEq_ii, readC, allOne, fillL, resE, tupled, ↓reduceIte, Nat.reduceEqDiff, Int.reduceEq, Int.reduceLT, Int.reduceLE, Nat.reduceAdd, Nat.reduceMul, Nat.reduceLT, Nat.reduceLeDiff, reduceCtorEq, purify, unownT, lend, unown, AV.hf, lastP, List.getLast?_nil]
  · have p1 := fun H => ptr_px p' x r rest u1 H (by simpa using hn) hc f1
    simp only [List.concat_eq_append, List.append_assoc, List.cons_append, List.nil_append, row, List.length_append, List.length_cons, List.length_nil] at *
    have e2 : ((p'.length : Int) + 1 - 1) = p'.length := by omega
    simp (disch := omega) only [wk, avalE, aactE, evPE, boundE, asNat, bv_seql cellsEq_ii, bv_sneqd cellsEq_ii, readC, allOne, fillL, resE, tupled, ↓reduceIte, Nat.reduceEqDiff, Int.reduceEq, Int.reduceLT, Int.reduceLE, Nat.reduceAdd, Nat.reduceMul, Nat.reduceLT, Nat.reduceLeDiff, reduceCtorEq, e2, p1, purify, unownT, lend, unown, AV.hf, lastP_snoc]
theorem less_px (x y : Int × Int) (H : Heap) : pcx (cbL tab) 178 [.agg (pairA x), .agg (pairA y)] H = some (.plain (.bool (decide (x.1 < y.1)))) := by
  refine pcx_N rfl (pc_wp (fi := c178) rfl rfl (by simp [c178]) (by decide) ?_)
  unfold c178
  simp (disch := omega) only [wk, avalE, aactE, evPE, boundE, asNat, bv_seql cellsEq_ii, bv_sneqd cellsEq_ii, readC, allOne, fillL, resE, tupled, ↓reduceIte, Nat.reduceEqDiff, Int.reduceEq, Int.reduceLT, Int.reduceLE, Nat.reduceAdd, Nat.reduceMul, Nat.reduceLT, Nat.reduceLeDiff, reduceCtorEq, lend, unown, pairA, purify, unownT, lend, unown, AV.hf]
def cmpI (a b : Int) : Int := if a < b then -1 else if b < a then 1 else 0
theorem cmp_px (x : Int × Int) (key : Int) (H : Heap) : pcx (cbL tab) 192 [.agg (pairA x), .int .u64 key] H = some (.plain (.int .i64 (cmpI x.1 key))) := by
  refine pcx_N rfl (pc_wp (fi := c192) rfl rfl (by simp [c192]) (by decide) ?_)
  unfold c192
  by_cases h1 : x.1 < key
  · simp (disch := omega) only [wk, avalE, aactE, evPE, boundE, asNat, bv_seql cellsEq_ii, bv_sneqd cellsEq_ii, readC, allOne, fillL, resE, tupled, ↓reduceIte, Nat.reduceEqDiff, Int.reduceEq, Int.reduceLT, Int.reduceLE, Nat.reduceAdd, Nat.reduceMul, Nat.reduceLT, Nat.reduceLeDiff, reduceCtorEq, lend, unown, pairA, purify, unownT, lend, unown, AV.hf, cmpI, h1]
    rfl
  by_cases h2 : key < x.1
  · simp (disch := omega) only [wk, avalE, aactE, evPE, boundE, asNat, bv_seql cellsEq_ii, bv_sneqd cellsEq_ii, readC, allOne, fillL, resE, tupled, ↓reduceIte, Nat.reduceEqDiff, Int.reduceEq, Int.reduceLT, Int.reduceLE, Nat.reduceAdd, Nat.reduceMul, Nat.reduceLT, Nat.reduceLeDiff, reduceCtorEq, lend, unown, pairA, purify, unownT, lend, unown, AV.hf, cmpI, h1, h2]
  · simp (disch := omega) only [wk, avalE, aactE, evPE, boundE, asNat, bv_seql cellsEq_ii, bv_sneqd cellsEq_ii, readC, allOne, fillL, resE, tupled, ↓reduceIte, Nat.reduceEqDiff, Int.reduceEq, Int.reduceLT, Int.reduceLE, Nat.reduceAdd, Nat.reduceMul, Nat.reduceLT, Nat.reduceLeDiff, reduceCtorEq, lend, unown, pairA, purify, unownT, lend, unown, AV.hf, cmpI, h1, h2]
theorem ptrAt_px (i : Nat) (H : Heap) (hi : i ≤ 1000) : pcx (cbL tab) 148 [.int .i64 (i : Nat)] H = some (.plain (.int .u64 (2 * (i : Int) + 1))) := by
  refine pcx_N rfl (pc_wp (fi := c148) rfl rfl (by simp [c148]) (by decide) ?_)
  unfold c148
  simp (disch := omega) only [wk, avalE, aactE, evPE, boundE, asNat, bv_seql cellsEq_ii, bv_sneqd cellsEq_ii, readC, allOne, fillL, resE, tupled, ↓reduceIte, Nat.reduceEqDiff, Int.reduceEq, Int.reduceLT, Int.reduceLE, Nat.reduceAdd, Nat.reduceMul, Nat.reduceLT, Nat.reduceLeDiff, reduceCtorEq, lend_int, purify, unownT, lend, unown, AV.hf]
theorem keyAt_px (i : Nat) (H : Heap) (hi : i ≤ 1000) : pcx (cbL tab) 149 [.int .i64 (i : Nat)] H = some (.plain (.int .u64 (2 * (i : Int)))) := by
  refine pcx_N rfl (pc_wp (fi := c149) rfl rfl (by simp [c149]) (by decide) ?_)
  unfold c149
  simp (disch := omega) only [wk, avalE, aactE, evPE, boundE, asNat, bv_seql cellsEq_ii, bv_sneqd cellsEq_ii, readC, allOne, fillL, resE, tupled, ↓reduceIte, Nat.reduceEqDiff, Int.reduceEq, Int.reduceLT, Int.reduceLE, Nat.reduceAdd, Nat.reduceMul, Nat.reduceLT, Nat.reduceLeDiff, reduceCtorEq, lend_int, purify, unownT, lend, unown, AV.hf]
end Go.Proofs.Ytailfegmnkldoaa
