/- THE WALKS OF THE PROGRAM'S SMALL FUNCTIONS FOR SLOTS. No condition but those stated. -/
import Derived.Test.YtailfegmnkldoaaS1
import Derived.Test.YtailfegmnkldoaaAmRng
set_option linter.unusedSimpArgs false
set_option linter.unusedVariables false
set_option linter.unusedSectionVars false
namespace Go.Proofs.Ytailfegmnkldoaa
open Go Go.Am Go.Slots
set_option maxHeartbeats 4000000
set_option maxRecDepth 10000
theorem must_px (b : Bool) (e : Int) (H : Heap) : pcx (cbL tab) 145 [.bool b, .int .i64 e] H = if b = true then some (.plain (.tup [])) else some (.pan [(.iface 25 (.int .i64 e), false)]) := by
  cases b
  · rw [if_neg (by simp)]
    refine pcx_N rfl (pc_wp (fi := c145) rfl rfl (by simp [c145]) (by decide) ?_)
    unfold c145
    simp (disch := omega) only [wk, avalE, aactE, evPE, boundE, asNat, bv_seql cellsEq_ii, bv_sneqd cellsEq_ii, readC, allOne, fillL, resE, tupled, ↓reduceIte, Nat.reduceEqDiff, Int.reduceEq, Int.reduceLT, Int.reduceLE, Nat.reduceAdd, Nat.reduceMul, Nat.reduceLT, Nat.reduceLeDiff, reduceCtorEq, lend_int, lend_bool, purify, hfL, AV.hf, Bool.not_false, Bool.false_eq_true, Bool.and_true]
  · rw [if_pos rfl]
    refine pcx_N rfl (pc_wp (fi := c145) rfl rfl (by simp [c145]) (by decide) ?_)
    unfold c145
    simp (disch := omega) only [wk, avalE, aactE, evPE, boundE, asNat, bv_seql cellsEq_ii, bv_sneqd cellsEq_ii, readC, allOne, fillL, resE, tupled, ↓reduceIte, Nat.reduceEqDiff, Int.reduceEq, Int.reduceLT, Int.reduceLE, Nat.reduceAdd, Nat.reduceMul, Nat.reduceLT, Nat.reduceLeDiff, reduceCtorEq, lend_int, lend_bool, purify, unownT, lend, unown, AV.hf, hfL, Bool.not_true, Bool.false_eq_true]
theorem many_px (n : Nat) (cs : List AV) (tk : Tk) (H : Heap) (hn : (n : Int) ≤ 9223372036854775807) (hc : hfL cs = true) (ht : tk.hf = true) : pcx (cbL tab) 146 [.sl 1 n cs tk] H = some (.plain (.int .i64 ((n : Int) / 2))) := by
  obtain ⟨u1, e1, f1⟩ := lend_sl 1 n cs tk
  refine pcx_L rfl (by rw [List.map_cons, List.map_nil, lendK_sl]) (pc_wp (fi := c146) rfl ?_ (by simp [c146]) (by decide) ?_) rfl
  · simp only [pcOn, List.map_cons, List.map_nil, hfL, hf_lend_sl, hf_lend_int, hf_lend_bool, hf_lend_str, hfL_append, Bool.and_self, Bool.and_true, Bool.true_and, c146, AV.hf, hc, ht]
  unfold c146
  rw [List.map_cons, List.map_nil, e1]
  simp (disch := omega) only [wk, avalE, aactE, evPE, boundE, asNat, bv_seql cellsEq_ii, bv_sneqd cellsEq_ii, readC, allOne, fillL, resE, tupled, ↓reduceIte, Nat.reduceEqDiff, Int.reduceEq, Int.reduceLT, Int.reduceLE, Nat.reduceAdd, Nat.reduceMul, Nat.reduceLT, Nat.reduceLeDiff, reduceCtorEq, purify, unownT, lend, unown, AV.hf]
theorem slotsright_px (left : Int) (n : Nat) (cs : List AV) (tk : Tk) (H : Heap) (hn : (n : Int) ≤ 9223372036854775807) (hc : hfL cs = true) (ht : tk.hf = true) : pcx (cbL tab) 115 [rowV n cs tk left] H = some (.plain (.bool (decide (right left n)))) := by
  obtain ⟨u1, e1, f1⟩ := lend_sl 1 n cs tk
  have hlend : lend (rowV n cs tk left) = rowV n cs u1 left := by
    cases tk <;> cases e1 <;> rfl
  refine pcx_L rfl (by rw [List.map_cons, List.map_nil, rowV, lendK_agg, List.map_cons, List.map_cons, List.map_nil, lendK_sl, lendK_int]) (pc_wp (fi := c115) rfl ?_ (by simp [c115]) (by decide) ?_) rfl
  · rw [← rowV]; simp only [pcOn, List.map_cons, List.map_nil, hfL, hf_lend_sl, hf_lend_int, hf_lend_bool, hf_lend_str, hfL_append, Bool.and_self, Bool.and_true, Bool.true_and, c115, hlend]; simp [rowV, AV.hf, hfL, hc, ht, f1]
  rw [← rowV]
  unfold c115
  rw [List.map_cons, List.map_nil, hlend, rowV]
  have m1 := fun H => many_px n cs u1 H hn hc f1
  by_cases h1 : left = 0
  · subst h1
    have : ¬ right 0 n := fun h => h.1 rfl
    simp (disch := omega) only [wk, avalE, aactE, evPE, boundE, asNat, bv_seql cellsEq_ii, bv_sneqd cellsEq_ii, readC, allOne, fillL, resE, tupled, ↓reduceIte, Nat.reduceEqDiff, Int.reduceEq, Int.reduceLT, Int.reduceLE, Nat.reduceAdd, Nat.reduceMul, Nat.reduceLT, Nat.reduceLeDiff, reduceCtorEq, purify, unownT, lend, unown, AV.hf, this]
  by_cases h2 : n % 2 = 0
  case neg =>
    have : ¬ right left n := fun h => h2 h.2.1
    simp (disch := omega) only [wk, avalE, aactE, evPE, boundE, asNat, bv_seql cellsEq_ii, bv_sneqd cellsEq_ii, readC, allOne, fillL, resE, tupled, ↓reduceIte, Nat.reduceEqDiff, Int.reduceEq, Int.reduceLT, Int.reduceLE, Nat.reduceAdd, Nat.reduceMul, Nat.reduceLT, Nat.reduceLeDiff, reduceCtorEq, h1, m1, purify, unownT, lend, unown, AV.hf, this]
  by_cases h3 : 4 ≤ n
  case neg =>
    have : ¬ right left n := fun h => h3 h.2.2.1
    simp (disch := omega) only [wk, avalE, aactE, evPE, boundE, asNat, bv_seql cellsEq_ii, bv_sneqd cellsEq_ii, readC, allOne, fillL, resE, tupled, ↓reduceIte, Nat.reduceEqDiff, Int.reduceEq, Int.reduceLT, Int.reduceLE, Nat.reduceAdd, Nat.reduceMul, Nat.reduceLT, Nat.reduceLeDiff, reduceCtorEq, h1, m1, purify, unownT, lend, unown, AV.hf, this]
  have : right left n ↔ (n : Int) / 2 ≤ 28 := ⟨fun h => by have := h.2.2.2; omega, fun h => ⟨h1, h2, h3, by omega⟩⟩
  simp (disch := omega) only [wk, avalE, aactE, evPE, boundE, asNat, bv_seql cellsEq_ii, bv_sneqd cellsEq_ii, readC, allOne, fillL, resE, tupled, ↓reduceIte, Nat.reduceEqDiff, Int.reduceEq, Int.reduceLT, Int.reduceLE, Nat.reduceAdd, Nat.reduceMul, Nat.reduceLT, Nat.reduceLeDiff, reduceCtorEq, h1, m1, purify, unownT, lend, unown, AV.hf, this]
theorem ptr_px (pre : List (Int × Int)) (x : Int × Int) (r : List (Int × Int)) (rest : List AV) (tk : Tk) (H : Heap) (hn : (pre ++ x :: r).length ≤ 1000) (hc : hfL rest = true) (ht : tk.hf = true) :
    pcx (cbL tab) 117 [row (pre ++ x :: r) rest tk, .int .i64 (pre.length : Nat)] H = some (.plain (.int .u64 x.2)) := by
  obtain ⟨u1, e1, f1⟩ := lend_sl 1 (2 * (pre ++ x :: r).length) (encs pairA (pre ++ x :: r) ++ rest) tk
  refine pcx_L rfl (by rw [List.map_cons, List.map_cons, List.map_nil, row, lendK_sl, lendK_int]) (pc_wp (fi := c117) rfl ?_ (by simp [c117]) (by decide) ?_) rfl
  · simp only [pcOn, List.map_cons, List.map_nil, hfL, hf_lend_sl, hf_lend_int, hf_lend_bool, hf_lend_str, hfL_append, Bool.and_self, Bool.and_true, Bool.true_and, c117, AV.hf, hc, ht, hf_pairA]
  unfold c117
  rw [List.map_cons, List.map_cons, List.map_nil, e1, lend_int]
  simp only [List.length_append, List.length_cons] at hn
  simp (disch := omega) only [wk, avalE, aactE, evPE, boundE, asNat, bv_seql cellsEq_ii, bv_sneqd cellsEq_ii, readC, allOne, fillL, resE, tupled, ↓reduceIte, Nat.reduceEqDiff, Int.reduceEq, Int.reduceLT, Int.reduceLE, Nat.reduceAdd, Nat.reduceMul, Nat.reduceLT, Nat.reduceLeDiff, reduceCtorEq, row_ptr, purify, unownT, lend, unown, AV.hf]
theorem key_px (pre : List (Int × Int)) (x : Int × Int) (r : List (Int × Int)) (rest : List AV) (tk : Tk) (H : Heap) (hn : (pre ++ x :: r).length ≤ 1000) (hc : hfL rest = true) (ht : tk.hf = true) :
    pcx (cbL tab) 119 [row (pre ++ x :: r) rest tk, .int .i64 (pre.length : Nat)] H = some (.plain (.int .u64 x.1)) := by
  obtain ⟨u1, e1, f1⟩ := lend_sl 1 (2 * (pre ++ x :: r).length) (encs pairA (pre ++ x :: r) ++ rest) tk
  refine pcx_L rfl (by rw [List.map_cons, List.map_cons, List.map_nil, row, lendK_sl, lendK_int]) (pc_wp (fi := c119) rfl ?_ (by simp [c119]) (by decide) ?_) rfl
  · simp only [pcOn, List.map_cons, List.map_nil, hfL, hf_lend_sl, hf_lend_int, hf_lend_bool, hf_lend_str, hfL_append, Bool.and_self, Bool.and_true, Bool.true_and, c119, AV.hf, hc, ht, hf_pairA]
  unfold c119
  rw [List.map_cons, List.map_cons, List.map_nil, e1, lend_int]
  simp only [List.length_append, List.length_cons] at hn
  simp (disch := omega) only [wk, avalE, aactE, evPE, boundE, asNat, bv_seql cellsEq_ii, bv_sneqd cellsEq_ii, readC, allOne, fillL, resE, tupled, ↓reduceIte, Nat.reduceEqDiff, Int.reduceEq, Int.reduceLT, Int.reduceLE, Nat.reduceAdd, Nat.reduceMul, Nat.reduceLT, Nat.reduceLeDiff, reduceCtorEq, row_key, purify, unownT, lend, unown, AV.hf]
theorem lend_rowV (n : Nat) (cs : List AV) (tk : Tk) (left : Int) : ∃ u, lend (rowV n cs tk left) = rowV n cs u left ∧ u.hf = true := by
  cases tk <;> exact ⟨_, rfl, rfl⟩
theorem hf_rowV (n : Nat) (cs : List AV) (tk : Tk) (left : Int) : (rowV n cs tk left).hf = (hfL cs && tk.hf) := by simp [rowV, AV.hf, hfL]
theorem hf_lend_rowV (n : Nat) (cs : List AV) (tk : Tk) (left : Int) : (lend (rowV n cs tk left)).hf = hfL cs := by
  cases tk <;> simp [rowV, lend, unown, AV.hf, hfL, Tk.hf]
theorem lendK_rowV (H : Heap) (k n : Nat) (cs : List AV) (tk : Tk) (left : Int) : lendK H k (rowV n cs tk left) = rowV n cs tk left := by
  cases k with
  | zero => rfl
  | succ k => rw [rowV, lendK_agg, List.map_cons, List.map_cons, List.map_nil, lendK_sl, lendK_int]
theorem slotsraw_px (left : Int) (ps : List (Int × Int)) (rest : List AV) (tk : Tk) (H : Heap) (hn : ps.length ≤ 1000) (hc : hfL rest = true) (ht : tk.hf = true) :
    pcx (cbL tab) 116 [rowV (2 * ps.length) (encs pairA ps ++ rest) tk left] H = some (.plain (.int .i64 (rawL ps : Nat))) := by
  obtain ⟨u1, e1, f1⟩ := lend_rowV (2 * ps.length) (encs pairA ps ++ rest) tk left
  refine pcx_L rfl (by rw [List.map_cons, List.map_nil, lendK_rowV]) (pc_wp (fi := c116) rfl ?_ (by simp [c116]) (by decide) ?_) rfl
  · simp only [pcOn, List.map_cons, List.map_nil, hfL, hf_lend_sl, hf_lend_int, hf_lend_bool, hf_lend_str, hfL_append, Bool.and_self, Bool.and_true, Bool.true_and, c116, hf_rowV, hf_lend_rowV, hc, ht, hf_pairA]
  unfold c116
  rw [List.map_cons, List.map_nil, e1, rowV]
  simp (disch := omega) only [wk, avalE, aactE, evPE, boundE, asNat, bv_seql cellsEq_ii, bv_sneqd cellsEq_ii, readC, allOne, fillL, resE, tupled, ↓reduceIte, Nat.reduceEqDiff, Int.reduceEq, Int.reduceLT, Int.reduceLE, Nat.reduceAdd, Nat.reduceMul, Nat.reduceLT, Nat.reduceLeDiff, reduceCtorEq]
  refine loop_ind (fun (x : List (Int × Int) × List (Int × Int)) E df H => ps = x.1 ++ x.2 ∧ rawL ps = x.1.length + rawL x.2 ∧ E 1 = .ptr 0 0 ∧ E 2 = .int .i64 (x.1.length : Nat) ∧ df = [] ∧ H = [.cells [row ps rest u1, .int .u64 left]])
    (fun x => x.2.length) ([], ps) (by decide) (.inl rfl) ⟨rfl, by simp, rfl, rfl, rfl, rfl⟩ ?_
  intro ⟨pre, suf⟩ E df H ih hP
  obtain ⟨a1, a2, E1, E2, hdf, hH⟩ := hP
  dsimp only at a1 a2 E2
  subst hdf hH a1
  have m1 := fun H => many_px (2 * (pre ++ suf).length) (encs pairA (pre ++ suf) ++ rest) u1 H (by omega) (by rw [hfL_append, hf_pairA, hc]; rfl) f1
  simp only [List.length_append] at hn m1
  cases suf with
  | nil =>
    simp only [rawL, Nat.add_zero, List.length_nil] at a2 m1
    simp (disch := omega) only [wk, avalE, aactE, evPE, boundE, asNat, bv_seql cellsEq_ii, bv_sneqd cellsEq_ii, readC, allOne, fillL, resE, tupled, ↓reduceIte, Nat.reduceEqDiff, Int.reduceEq, Int.reduceLT, Int.reduceLE, Nat.reduceAdd, Nat.reduceMul, Nat.reduceLT, Nat.reduceLeDiff, reduceCtorEq, E1, E2, row, m1, purify, unownT, lend, unown, AV.hf, a2]
  | cons x r =>
    have p1 := fun H => ptr_px pre x r rest u1 H (by simp only [List.length_append]; exact hn) hc f1
    simp only [List.length_cons, row, List.length_append] at hn m1 p1
    by_cases hx : x.2 = 0
    · simp only [rawL, hx, if_true, Nat.add_zero] at a2
      simp (disch := omega) only [wk, avalE, aactE, evPE, boundE, asNat, bv_seql cellsEq_ii, bv_sneqd cellsEq_ii, readC, allOne, fillL, resE, tupled, ↓reduceIte, Nat.reduceEqDiff, Int.reduceEq, Int.reduceLT, Int.reduceLE, Nat.reduceAdd, Nat.reduceMul, Nat.reduceLT, Nat.reduceLeDiff, reduceCtorEq, E1, E2, row, m1, p1, hx, purify, unownT, lend, unown, AV.hf, a2]
    · simp (disch := omega) only [wk, avalE, aactE, evPE, boundE, asNat, bv_seql cellsEq_ii, bv_sneqd cellsEq_ii, readC, allOne, fillL, resE, tupled, ↓reduceIte, Nat.reduceEqDiff, Int.reduceEq, Int.reduceLT, Int.reduceLE, Nat.reduceAdd, Nat.reduceMul, Nat.reduceLT, Nat.reduceLeDiff, reduceCtorEq, E1, E2, row, m1, p1, hx]
      refine ih (pre ++ [x], r) _ _ _ (by simp) ?_
      exact ⟨by simp, by simp only [a2, rawL, hx, if_false, List.length_append, List.length_cons, List.length_nil]; omega, by simp only [en, ↓reduceIte, Nat.reduceEqDiff, E1], by simp only [en, ↓reduceIte, Nat.reduceEqDiff], rfl, by simp [row]⟩
theorem slotsahead_px (left : Int) (pre r : List (Int × Int)) (rest : List AV) (tk : Tk) (H : Heap) (hn : (pre ++ r).length ≤ 1000) (hc : hfL rest = true) (ht : tk.hf = true) :
    pcx (cbL tab) 118 [rowV (2 * (pre ++ r).length) (encs pairA (pre ++ r) ++ rest) tk left, .int .i64 (pre.length : Nat)] H = some (.plain (.int .u64 (lastP left pre))) := by
  obtain ⟨u1, e1, f1⟩ := lend_rowV (2 * (pre ++ r).length) (encs pairA (pre ++ r) ++ rest) tk left
  refine pcx_L rfl (by rw [List.map_cons, List.map_cons, List.map_nil, lendK_rowV, lendK_int]) (pc_wp (fi := c118) rfl ?_ (by simp [c118]) (by decide) ?_) rfl
  · simp only [pcOn, List.map_cons, List.map_nil, hfL, hf_lend_sl, hf_lend_int, hf_lend_bool, hf_lend_str, hfL_append, Bool.and_self, Bool.and_true, Bool.true_and, c118, hf_rowV, hf_lend_rowV, hc, ht, hf_pairA, AV.hf]
  unfold c118
  rw [List.map_cons, List.map_cons, List.map_nil, e1, rowV, lend_int]
  rcases List.eq_nil_or_concat pre with rfl | ⟨p', x, rfl⟩
  · simp (disch := omega) only [wk, avalE, aactE, evPE, boundE, asNat, bv_seql cellsEq_ii, bv_sneqd cellsEq_ii, readC, allOne, fillL, resE, tupled, ↓reduceIte, Nat.reduceEqDiff, Int.reduceEq, Int.reduceLT, Int.reduceLE, Nat.reduceAdd, Nat.reduceMul, Nat.reduceLT, Nat.reduceLeDiff, reduceCtorEq, purify, unownT, lend, unown, AV.hf, lastP, List.getLast?_nil]
  · have p1 := fun H => ptr_px p' x r rest u1 H (by simpa using hn) hc f1
    simp only [List.concat_eq_append, List.append_assoc, List.cons_append, List.nil_append, row, List.length_append, List.length_cons, List.length_nil] at *
    have e2 : ((p'.length : Int) + 1 - 1) = p'.length := by omega
    simp (disch := omega) only [wk, avalE, aactE, evPE, boundE, asNat, bv_seql cellsEq_ii, bv_sneqd cellsEq_ii, readC, allOne, fillL, resE, tupled, ↓reduceIte, Nat.reduceEqDiff, Int.reduceEq, Int.reduceLT, Int.reduceLE, Nat.reduceAdd, Nat.reduceMul, Nat.reduceLT, Nat.reduceLeDiff, reduceCtorEq, e2, p1, purify, unownT, lend, unown, AV.hf, lastP_snoc]
theorem less_px (x y : Int × Int) (H : Heap) : pcx (cbL tab) 178 [.agg (pairA x), .agg (pairA y)] H = some (.plain (.bool (decide (x.1 < y.1)))) := by
  refine pcx_N rfl (pc_wp (fi := c178) rfl rfl (by simp [c178]) (by decide) ?_)
  unfold c178
  simp (disch := omega) only [wk, avalE, aactE, evPE, boundE, asNat, bv_seql cellsEq_ii, bv_sneqd cellsEq_ii, readC, allOne, fillL, resE, tupled, ↓reduceIte, Nat.reduceEqDiff, Int.reduceEq, Int.reduceLT, Int.reduceLE, Nat.reduceAdd, Nat.reduceMul, Nat.reduceLT, Nat.reduceLeDiff, reduceCtorEq, lend, unown, pairA, purify, unownT, lend, unown, AV.hf]
def cmpI (a b : Int) : Int := if a < b then -1 else if b < a then 1 else 0
theorem cmp_px (x : Int × Int) (key : Int) (H : Heap) : pcx (cbL tab) 192 [.agg (pairA x), .int .u64 key] H = some (.plain (.int .i64 (cmpI x.1 key))) := by
  refine pcx_N rfl (pc_wp (fi := c192) rfl rfl (by simp [c192]) (by decide) ?_)
  unfold c192
  by_cases h1 : x.1 < key
  · simp (disch := omega) only [wk, avalE, aactE, evPE, boundE, asNat, bv_seql cellsEq_ii, bv_sneqd cellsEq_ii, readC, allOne, fillL, resE, tupled, ↓reduceIte, Nat.reduceEqDiff, Int.reduceEq, Int.reduceLT, Int.reduceLE, Nat.reduceAdd, Nat.reduceMul, Nat.reduceLT, Nat.reduceLeDiff, reduceCtorEq, lend, unown, pairA, purify, unownT, lend, unown, AV.hf, cmpI, h1]
    rfl
  by_cases h2 : key < x.1
  · simp (disch := omega) only [wk, avalE, aactE, evPE, boundE, asNat, bv_seql cellsEq_ii, bv_sneqd cellsEq_ii, readC, allOne, fillL, resE, tupled, ↓reduceIte, Nat.reduceEqDiff, Int.reduceEq, Int.reduceLT, Int.reduceLE, Nat.reduceAdd, Nat.reduceMul, Nat.reduceLT, Nat.reduceLeDiff, reduceCtorEq, lend, unown, pairA, purify, unownT, lend, unown, AV.hf, cmpI, h1, h2]
  · simp (disch := omega) only [wk, avalE, aactE, evPE, boundE, asNat, bv_seql cellsEq_ii, bv_sneqd cellsEq_ii, readC, allOne, fillL, resE, tupled, ↓reduceIte, Nat.reduceEqDiff, Int.reduceEq, Int.reduceLT, Int.reduceLE, Nat.reduceAdd, Nat.reduceMul, Nat.reduceLT, Nat.reduceLeDiff, reduceCtorEq, lend, unown, pairA, purify, unownT, lend, unown, AV.hf, cmpI, h1, h2]
theorem ptrAt_px (i : Nat) (H : Heap) (hi : i ≤ 1000) : pcx (cbL tab) 148 [.int .i64 (i : Nat)] H = some (.plain (.int .u64 (2 * (i : Int) + 1))) := by
  refine pcx_N rfl (pc_wp (fi := c148) rfl rfl (by simp [c148]) (by decide) ?_)
  unfold c148
  simp (disch := omega) only [wk, avalE, aactE, evPE, boundE, asNat, bv_seql cellsEq_ii, bv_sneqd cellsEq_ii, readC, allOne, fillL, resE, tupled, ↓reduceIte, Nat.reduceEqDiff, Int.reduceEq, Int.reduceLT, Int.reduceLE, Nat.reduceAdd, Nat.reduceMul, Nat.reduceLT, Nat.reduceLeDiff, reduceCtorEq, lend_int, purify, unownT, lend, unown, AV.hf]
theorem keyAt_px (i : Nat) (H : Heap) (hi : i ≤ 1000) : pcx (cbL tab) 149 [.int .i64 (i : Nat)] H = some (.plain (.int .u64 (2 * (i : Int)))) := by
  refine pcx_N rfl (pc_wp (fi := c149) rfl rfl (by simp [c149]) (by decide) ?_)
  unfold c149
  simp (disch := omega) only [wk, avalE, aactE, evPE, boundE, asNat, bv_seql cellsEq_ii, bv_sneqd cellsEq_ii, readC, allOne, fillL, resE, tupled, ↓reduceIte, Nat.reduceEqDiff, Int.reduceEq, Int.reduceLT, Int.reduceLE, Nat.reduceAdd, Nat.reduceMul, Nat.reduceLT, Nat.reduceLeDiff, reduceCtorEq, lend_int, purify, unownT, lend, unown, AV.hf]
/-- What is asked of a consumer: of a state that memory shows. -/
structure YS {σ : Type} (id k0 : Nat) (cnt : σ → Nat) (ok : σ → Nat → Int × Int → Prop) (R : σ → Heap → Prop) (stp : σ → Nat → Int × Int → σ × Bool) : Prop where
  step : ∀ s H (j : Nat) x, k0 ≤ H.length → cnt s ≤ j → j ≤ 1000 → ok s j x → R s H → cnt (stp s j x).1 ≤ j + 1 ∧ ∃ H', (cbL tab).yl id [.int .i64 (j : Nat), .agg (pairA x)] H = some (.ret (.bool (stp s j x).2), H') ∧ R (stp s j x).1 H' ∧ H.length ≤ H'.length ∧
    ∀ i o, k0 ≤ i → (∀ s, o ≠ .tok s) → H[i]? = some o → H'[i]? = some o
  push : ∀ s H o, R s H → R s (H ++ [o])
  set : ∀ s H i o o', k0 ≤ i → R s H → (∀ s, o ≠ .tok s) → H[i]? = some o → R s (H.set i o')
theorem each_ic_no {σ : Type} {R : σ → Heap → Prop} {stp : σ → Nat → Int × Int → σ × Bool} {id k0 a b : Nat} {cnt : σ → Nat} {ok : σ → Nat → Int × Int → Prop} (ys : YS id k0 cnt ok R stp) {s0 : σ} {H : Heap} (hk : k0 ≤ H.length) (hR : R s0 H) {left : Int} {n : Nat} {cs : List AV} {tk : Tk}
    (ha : H[a]? = some (.cells [.sl 1 n cs tk])) (hb : H[b]? = some (.cells [.int .u64 left])) (hn : (n : Int) ≤ 9223372036854775807) (hc : hfL cs = true) (ht : tk.hf = true) (hr : ¬ right left n) :
    ∃ o H', (cbL tab).ic 114 [.yld id, .ptr a 0, .ptr b 0] H = some (o, H') ∧ o = .ret (.tup []) ∧ R s0 H' ∧ H.length ≤ H'.length := by
  refine ic_wp (fi := c114) rfl (by simp [pcOn, c114, lend, unown, hfL, AV.hf]) (by simp [c114]) (by decide) ?_
  unfold c114
  have r1 := fun H => slotsright_px left n cs tk H hn hc ht
  unfold rowV at r1
  have e0 : List.length H < (H ++ [AObj.cells [AV.sl 0 0 [] Tk.z, AV.int IntKind.u64 0]]).length := by simp
  simp (disch := omega) only [wk, avalE, aactE, evPE, boundE, asNat, bv_seql cellsEq_ii, bv_sneqd cellsEq_ii, readC, allOne, fillL, resE, tupled, ↓reduceIte, Nat.reduceEqDiff, Int.reduceEq, Int.reduceLT, Int.reduceLE, Nat.reduceAdd, Nat.reduceMul, Nat.reduceLT, Nat.reduceLeDiff, reduceCtorEq, ha, hb, List.drop_zero, List.length_append]
  have e1 : ∀ o : AObj, (H ++ [o])[H.length]? = some o := fun o => by simp
  have e2 : ∀ o o' : AObj, ((H ++ [o]).set H.length o')[H.length]? = some o' := fun o o' => by simp
  simp (disch := omega) only [wk, avalE, aactE, evPE, boundE, asNat, bv_seql cellsEq_ii, bv_sneqd cellsEq_ii, readC, allOne, fillL, resE, tupled, ↓reduceIte, Nat.reduceEqDiff, Int.reduceEq, Int.reduceLT, Int.reduceLE, Nat.reduceAdd, Nat.reduceMul, Nat.reduceLT, Nat.reduceLeDiff, reduceCtorEq, ha, hb, e1, e2, r1, hr, Bool.not_false]
  exact ⟨ys.set _ _ _ _ _ hk (ys.push _ _ _ hR) (fun s e => by cases e) (e1 _), by simp⟩
theorem each_ic {σ : Type} {R : σ → Heap → Prop} {stp : σ → Nat → Int × Int → σ × Bool} {id k0 a b : Nat} {cnt : σ → Nat} {ok : σ → Nat → Int × Int → Prop} (ys : YS id k0 cnt ok R stp) {s0 : σ} {H : Heap} (hk : k0 ≤ H.length) (hR : R s0 H) {left : Int} {ps : List (Int × Int)} {rest : List AV} {tk : Tk}
    (ha : H[a]? = some (.cells [row ps rest tk])) (hb : H[b]? = some (.cells [.int .u64 left])) (hc : hfL rest = true) (ht : tk.hf = true) (hr : right left (2 * ps.length)) (hcnt : cnt s0 = 0) (hok : okRun ok stp s0 (eachL left 0 ps)) :
    ∃ o H', (cbL tab).ic 114 [.yld id, .ptr a 0, .ptr b 0] H = some (o, H') ∧ o = .ret (.tup []) ∧ R (runY stp s0 (eachL left 0 ps)) H' ∧ H.length ≤ H'.length := by
  refine ic_wp (fi := c114) rfl (by simp [pcOn, c114, lend, unown, hfL, AV.hf]) (by simp [c114]) (by decide) ?_
  unfold c114
  have hn := hr.2.2.2
  have hcs : hfL (encs pairA ps ++ rest) = true := by rw [hfL_append, hf_pairA, hc]; rfl
  have r1 := fun H => slotsright_px left (2 * ps.length) (encs pairA ps ++ rest) tk H (by omega) hcs ht
  have r2 := fun H => slotsraw_px left ps rest tk H (by omega) hc ht
  unfold rowV at r1 r2
  rw [row] at ha
  have e1 : ∀ o : AObj, (H ++ [o])[H.length]? = some o := fun o => by simp
  have e2 : ∀ o o' : AObj, ((H ++ [o]).set H.length o')[H.length]? = some o' := fun o o' => by simp
  simp (disch := omega) only [wk, avalE, aactE, evPE, boundE, asNat, bv_seql cellsEq_ii, bv_sneqd cellsEq_ii, readC, allOne, fillL, resE, tupled, ↓reduceIte, Nat.reduceEqDiff, Int.reduceEq, Int.reduceLT, Int.reduceLE, Nat.reduceAdd, Nat.reduceMul, Nat.reduceLT, Nat.reduceLeDiff, reduceCtorEq, ha, hb, e1, e2, r1, r2, hr, Bool.not_true]
  have hrw := rawL_le ps
  refine loop_ind (fun (x : List (Int × Int) × List (Int × Int) × σ) E df H1 => ps = x.1 ++ x.2.1 ∧ rawL ps = x.1.length + rawL x.2.1 ∧ runY stp s0 (eachL left 0 ps) = runY stp x.2.2 (eachL (lastP left x.1) x.1.length x.2.1) ∧ E 0 = .yld id ∧ E 4 = .ptr H.length 0 ∧
      E 13 = .int .i64 (rawL ps : Nat) ∧ E 14 = .int .i64 (x.1.length : Nat) ∧ df = [] ∧ H1[H.length]? = some (.cells [row ps rest tk, .int .u64 left]) ∧ R x.2.2 H1 ∧ H.length ≤ H1.length ∧ cnt x.2.2 ≤ x.1.length ∧ okRun ok stp x.2.2 (eachL (lastP left x.1) x.1.length x.2.1))
    (fun x => x.2.1.length) ([], ps, s0) (by decide) (.inl rfl) ⟨rfl, by simp, rfl, rfl, rfl, rfl, rfl, rfl, e2 _ _, ys.set _ _ _ _ _ hk (ys.push _ _ _ hR) (fun s e => by cases e) (e1 _), by simp, by simp [hcnt], hok⟩ ?_
  intro ⟨pre, suf, s⟩ E df H1 ih hP
  obtain ⟨a1, a2, a3, E0, E4, E13, E14, hdf, hH, hR1, hle, hct, hok1⟩ := hP
  dsimp only at a1 a2 a3 E14 hR1 hct hok1
  subst hdf a1
  simp only [List.length_append] at hn
  cases suf with
  | nil =>
    simp only [rawL, Nat.add_zero, eachL, runY] at a2 a3
    simp (disch := omega) only [wk, avalE, aactE, evPE, boundE, asNat, bv_seql cellsEq_ii, bv_sneqd cellsEq_ii, readC, allOne, fillL, resE, tupled, ↓reduceIte, Nat.reduceEqDiff, Int.reduceEq, Int.reduceLT, Int.reduceLE, Nat.reduceAdd, Nat.reduceMul, Nat.reduceLT, Nat.reduceLeDiff, reduceCtorEq, E0, E4, E13, E14, a2]
    rw [a3]
    exact ⟨hR1, hle⟩
  | cons x r =>
    simp only [List.length_cons] at hn
    by_cases hx : x.2 = 0
    · simp only [rawL, hx, if_true, Nat.add_zero, eachL, runY] at a2 a3
      simp (disch := omega) only [wk, avalE, aactE, evPE, boundE, asNat, bv_seql cellsEq_ii, bv_sneqd cellsEq_ii, readC, allOne, fillL, resE, tupled, ↓reduceIte, Nat.reduceEqDiff, Int.reduceEq, Int.reduceLT, Int.reduceLE, Nat.reduceAdd, Nat.reduceMul, Nat.reduceLT, Nat.reduceLeDiff, reduceCtorEq, E0, E4, E13, E14, a2]
      rw [a3]
      exact ⟨hR1, hle⟩
    have hl : (pre ++ x :: r).length ≤ 1000 := by simp only [List.length_append, List.length_cons]; omega
    have p1 := fun H => ptr_px pre x r rest tk H hl hc ht
    have p2 := fun H => key_px pre x r rest tk H hl hc ht
    have p3 := fun H => slotsahead_px left pre (x :: r) rest tk H hl hc ht
    have hraw : pre.length < rawL (pre ++ x :: r) := by rw [a2]; simp only [rawL, hx, if_false]; omega
    simp only [rowV, row, List.length_append, List.length_cons] at p1 p2 p3 hH
    by_cases hq : x.2 = lastP left pre
    · have hok2 : okRun ok stp s (eachL x.2 (pre.length + 1) r) := by
        have h := hok1
        rw [eachL, if_neg hx, if_pos hq] at h
        exact h
      simp (disch := omega) only [wk, avalE, aactE, evPE, boundE, asNat, bv_seql cellsEq_ii, bv_sneqd cellsEq_ii, readC, allOne, fillL, resE, tupled, ↓reduceIte, Nat.reduceEqDiff, Int.reduceEq, Int.reduceLT, Int.reduceLE, Nat.reduceAdd, Nat.reduceMul, Nat.reduceLT, Nat.reduceLeDiff, reduceCtorEq, E0, E4, E13, E14, hH, p1, p2, p3, hq]
      refine ih (pre ++ [x], r, s) _ _ _ (by simp) ?_
      refine ⟨by simp, by simp only [a2, rawL, hx, if_false, List.length_append, List.length_cons, List.length_nil]; omega, ?_, by simp only [en, ↓reduceIte, Nat.reduceEqDiff, E0], by simp only [en, ↓reduceIte, Nat.reduceEqDiff, E4], by simp only [en, ↓reduceIte, Nat.reduceEqDiff, E13], by simp only [en, ↓reduceIte, Nat.reduceEqDiff], rfl, by simpa [row] using hH, hR1, hle, by simp; omega, by simpa only [lastP_snoc, List.length_append, List.length_cons, List.length_nil, Nat.zero_add] using hok2⟩
      rw [a3]
      simp only [eachL, hx, if_false, ← hq, if_true, lastP_snoc, List.length_append, List.length_cons, List.length_nil, Nat.zero_add]
    · have hok2 : ok s pre.length x ∧ ((stp s pre.length x).2 = true → okRun ok stp (stp s pre.length x).1 (eachL x.2 (pre.length + 1) r)) := by
        have h := hok1
        rw [eachL, if_neg hx, if_neg hq] at h
        exact h
      obtain ⟨y0, H2, y1, y2, y3, y4⟩ := ys.step s H1 pre.length x (Nat.le_trans hk hle) hct (by omega) hok2.1 hR1
      rw [pairA] at y1
      have hH2 := y4 _ _ hk (fun s e => by cases e) hH
      by_cases hst : (stp s pre.length x).2 = true
      · simp (disch := omega) only [wk, avalE, aactE, evPE, boundE, asNat, bv_seql cellsEq_ii, bv_sneqd cellsEq_ii, readC, allOne, fillL, resE, tupled, ↓reduceIte, Nat.reduceEqDiff, Int.reduceEq, Int.reduceLT, Int.reduceLE, Nat.reduceAdd, Nat.reduceMul, Nat.reduceLT, Nat.reduceLeDiff, reduceCtorEq, E0, E4, E13, E14, hH, p1, p2, p3, hq, y1, hst, Bool.not_true]
        refine ih (pre ++ [x], r, (stp s pre.length x).1) _ _ _ (by simp) ?_
        refine ⟨by simp, by simp only [a2, rawL, hx, if_false, List.length_append, List.length_cons, List.length_nil]; omega, ?_, by simp only [en, ↓reduceIte, Nat.reduceEqDiff, E0], by simp only [en, ↓reduceIte, Nat.reduceEqDiff, E4], by simp only [en, ↓reduceIte, Nat.reduceEqDiff, E13], by simp only [en, ↓reduceIte, Nat.reduceEqDiff], rfl, by simpa [row] using hH2, y2, by omega, by simpa using y0, by simpa only [lastP_snoc, List.length_append, List.length_cons, List.length_nil, Nat.zero_add] using hok2.2 hst⟩
        rw [a3]
        simp only [eachL, hx, if_false, hq, lastP_snoc, List.length_append, List.length_cons, List.length_nil, Nat.zero_add, runY, hst, if_true]
      · have hst' : (stp s pre.length x).2 = false := by simpa using hst
        simp (disch := omega) only [wk, avalE, aactE, evPE, boundE, asNat, bv_seql cellsEq_ii, bv_sneqd cellsEq_ii, readC, allOne, fillL, resE, tupled, ↓reduceIte, Nat.reduceEqDiff, Int.reduceEq, Int.reduceLT, Int.reduceLE, Nat.reduceAdd, Nat.reduceMul, Nat.reduceLT, Nat.reduceLeDiff, reduceCtorEq, E0, E4, E13, E14, hH, p1, p2, p3, hq, y1, hst', Bool.not_false]
        rw [a3]
        simp only [eachL, hx, if_false, hq, runY, hst, Bool.false_eq_true]
        exact ⟨y2, by omega⟩
theorem each_px (l r : AV) (H : Heap) : pcx (cbL tab) 69 [l, r] H = none := pcx_none rfl (pc_none (fi := c69) rfl rfl)
theorem each33 (left : Int) (sz n : Nat) (cs : List AV) (tk : Tk) (H : Heap) : (cbL tab).ic 69 [.int .u64 left, .sl sz n cs tk] H = some (.ret (.fn 114 [.ptr (H.length + 1) 0, .ptr H.length 0]), H ++ [.cells [.int .u64 left], .cells [.sl sz n cs tk]]) := by
  have : ∃ o H', (cbL tab).ic 69 [.int .u64 left, .sl sz n cs tk] H = some (o, H') ∧ o = .ret (.fn 114 [.ptr (H.length + 1) 0, .ptr H.length 0]) ∧ H' = H ++ [.cells [.int .u64 left], .cells [.sl sz n cs tk]] := by
    refine ic_wp (fi := c69) rfl rfl (by simp [c69]) (by decide) ?_
    unfold c69
    simp (disch := omega) only [wk, avalE, aactE, evPE, boundE, asNat, bv_seql cellsEq_ii, bv_sneqd cellsEq_ii, readC, allOne, fillL, resE, tupled, ↓reduceIte, Nat.reduceEqDiff, Int.reduceEq, Int.reduceLT, Int.reduceLE, Nat.reduceAdd, Nat.reduceMul, Nat.reduceLT, Nat.reduceLeDiff, reduceCtorEq, List.append_assoc]
  obtain ⟨o, H', h, rfl, rfl⟩ := this
  exact h
theorem runY_app {α : Type} (l : List (Nat × α)) (s : List α) : runY (fun (s : List α) (_ : Nat) x => (s ++ [x], true)) s l = s ++ l.map (·.2) := by
  induction l generalizing s with
  | nil => simp [runY]
  | cons x r ih => simp only [runY, if_true, ih, List.map_cons, List.append_assoc, List.cons_append, List.nil_append]
theorem l33 : (cbL tab).lent 69 = false := rfl
/-- What memory shows of the pairs that were read so far. -/
def RdR (lo : AObj) (s : List (Int × Int)) (H : Heap) : Prop := ∃ v, H[0]? = some (.cells [v]) ∧ Own H 2 v s.length (encs pairA s) ∧ (∀ a b c, v ≠ .sl a b c .e) ∧ H[3]? = some .defd ∧ H[4]? = some lo
theorem RdR.push {lo : AObj} {s : List (Int × Int)} {H : Heap} (h : RdR lo s H) (o : AObj) : RdR lo s (H ++ [o]) := by
  obtain ⟨v, h1, h2, h3, h4, h5⟩ := h
  have up : ∀ (i : Nat) (q : AObj), H[i]? = some q → (H ++ [o])[i]? = some q := fun i q hq => by rw [List.getElem?_append_left (List.getElem?_eq_some_iff.1 hq).1]; exact hq
  exact ⟨v, up _ _ h1, h2.kept (g := none) (fun i q hq _ => up i q hq) (.inl rfl), h3, up _ _ h4, up _ _ h5⟩
theorem RdR.set {lo : AObj} {s : List (Int × Int)} {H : Heap} (h : RdR lo s H) {i : Nat} {o o' : AObj} (hi : 5 ≤ i) (hn : ∀ s, o ≠ .tok s) (hc : H[i]? = some o) : RdR lo s (H.set i o') := by
  obtain ⟨v, h1, h2, h3, h4, h5⟩ := h
  have ne : ∀ j, j ≠ i → (H.set i o')[j]? = H[j]? := fun j hj => List.getElem?_set_ne (fun e => hj e.symm)
  refine ⟨v, by rw [ne _ (by omega)]; exact h1, h2.kept (g := some i) (fun j q hq hj => by rw [ne _ (by simpa using fun e => hj (by rw [e]))]; exact hq) ?_, h3, by rw [ne _ (by omega)]; exact h4, by rw [ne _ (by omega)]; exact h5⟩
  right
  intro e
  rcases h2 with ⟨rfl | rfl, _, _⟩ | ⟨_, g, rfl, hg⟩
  · cases e
  · cases e
  · cases e
    rw [hg] at hc
    cases hc
    exact hn _ rfl
def readAs : ACode := .region [⟨some 6, .alloc [.int .u64 0, .int .u64 0], none⟩, ⟨none, .store 2 (.t 6) (.t 11), none⟩]
def readBd : ACode := .block 1 (.region [⟨some 12, .load 1 false (.t 4), none⟩, ⟨some 13, .load 2 true (.t 6), none⟩, ⟨some 14, .bslice 2 1 [.int .u64 0, .int .u64 0] [(0, 2, .t 13)], none⟩, ⟨some 15, .append 2 16 (.t 12) (.t 14), none⟩, ⟨none, .store 1 (.t 4) (.t 15), none⟩])
theorem set_ne {H : Heap} {i j : Nat} {o : AObj} (h : i ≠ j) : (H.set i o)[j]? = H[j]? := List.getElem?_set_ne h
theorem set_eq {H : Heap} {i : Nat} {o q : AObj} (h : H[i]? = some q) : (H.set i o)[i]? = some o := by
  rw [List.getElem?_set_self (List.getElem?_eq_some_iff.1 h).1]
theorem read_ys {E : Env} {tm : List AV} (ha : Ag 17 tm E) (E4 : E 4 = .ptr 0 0) : YS 4 5 (fun s : List (Int × Int) => s.length) (fun _ _ _ => True) (RdR (.loop 0 .normal tm [10, 11] readAs readBd)) (fun s _ x => (s ++ [x], true)) := by
  refine ⟨?_, fun s H o h => h.push o, fun s H i o o' hi h hn hc => h.set hi hn hc⟩
  intro s H j x hk hcnt hj _ hR
  refine ⟨by simpa using hcnt, ?_⟩
  obtain ⟨v, h1, h2, h3, h4, h5⟩ := hR
  have key := yl_wp (tab := tab) (P := fun b H' => b = true ∧ RdR (.loop 0 .normal tm [10, 11] readAs readBd) (s ++ [x]) H' ∧ H.length ≤ H'.length ∧ ∀ i o, 5 ≤ i → (∀ s, o ≠ .tok s) → H[i]? = some o → H'[i]? = some o)
    (args := [.int .i64 (j : Nat), .agg (pairA x)]) (readLoop_of h5) ha rfl (by decide) (by decide) (by decide) (by decide) (by decide) ?_
  · obtain ⟨b, H', k1, rfl, k2⟩ := key
    exact ⟨H', k1, k2⟩
  have e1 : ∀ o : AObj, (H ++ [o])[H.length]? = some o := fun o => by simp
  unfold readAs
  simp (disch := omega) only [wk, avalE, aactE, evPE, boundE, asNat, bv_seql cellsEq_ii, bv_sneqd cellsEq_ii, readC, allOne, fillL, resE, tupled, ↓reduceIte, Nat.reduceEqDiff, Int.reduceEq, Int.reduceLT, Int.reduceLE, Nat.reduceAdd, Nat.reduceMul, Nat.reduceLT, Nat.reduceLeDiff, reduceCtorEq, updPs_cons, updPs_nil, e1, pairA, List.append_nil]
  have up : ∀ (i : Nat) (q o o' : AObj), H[i]? = some q → ((H ++ [o]).set H.length o')[i]? = some q := fun i q o o' hq => by
    have := (List.getElem?_eq_some_iff.1 hq).1
    rw [set_ne (by omega), List.getElem?_append_left this]
    exact hq
  refine ⟨rfl, rfl, _, _, _, _, _, readLoop_of (up _ _ _ _ h5), ?_⟩
  generalize hH1 : (List.set (H ++ [AObj.cells [AV.int IntKind.u64 0, AV.int IntKind.u64 0]]) H.length _) = H1
  have u1 : ∀ (i : Nat) (q : AObj), H[i]? = some q → H1[i]? = some q := fun i q hq => by rw [← hH1]; exact up _ _ _ _ hq
  have u2 : H1[H.length]? = some (.cells (pairA x)) := by rw [← hH1]; exact set_eq (e1 _)
  have u3 : H1.length = H.length + 1 := by rw [← hH1]; simp
  have w1 : ∀ o, (H1.set 4 o)[0]? = some (.cells [v]) := fun o => by rw [set_ne (by omega)]; exact u1 _ _ h1
  have w2 : ∀ o, (H1.set 4 o)[H.length]? = some (.cells [.int .u64 x.1, .int .u64 x.2]) := fun o => by rw [set_ne (by omega)]; exact u2
  unfold readBd
  simp (disch := omega) only [wk, avalE, aactE, evPE, boundE, asNat, bv_seql cellsEq_ii, bv_sneqd cellsEq_ii, readC, allOne, fillL, resE, tupled, ↓reduceIte, Nat.reduceEqDiff, Int.reduceEq, Int.reduceLT, Int.reduceLE, Nat.reduceAdd, Nat.reduceMul, Nat.reduceLT, Nat.reduceLeDiff, reduceCtorEq, E4, w1, w2, List.append_nil, List.append_nil]
  generalize hlo : AObj.loop 1 _ _ _ _ _ = lo
  have o2 : Own (H1.set 4 lo) 2 v s.length (encs pairA s) := h2.kept (g := some 4) (fun i q hq hi => by rw [set_ne (by simpa using hi)]; exact u1 _ _ hq) (by
    right
    intro e
    rcases h2 with ⟨rfl | rfl, _, _⟩ | ⟨_, g, rfl, hg⟩
    · cases e
    · cases e
    · cases e
      rw [hg] at h5
      cases h5)
  obtain ⟨Hb, hHb⟩ : ∃ Hb, Hb = H1.set 4 lo := ⟨_, rfl⟩
  have w1 := w1 lo
  have w4 : (H1.set 4 lo)[4]? = some lo := set_eq (u1 _ _ h5)
  have w3 : (H1.set 4 lo)[3]? = some .defd := by rw [set_ne (by omega)]; exact u1 _ _ h4
  have w5 : ∀ i o, 5 ≤ i → H[i]? = some o → (H1.set 4 lo)[i]? = some o := fun i o hi hc => by rw [set_ne (by omega)]; exact u1 _ _ hc
  have len1 : (H1.set 4 lo).length = H.length + 1 := by rw [List.length_set, u3]
  rw [← hHb] at o2 w1 w3 w4 w5 len1 ⊢
  refine runX_app o2 (by omega) (by omega) (by omega) (by omega) rfl rfl (fun H' q1 q2 q3 => ?_)
  have q0 := q2.cells o2 rfl w1 (by intro s e; cases e)
  have q5 := q2.cells o2 rfl w4 (by intro s e; rw [← hlo] at e; cases e)
  have q6 := q2.cells o2 rfl w3 (by intro s e; cases e)
  simp (disch := omega) only [wk, avalE, aactE, evPE, boundE, asNat, bv_seql cellsEq_ii, bv_sneqd cellsEq_ii, readC, allOne, fillL, resE, tupled, ↓reduceIte, Nat.reduceEqDiff, Int.reduceEq, Int.reduceLT, Int.reduceLE, Nat.reduceAdd, Nat.reduceMul, Nat.reduceLT, Nat.reduceLeDiff, reduceCtorEq, E4, q0, List.append_nil]
  have len2 : H.length < H'.length := by omega
  subst hlo
  refine ⟨rfl, _, _, _, _, _, _, readLoop_of (by rw [set_ne (by omega)]; exact q5), rfl, ⟨_, by rw [set_ne (by omega)]; exact set_eq q0, ?_, (by intro a b c e; cases e), by rw [set_ne (by omega), set_ne (by omega)]; exact q6, ?_⟩, by simp; omega, fun i o hi hn hc => ?_⟩
  · have e1 : encs pairA (s ++ [x]) = encs pairA s ++ [.int .u64 x.1, .int .u64 x.2] := by rw [encs_append]; rfl
    rw [e1, List.length_append]
    have k1 := q1.kept (g := some 0) (H' := H'.set 0 (.cells [.sl 2 (s.length + 1) (encs pairA s ++ [.int .u64 x.1, .int .u64 x.2]) (.own Hb.length)])) (fun i q hq hi => by rw [set_ne (by simpa using hi)]; exact hq) (by right; simp only [tokOf, ne_eq, Option.some.injEq]; omega)
    exact k1.kept (g := some 4) (fun i q hq hi => by rw [set_ne (by simpa using hi)]; exact hq) (by right; simp only [tokOf, ne_eq, Option.some.injEq]; omega)
  · rw [set_eq (o := .loop 0 _ _ _ _ _) (by rw [set_ne (by omega)]; exact q5)]; rfl
  · have hne : i ≠ 4 := by omega
    rw [set_ne (by omega), set_ne (by omega)]
    exact q2.cells o2 rfl (w5 _ _ hi hc) hn
def readTl : ACode := .seq (.region [⟨some 16, .load 1 false (.t 4), none⟩, ⟨none, .store 1 (.t 4) (.t 16), none⟩]) .ret
theorem read_end {E : Env} {tm : List AV} (E4 : E 4 = .ptr 0 0) {s : List (Int × Int)} {H2 : Heap} (h2 : RdR (.loop 0 .normal tm [10, 11] readAs readBd) s H2) :
    Ret (cbL tab) none 17 (Am.Ends tab [.cell 4 1 false] fun o H => purify (some (o, H)) = some (prRow 2 pairA s)) [.blk 0, .code readTl] .normal E [.mark 3] (H2.set 4 (.loop 3 .normal tm [10, 11] readAs readBd)) := by
  obtain ⟨v, k1, k2, k3, k4, k5⟩ := h2
  unfold readTl
  have j1 : ∀ o, (H2.set 4 o)[0]? = some (.cells [v]) := fun o => by rw [set_ne (by omega)]; exact k1
  have vone : v.one = true := by rcases k2 with ⟨rfl | rfl, _⟩ | ⟨_, g, rfl, _⟩ <;> rfl
  have vflat : v.flat = [v] := by rcases k2 with ⟨rfl | rfl, _⟩ | ⟨_, g, rfl, _⟩ <;> rfl
  have j3 : ((H2.set 4 (.loop 3 .normal tm [10, 11] readAs readBd)).set 0 (.cells [v]))[3]? = some .defd := by rw [set_ne (by omega), set_ne (by omega)]; exact k4
  have j4 : (((H2.set 4 (.loop 3 .normal tm [10, 11] readAs readBd)).set 0 (.cells [v])).set 3 .dead)[0]? = some (.cells [v]) := by rw [set_ne (by omega)]; exact set_eq (j1 _)
  simp (disch := omega) only [wk, avalE, aactE, evPE, boundE, asNat, bv_seql cellsEq_ii, bv_sneqd cellsEq_ii, readC, allOne, fillL, resE, tupled, ↓reduceIte, Nat.reduceEqDiff, Int.reduceEq, Int.reduceLT, Int.reduceLE, Nat.reduceAdd, Nat.reduceMul, Nat.reduceLT, Nat.reduceLeDiff, reduceCtorEq, E4, j1, vone, vflat, allOne, Bool.and_self, List.append_nil, ends_mark j3, j4]
  refine purify_row (fun _ => rfl) ?_ (fun _ s n c => k3 s n c)
  exact ((k2.set k5 (by intro s e; cases e)).set (j1 _) (by intro s e; cases e)).set j3 (by intro s e; cases e)
theorem slotsread_no (left : Int) (n : Nat) (cs : List AV) (tk : Tk) (hn : (n : Int) ≤ 9223372036854775807) (hc : hfL cs = true) (hr : ¬ right left n) :
    (cbL tab).pc 64 [.int .u64 left, .sl 1 n cs tk] = some (prRow 2 pairA []) := by
  obtain ⟨u1, e1, f1⟩ := lend_sl 1 n cs tk
  refine pc_wp (fi := c64) rfl ?_ (by simp [c64]) (by decide) ?_
  · simp only [pcOn, List.map_cons, List.map_nil, hfL, hf_lend_sl, hf_lend_int, hf_lend_bool, hf_lend_str, hfL_append, Bool.and_self, Bool.and_true, Bool.true_and, c64, hc]
  unfold c64
  rw [List.map_cons, List.map_cons, List.map_nil, e1, lend_int]
  have a1 := fun H => each_px (.int .u64 left) (.sl 1 n cs u1) H
  have a2 := fun H => each33 left 1 n cs u1 H
  simp (disch := omega) only [wk, avalE, aactE, evPE, boundE, asNat, bv_seql cellsEq_ii, bv_sneqd cellsEq_ii, readC, allOne, fillL, resE, tupled, ↓reduceIte, Nat.reduceEqDiff, Int.reduceEq, Int.reduceLT, Int.reduceLE, Nat.reduceAdd, Nat.reduceMul, Nat.reduceLT, Nat.reduceLeDiff, reduceCtorEq, a1, a2, runE_none l33]
  refine ret_range (f := 114) (caps := [.ptr 2 0, .ptr 1 0]) (by simp only [en, ↓reduceIte, Nat.reduceEqDiff, evE_t]) (fun tm ha => ?_)
  obtain ⟨o, H2, h1, rfl, h2, h3⟩ := each_ic_no (a := 2) (b := 1) (read_ys ha (by simp only [en, ↓reduceIte, Nat.reduceEqDiff])) (s0 := []) (H := [.cells [.sl 0 0 [] .z], .cells [.int .u64 left], .cells [.sl 1 n cs u1], .defd, .loop 0 .normal tm [10, 11] readAs readBd]) (Nat.le_refl _) ⟨_, rfl, .inl ⟨.inl rfl, rfl, rfl⟩, (by intro a b c e; cases e), rfl, rfl⟩ rfl rfl hn hc f1 hr
  exact ⟨_, H2, _, _, _, _, _, _, h1, readLoop_of h2.choose_spec.2.2.2.2, by decide, rfl, read_end (by simp only [en, ↓reduceIte, Nat.reduceEqDiff]) h2⟩
theorem slotsread (left : Int) (ps : List (Int × Int)) (rest : List AV) (tk : Tk) (hc : hfL rest = true) (hr : right left (2 * ps.length)) :
    (cbL tab).pc 64 [.int .u64 left, row ps rest tk] = some (prRow 2 pairA (rdL left ps)) := by
  obtain ⟨u1, e1, f1⟩ := lend_sl 1 (2 * ps.length) (encs pairA ps ++ rest) tk
  refine pc_wp (fi := c64) rfl ?_ (by simp [c64]) (by decide) ?_
  · simp only [pcOn, List.map_cons, List.map_nil, hfL, hf_lend_sl, hf_lend_int, hf_lend_bool, hf_lend_str, hfL_append, Bool.and_self, Bool.and_true, Bool.true_and, c64, hc, row, hf_pairA]
  unfold c64
  rw [List.map_cons, List.map_cons, List.map_nil, row, e1, lend_int]
  have a1 := fun H => each_px (.int .u64 left) (.sl 1 (2 * ps.length) (encs pairA ps ++ rest) u1) H
  have a2 := fun H => each33 left 1 (2 * ps.length) (encs pairA ps ++ rest) u1 H
  simp (disch := omega) only [wk, avalE, aactE, evPE, boundE, asNat, bv_seql cellsEq_ii, bv_sneqd cellsEq_ii, readC, allOne, fillL, resE, tupled, ↓reduceIte, Nat.reduceEqDiff, Int.reduceEq, Int.reduceLT, Int.reduceLE, Nat.reduceAdd, Nat.reduceMul, Nat.reduceLT, Nat.reduceLeDiff, reduceCtorEq, a1, a2, runE_none l33]
  refine ret_range (f := 114) (caps := [.ptr 2 0, .ptr 1 0]) (by simp only [en, ↓reduceIte, Nat.reduceEqDiff, evE_t]) (fun tm ha => ?_)
  obtain ⟨o, H2, h1, rfl, h2, h3⟩ := each_ic (a := 2) (b := 1) (read_ys ha (by simp only [en, ↓reduceIte, Nat.reduceEqDiff])) (s0 := []) (H := [.cells [.sl 0 0 [] .z], .cells [.int .u64 left], .cells [row ps rest u1], .defd, .loop 0 .normal tm [10, 11] readAs readBd]) (Nat.le_refl _) ⟨_, rfl, .inl ⟨.inl rfl, rfl, rfl⟩, (by intro a b c e; cases e), rfl, rfl⟩ rfl rfl hc f1 hr rfl (okRun_any _ _ _)
  rw [runY_app, List.nil_append, eachL_snd] at h2
  exact ⟨_, H2, _, _, _, _, _, _, h1, readLoop_of h2.choose_spec.2.2.2.2, by decide, rfl, read_end (by simp only [en, ↓reduceIte, Nat.reduceEqDiff]) h2⟩
theorem rising_px (l : List (Int × Int)) (sz : Nat) (tk : Tk) (H : Heap) (hn : l.length ≤ 1000) (hz : l ≠ [] → sz = 2) :
    pcx (cbL tab) 177 [.sl sz l.length (encs pairA l) tk, .fn 178 []] H = some (.plain (.bool (decide (risingL l)))) := by
  obtain ⟨u1, e1, f1⟩ := lend_sl sz l.length (encs pairA l) tk
  refine pcx_N rfl (pc_wp (fi := c177) rfl ?_ (by simp [c177]) (by decide) ?_)
  · simp only [pcOn, List.map_cons, List.map_nil, hfL, hf_lend_sl, hf_lend_int, hf_lend_bool, hf_lend_str, hfL_append, Bool.and_self, Bool.and_true, Bool.true_and, c177, hf_pairA]; rfl
  unfold c177
  rw [List.map_cons, List.map_cons, List.map_nil, e1]
  have el : lend (.fn 178 []) = .fn 178 [] := rfl
  rw [el]
  simp (disch := omega) only [wk, avalE, aactE, evPE, boundE, asNat, bv_seql cellsEq_ii, bv_sneqd cellsEq_ii, readC, allOne, fillL, resE, tupled, ↓reduceIte, Nat.reduceEqDiff, Int.reduceEq, Int.reduceLT, Int.reduceLE, Nat.reduceAdd, Nat.reduceMul, Nat.reduceLT, Nat.reduceLeDiff, reduceCtorEq]
  cases l with
  | nil =>
    rw [ret_loop]
    have : risingL [] := trivial
    simp (disch := omega) only [wk, avalE, aactE, evPE, boundE, asNat, bv_seql cellsEq_ii, bv_sneqd cellsEq_ii, readC, allOne, fillL, resE, tupled, ↓reduceIte, Nat.reduceEqDiff, Int.reduceEq, Int.reduceLT, Int.reduceLE, Nat.reduceAdd, Nat.reduceMul, Nat.reduceLT, Nat.reduceLeDiff, reduceCtorEq, purify, unownT, lend, unown, AV.hf, this]
  | cons x0 r0 =>
  obtain rfl := hz (by simp)
  refine loop_ind (fun (x : List (Int × Int) × (Int × Int) × List (Int × Int)) E df H => x0 :: r0 = x.1 ++ x.2.1 :: x.2.2 ∧ (risingL (x0 :: r0) ↔ risingL (x.2.1 :: x.2.2)) ∧ E 0 = .sl 2 (x0 :: r0).length (encs pairA (x0 :: r0)) u1 ∧ E 1 = .fn 178 [] ∧ E 5 = .int .i64 ((x.1.length : Nat) + 1) ∧ df = [] ∧ H = [])
    (fun x => x.2.2.length) ([], x0, r0) (by decide) (.inl rfl) ⟨rfl, Iff.rfl, rfl, rfl, rfl, rfl, rfl⟩ ?_
  intro ⟨pre, x, suf⟩ E df H ih hP
  obtain ⟨a1, a2, E0, E1, E5, hdf, hH⟩ := hP
  dsimp only at a1 a2 E5
  subst hdf hH
  rw [a1] at hn a2 E0 ih
  rw [a1]
  simp only [List.length_append, List.length_cons] at hn
  cases suf with
  | nil =>
    have : risingL (pre ++ [x]) := a2.2 trivial
    simp (disch := omega) only [wk, avalE, aactE, evPE, boundE, asNat, bv_seql cellsEq_ii, bv_sneqd cellsEq_ii, readC, allOne, fillL, resE, tupled, ↓reduceIte, Nat.reduceEqDiff, Int.reduceEq, Int.reduceLT, Int.reduceLE, Nat.reduceAdd, Nat.reduceMul, Nat.reduceLT, Nat.reduceLeDiff, reduceCtorEq, E0, E1, E5, purify, unownT, lend, unown, AV.hf, this]
  | cons y r =>
    simp only [List.length_cons] at hn
    have i1 : (pre.length : Int) + 1 - 1 = pre.length := by omega
    have d2 : List.drop (((pre.length : Int) + 1).toNat * 2) (encs pairA (pre ++ x :: y :: r)) = pairA y ++ encs pairA r := by
      have := drop_pre (f := pairA) (pre ++ [x]) (y :: r)
      have e : (pre ++ [x]).length * 2 = ((pre.length : Int) + 1).toNat * 2 := by simp
      rw [e, encs_cons, List.append_assoc] at this
      exact this
    have p1 := fun H => less_px x y H
    simp only [pairA] at p1 d2
    by_cases hx : x.1 < y.1
    · simp (disch := omega) only [wk, avalE, aactE, evPE, boundE, asNat, bv_seql cellsEq_ii, bv_sneqd cellsEq_ii, readC, allOne, fillL, resE, tupled, ↓reduceIte, Nat.reduceEqDiff, Int.reduceEq, Int.reduceLT, Int.reduceLE, Nat.reduceAdd, Nat.reduceMul, Nat.reduceLT, Nat.reduceLeDiff, reduceCtorEq, E0, E1, E5, i1, d2, pairA, p1, hx]
      refine ih (pre ++ [x], y, r) _ _ _ (by simp) ?_
      exact ⟨by simp, by rw [a2]; simp [risingL, hx], by simp only [en, ↓reduceIte, Nat.reduceEqDiff, E0], by simp only [en, ↓reduceIte, Nat.reduceEqDiff, E1], by simp only [en, ↓reduceIte, Nat.reduceEqDiff], rfl, rfl⟩
    · have : ¬ risingL (pre ++ x :: y :: r) := by rw [a2]; simp [risingL, hx]
      simp (disch := omega) only [wk, avalE, aactE, evPE, boundE, asNat, bv_seql cellsEq_ii, bv_sneqd cellsEq_ii, readC, allOne, fillL, resE, tupled, ↓reduceIte, Nat.reduceEqDiff, Int.reduceEq, Int.reduceLT, Int.reduceLE, Nat.reduceAdd, Nat.reduceMul, Nat.reduceLT, Nat.reduceLeDiff, reduceCtorEq, E0, E1, E5, i1, d2, pairA, p1, hx, purify, unownT, lend, unown, AV.hf, this]
/-- The entries of a map of what was seen. -/
def seenE (seen : List Int) : List (AV × AV) := seen.map fun k => (.int .u64 k, .int .i64 1)
theorem findA_seen (k : Int) : ∀ (seen : List Int) (i : Nat), k ∉ seen → findA 0 (.int .u64 k) (seenE seen) i = some none
  | [], _, _ => rfl
  | x :: r, i, h => by
    simp only [List.mem_cons, not_or] at h
    have hb : (k == x) = false := by simp [h.1]
    simp only [seenE, List.map_cons, findA, cellEq, if_true, hb]
    exact findA_seen k r (i + 1) h.2
theorem findA_seen_in (k : Int) : ∀ (seen : List Int) (i : Nat), k ∈ seen → ∃ j, findA 0 (.int .u64 k) (seenE seen) i = some (some (j, .int .i64 1))
  | [], _, h => by simp at h
  | x :: r, i, h => by
    by_cases hx : k = x
    · subst hx
      exact ⟨i, by simp [seenE, findA, cellEq]⟩
    · have hb : (k == x) = false := by simp [hx]
      simp only [List.mem_cons, hx, false_or] at h
      obtain ⟨j, hj⟩ := findA_seen_in k r (i + 1) h
      refine ⟨j, ?_⟩
      simp only [seenE, List.map_cons, findA, cellEq, if_true, hb]
      exact hj
theorem settled_no (n : Nat) (cs : List AV) (tk : Tk) (left : Int) (H : Heap) (hn : (n : Int) ≤ 9223372036854775807) (hc : hfL cs = true) (ht : tk.hf = true) (hr : ¬ right left n) :
    pcx (cbL tab) 151 [rowV n cs tk left] H = some (.pan [(.iface 25 (.int .i64 2), false)]) := by
  obtain ⟨u1, e1, f1⟩ := lend_rowV n cs tk left
  refine pcx_Lp rfl (by rw [List.map_cons, List.map_nil, lendK_rowV]) (pc_wp (fi := c151) rfl ?_ (by simp [c151]) (by decide) ?_) rfl
  · simp only [pcOn, List.map_cons, List.map_nil, hfL, hf_lend_sl, hf_lend_int, hf_lend_bool, hf_lend_str, hfL_append, Bool.and_self, Bool.and_true, Bool.true_and, c151, hf_rowV, hf_lend_rowV, hc, ht]
  unfold c151
  rw [List.map_cons, List.map_nil, e1, rowV]
  have r1 := fun H => slotsright_px left n cs u1 H hn hc f1
  rw [rowV] at r1
  have m1 := fun H => must_px (decide (right left n)) 2 H
  simp only [hr, decide_false, Bool.false_eq_true, if_false] at m1
  simp (disch := omega) only [wk, avalE, aactE, evPE, boundE, asNat, bv_seql cellsEq_ii, bv_sneqd cellsEq_ii, readC, allOne, fillL, resE, tupled, ↓reduceIte, Nat.reduceEqDiff, Int.reduceEq, Int.reduceLT, Int.reduceLE, Nat.reduceAdd, Nat.reduceMul, Nat.reduceLT, Nat.reduceLeDiff, reduceCtorEq, r1, hr, m1, purify, hfL, AV.hf]
theorem must_t (e : Int) (H : Heap) : pcx (cbL tab) 145 [.bool true, .int .i64 e] H = some (.plain (.tup [])) := by rw [must_px, if_pos rfl]
theorem must_f (e : Int) (H : Heap) : pcx (cbL tab) 145 [.bool false, .int .i64 e] H = some (.pan [(.iface 25 (.int .i64 e), false)]) := by rw [must_px, if_neg (by simp)]
theorem purify_pan {c : List (AV × Bool)} {H : Heap} (h : hfL (c.map (·.1)) = true) : purify (some (.pan c, H)) = some (.pan c) := by
  simp only [purify, h, if_true]
theorem scal_pairA (l : List (Int × Int)) : (encs pairA l).all (·.scal) = true := by
  induction l with
  | nil => rfl
  | cons x r ih => rw [encs_cons, List.all_append, ih]; rfl
theorem settled_yes (ps : List (Int × Int)) (rest : List AV) (tk : Tk) (left : Int) (H : Heap) (hc : hfL rest = true) (ht : tk.hf = true) (hr : right left (2 * ps.length)) :
    pcx (cbL tab) 151 [rowV (2 * ps.length) (encs pairA ps ++ rest) tk left] H = if okL left ps then some (prRow 2 pairA (rdL left ps)) else some (.pan [(.iface 25 (.int .i64 190), false)]) := by
  obtain ⟨u1, e1, f1⟩ := lend_rowV (2 * ps.length) (encs pairA ps ++ rest) tk left
  have hcs : hfL (encs pairA ps ++ rest) = true := by rw [hfL_append, hf_pairA, hc]; rfl
  have hn := hr.2.2.2
  have hlen := rdL_le left ps
  have hraw := rawL_le ps
  have main : (cbL tab).pc 151 [rowV (2 * ps.length) (encs pairA ps ++ rest) tk left] = some (if okL left ps then (prRow 2 pairA (rdL left ps)) else (.pan [(.iface 25 (.int .i64 190), false)])) := by
    refine pc_wp (fi := c151) rfl ?_ (by simp [c151]) (by decide) ?_
    · simp only [pcOn, List.map_cons, List.map_nil, hfL, hf_lend_sl, hf_lend_int, hf_lend_bool, hf_lend_str, hfL_append, Bool.and_self, Bool.and_true, Bool.true_and, c151, hf_rowV, hf_lend_rowV, hcs, hc, hf_pairA, ht]
    unfold c151
    rw [List.map_cons, List.map_nil, e1, rowV]
    have r1 := fun H => slotsright_px left (2 * ps.length) (encs pairA ps ++ rest) u1 H (by omega) hcs f1
    have rd := fun H => pcx_N (H := H) rfl (slotsread left ps rest u1 hc hr)
    have rw1 := fun H => slotsraw_px left ps rest u1 H (by omega) hc f1
    have mn := fun H => many_px (2 * ps.length) (encs pairA ps ++ rest) u1 H (by omega) hcs f1
    simp only [rowV, row] at r1 rd rw1
    simp (disch := omega) only [wk, avalE, aactE, evPE, boundE, asNat, bv_seql cellsEq_ii, bv_sneqd cellsEq_ii, readC, allOne, fillL, resE, tupled, ↓reduceIte, Nat.reduceEqDiff, Int.reduceEq, Int.reduceLT, Int.reduceLE, Nat.reduceAdd, Nat.reduceMul, Nat.reduceLT, Nat.reduceLeDiff, reduceCtorEq, r1, hr, must_t, rd]
    refine runE_row (fun s tk' H1 hz ho htk hup hle => ?_)
    have h0 := hup 0 _ rfl
    have hri := fun H => rising_px (rdL left ps) s tk' H (by omega) hz
    by_cases hris : risingL (rdL left ps)
    case neg =>
      have : ¬ okL left ps := fun h => hris h.1
      simp (disch := omega) only [wk, avalE, aactE, evPE, boundE, asNat, bv_seql cellsEq_ii, bv_sneqd cellsEq_ii, readC, allOne, fillL, resE, tupled, ↓reduceIte, Nat.reduceEqDiff, Int.reduceEq, Int.reduceLT, Int.reduceLE, Nat.reduceAdd, Nat.reduceMul, Nat.reduceLT, Nat.reduceLeDiff, reduceCtorEq, hri, hris, must_f, this]
      exact purify_pan rfl
    have e1 : ∀ o : AObj, (H1 ++ [o])[H1.length]? = some o := fun o => by simp
    have e0 : ∀ o : AObj, (H1 ++ [o])[0]? = H1[0]? := fun o => List.getElem?_append_left (by have := (List.getElem?_eq_some_iff.1 h0).1; exact this)
    simp (disch := omega) only [wk, avalE, aactE, evPE, boundE, asNat, bv_seql cellsEq_ii, bv_sneqd cellsEq_ii, readC, allOne, fillL, resE, tupled, ↓reduceIte, Nat.reduceEqDiff, Int.reduceEq, Int.reduceLT, Int.reduceLE, Nat.reduceAdd, Nat.reduceMul, Nat.reduceLT, Nat.reduceLeDiff, reduceCtorEq, hri, hris, must_t, e0, h0, e1, cellEq, findA, beq_self_eq_true]
    have e2 : ∀ o o' : AObj, ((H1 ++ [o]).set H1.length o')[H1.length]? = some o' := fun o o' => by simp
    have e3 : ∀ o o' : AObj, ((H1 ++ [o]).set H1.length o')[0]? = H1[0]? := fun o o' => by
      rw [set_ne (by have := (List.getElem?_eq_some_iff.1 h0).1; omega), e0]
    refine loop_ind (fun (x : List (Int × Int) × List (Int × Int)) E df H2 => rdL left ps = x.1 ++ x.2 ∧ (distL [left] (rdL left ps) ↔ distL (left :: x.1.map (·.2)) x.2) ∧ E 1 = .ptr 0 0 ∧ E 3 = .sl s (rdL left ps).length (encs pairA (rdL left ps)) tk' ∧ E 4 = .mp H1.length ∧
        E 23 = .sl s (rdL left ps).length (encs pairA (rdL left ps)) tk' ∧ E 24 = .int .i64 ((rdL left ps).length : Nat) ∧ E 25 = .int .i64 (x.1.length : Nat) ∧ df = [] ∧ H2[0]? = H1[0]? ∧ H2[H1.length]? = some (.map (seenE (left :: x.1.map (·.2)))) ∧
        Own H2 2 (.sl s (rdL left ps).length (encs pairA (rdL left ps)) tk') (rdL left ps).length (encs pairA (rdL left ps)) ∧ H1.length < H2.length)
      (fun x => x.2.length) ([], rdL left ps) (by decide) (.inl rfl) ⟨rfl, Iff.rfl, by simp only [en, ↓reduceIte, Nat.reduceEqDiff], by simp only [en, ↓reduceIte, Nat.reduceEqDiff], by simp only [en, ↓reduceIte, Nat.reduceEqDiff], by simp only [en, ↓reduceIte, Nat.reduceEqDiff], by simp only [en, ↓reduceIte, Nat.reduceEqDiff], rfl, rfl, e3 _ _, e2 _ _, ?_, by simp⟩ ?_
    · exact (ho.kept (g := none) (fun i q hq _ => by rw [List.getElem?_append_left (List.getElem?_eq_some_iff.1 hq).1]; exact hq) (.inl rfl)).set (e1 _) (by intro s e; cases e)
    intro ⟨pre, suf⟩ E df H2 ih hP
    obtain ⟨a1, a2, E1, E3, E4, E23, E24, E25, hdf, hH0, hHm, ho2, hl2⟩ := hP
    dsimp only at a1 a2 E25 hHm
    subst hdf
    rw [h0] at hH0
    have hl0 : (rdL left ps).length = pre.length + suf.length := by rw [a1, List.length_append]
    cases suf with
    | nil =>
      have hd : distL [left] (rdL left ps) := a2.2 trivial
      simp only [List.length_nil] at hl0
      by_cases hlr : (rdL left ps).length = rawL ps
      case neg =>
        have : ¬ okL left ps := fun h => hlr h.2.2.1
        have hlr' : ¬ ((rdL left ps).length : Int) = (rawL ps : Nat) := by omega
        simp (disch := omega) only [wk, avalE, aactE, evPE, boundE, asNat, bv_seql cellsEq_ii, bv_sneqd cellsEq_ii, readC, allOne, fillL, resE, tupled, ↓reduceIte, Nat.reduceEqDiff, Int.reduceEq, Int.reduceLT, Int.reduceLE, Nat.reduceAdd, Nat.reduceMul, Nat.reduceLT, Nat.reduceLeDiff, reduceCtorEq, E1, E3, E4, E23, E24, E25, hH0, rw1, hlr', must_f, this]
        exact purify_pan rfl
      by_cases hlm : (rdL left ps).length < ps.length
      case neg =>
        have : ¬ okL left ps := fun h => hlm h.2.2.2.1
        have hlm' : ¬ (rawL ps : Int) < (2 * ps.length : Nat) / 2 := by omega
        simp (disch := omega) only [wk, avalE, aactE, evPE, boundE, asNat, bv_seql cellsEq_ii, bv_sneqd cellsEq_ii, readC, allOne, fillL, resE, tupled, ↓reduceIte, Nat.reduceEqDiff, Int.reduceEq, Int.reduceLT, Int.reduceLE, Nat.reduceAdd, Nat.reduceMul, Nat.reduceLT, Nat.reduceLeDiff, reduceCtorEq, E1, E3, E4, E23, E24, E25, hH0, rw1, mn, hlr, hlm', must_f, this]
        exact purify_pan rfl
      have hlm' : (rawL ps : Int) < (2 * ps.length : Nat) / 2 := by omega
      simp (disch := omega) only [wk, avalE, aactE, evPE, boundE, asNat, bv_seql cellsEq_ii, bv_sneqd cellsEq_ii, readC, allOne, fillL, resE, tupled, ↓reduceIte, Nat.reduceEqDiff, Int.reduceEq, Int.reduceLT, Int.reduceLE, Nat.reduceAdd, Nat.reduceMul, Nat.reduceLT, Nat.reduceLeDiff, reduceCtorEq, E1, E3, E4, E23, E24, E25, hH0, rw1, mn, hlr, hlm', must_t]
      have hup : (rawL ps : Int) = (ps.take (rawL ps)).length := by rw [List.length_take]; omega
      refine loop_ind (fun (x : List (Int × Int) × List (Int × Int)) E df H3 => ps = x.1 ++ x.2 ∧ (zeroL (ps.drop (rawL ps)) ↔ zeroL x.2) ∧ E 1 = .ptr 0 0 ∧ E 3 = .sl s (rdL left ps).length (encs pairA (rdL left ps)) tk' ∧ E 7 = .int .i64 (x.1.length : Nat) ∧ df = [] ∧ H3 = H2)
        (fun x => x.2.length) (ps.take (rawL ps), ps.drop (rawL ps)) (by decide) (.inl rfl) ⟨by simp, Iff.rfl, by simp only [en, ↓reduceIte, Nat.reduceEqDiff, E1], by simp only [en, ↓reduceIte, Nat.reduceEqDiff, E3], by simp only [en, ↓reduceIte, Nat.reduceEqDiff, hup], rfl, rfl⟩ ?_
      intro ⟨pre2, suf2⟩ E df H3 ih hP
      obtain ⟨b1, b2, E1, E3, E7, hdf, hH⟩ := hP
      dsimp only at b1 b2 E7
      subst hdf hH
      have hl3 : ps.length = pre2.length + suf2.length := by rw [b1, List.length_append]
      cases suf2 with
      | nil =>
        simp only [List.length_nil] at hl3
        have hok : okL left ps := ⟨hris, hd, hlr, hlm, by rw [hlr]; exact b2.2 (fun x hx => by simp at hx)⟩
        simp (disch := omega) only [wk, avalE, aactE, evPE, boundE, asNat, bv_seql cellsEq_ii, bv_sneqd cellsEq_ii, readC, allOne, fillL, resE, tupled, ↓reduceIte, Nat.reduceEqDiff, Int.reduceEq, Int.reduceLT, Int.reduceLE, Nat.reduceAdd, Nat.reduceMul, Nat.reduceLT, Nat.reduceLeDiff, reduceCtorEq, E1, E3, E7, hH0, mn, hok]
        exact purify_row (fun _ => rfl) ho2 (fun hl s' n' c' e => by cases e; exact htk rfl)
      | cons x r =>
        simp only [List.length_cons] at hl3
        have p1 := fun H => ptr_px pre2 x r rest u1 H (by rw [← b1]; omega) hc f1
        rw [← b1] at p1
        simp only [row] at p1
        by_cases hx : x.2 = 0
        · simp (disch := omega) only [wk, avalE, aactE, evPE, boundE, asNat, bv_seql cellsEq_ii, bv_sneqd cellsEq_ii, readC, allOne, fillL, resE, tupled, ↓reduceIte, Nat.reduceEqDiff, Int.reduceEq, Int.reduceLT, Int.reduceLE, Nat.reduceAdd, Nat.reduceMul, Nat.reduceLT, Nat.reduceLeDiff, reduceCtorEq, E1, E3, E7, hH0, mn, p1, hx, must_t]
          refine ih (pre2 ++ [x], r) _ _ _ (by simp) ?_
          exact ⟨by simp [b1], by rw [b2]; simp [zeroL, hx], by simp only [en, ↓reduceIte, Nat.reduceEqDiff, E1], by simp only [en, ↓reduceIte, Nat.reduceEqDiff, E3], by simp only [en, ↓reduceIte, Nat.reduceEqDiff], rfl, rfl⟩
        · have hno : ¬ okL left ps := fun h => by
            have := b2.1 (by rw [← hlr]; exact h.2.2.2.2)
            exact hx (this x (List.mem_cons_self ..))
          simp (disch := omega) only [wk, avalE, aactE, evPE, boundE, asNat, bv_seql cellsEq_ii, bv_sneqd cellsEq_ii, readC, allOne, fillL, resE, tupled, ↓reduceIte, Nat.reduceEqDiff, Int.reduceEq, Int.reduceLT, Int.reduceLE, Nat.reduceAdd, Nat.reduceMul, Nat.reduceLT, Nat.reduceLeDiff, reduceCtorEq, E1, E3, E7, hH0, mn, p1, hx, must_f, hno]
          exact purify_pan rfl
    | cons x r =>
      simp only [List.length_cons] at hl0
      obtain rfl := hz (by rw [a1]; simp)
      have f1 : ∀ o : AObj, (H2 ++ [o])[H2.length]? = some o := fun o => by simp
      have f2 : ∀ o o' : AObj, ((H2 ++ [o]).set H2.length o')[H2.length]? = some o' := fun o o' => by simp
      have f3 : ∀ o o' : AObj, ((H2 ++ [o]).set H2.length o')[H1.length]? = H2[H1.length]? := fun o o' => by
        rw [set_ne (by omega), List.getElem?_append_left hl2]
      have dd : List.drop (pre.length * 2) (encs pairA (rdL left ps)) = pairA x ++ encs pairA r := by rw [a1, drop_pre, encs_cons]
      simp only [pairA] at dd
      by_cases hin : x.2 ∈ left :: pre.map (·.2)
      · have : ¬ okL left ps := fun h => by
          have := a2.1 h.2.1
          exact this.1 hin
        obtain ⟨j, hj⟩ := findA_seen_in x.2 _ 0 hin
        simp (disch := omega) only [wk, avalE, aactE, evPE, boundE, asNat, bv_seql cellsEq_ii, bv_sneqd cellsEq_ii, readC, allOne, fillL, resE, tupled, ↓reduceIte, Nat.reduceEqDiff, Int.reduceEq, Int.reduceLT, Int.reduceLE, Nat.reduceAdd, Nat.reduceMul, Nat.reduceLT, Nat.reduceLeDiff, reduceCtorEq, E1, E3, E4, E23, E24, E25, dd, f1, f2, f3, hHm, hj, cellEq, must_f, this]
        exact purify_pan rfl
      · have hj := findA_seen x.2 _ 0 hin
        simp (disch := omega) only [wk, avalE, aactE, evPE, boundE, asNat, bv_seql cellsEq_ii, bv_sneqd cellsEq_ii, readC, allOne, fillL, resE, tupled, ↓reduceIte, Nat.reduceEqDiff, Int.reduceEq, Int.reduceLT, Int.reduceLE, Nat.reduceAdd, Nat.reduceMul, Nat.reduceLT, Nat.reduceLeDiff, reduceCtorEq, E1, E3, E4, E23, E24, E25, dd, f1, f2, f3, hHm, hj, cellEq, must_t]
        refine ih (pre ++ [x], r) _ _ _ (by simp) ?_
        have g1 : ∀ (o o' : AObj), ((H2 ++ [o]).set H2.length o')[0]? = H2[0]? := fun o o' => by
          rw [set_ne (by omega), List.getElem?_append_left (by omega)]
        have hm2 := fun (o o' : AObj) => f3 o o'
        rw [hHm] at hm2
        refine ⟨by simp [a1], ?_, by simp only [en, ↓reduceIte, Nat.reduceEqDiff, E1], by simp only [en, ↓reduceIte, Nat.reduceEqDiff, E3], by simp only [en, ↓reduceIte, Nat.reduceEqDiff, E4], by simp only [en, ↓reduceIte, Nat.reduceEqDiff, E23], by simp only [en, ↓reduceIte, Nat.reduceEqDiff, E24], by simp only [en, ↓reduceIte, Nat.reduceEqDiff], rfl, ?_, ?_, ?_, ?_⟩
        · rw [a2]; simp only [distL, hin, not_false_eq_true, true_and, List.map_append, List.map_cons, List.map_nil, List.cons_append]
        · rw [set_ne (by have := (List.getElem?_eq_some_iff.1 h0).1; omega), g1, hH0, h0]
        · rw [set_eq (hm2 _ _)]
          simp [seenE]
        · have b1 := (ho2.kept (g := none) (H' := H2 ++ [AObj.cells [.int .u64 0, .int .u64 0]]) (fun i q hq _ => by rw [List.getElem?_append_left (List.getElem?_eq_some_iff.1 hq).1]; exact hq) (.inl rfl)).set (q := .cells [.int .u64 x.1, .int .u64 x.2]) (f1 _) (by intro s e; cases e)
          exact b1.set (hm2 _ _) (by intro s e; cases e)
        · simp; omega
  split at main
  · rename_i h
    rw [if_pos h]
    exact pcx_Lrow (H := H) rfl (by rw [List.map_cons, List.map_nil, lendK_rowV]) main (scal_pairA _)
  · rename_i h
    rw [if_neg h]
    exact pcx_Lp (H := H) rfl (by rw [List.map_cons, List.map_nil, lendK_rowV]) main rfl
theorem caught_ret (a : Nat) (f : FuncId) (caps : List AV) (H : Heap) : leaveA tab (cbL tab) [.call 142 [.ptr a 0, .fn f caps]] .returning H = some (.returning, H) := by
  rfl
theorem caught_pan (a : Nat) (f : FuncId) (caps : List AV) (H H1 : Heap) (e : Int) (y v : AV) (h : enterA (cbL tab) f caps H = some (.ret v, H1)) (hy : H1[a]? = some (.cells [y])) :
    leaveA tab (cbL tab) [.call 142 [.ptr a 0, .fn f caps]] (.panicking [(.iface 25 (.int .i64 e), false)]) H = some (.returning, H1.set a (.cells [.int .i64 e])) := by
  have ht : tab 142 = some c142 := rfl
  simp [leaveA, ht, bodyD, c142, acodeD, aregionD, hasRecov, acode, aregion, aval, aact, putD, X.ev, fr0, wantedA, binV, eqV, unV, h, hy, AV.flat, allOne, AV.one, resA, settleA, isNili]
theorem clearPut (o : Nat) (x : AV) (H : Heap) (hx : H[o]? = some (.cells [x])) : enterA (cbL tab) 143 [.ptr o 0] H = some (.ret (.tup []), H.set o (.cells [.sl 0 0 [] .z])) := by
  have : ∃ q H', (cbL tab).ic 143 [.ptr o 0] H = some (q, H') ∧ q = .ret (.tup []) ∧ H' = H.set o (.cells [.sl 0 0 [] .z]) := by
    refine ic_wp (fi := c143) rfl rfl (by simp [c143]) (by decide) ?_
    unfold c143
    simp (disch := omega) only [wk, avalE, aactE, evPE, boundE, asNat, bv_seql cellsEq_ii, bv_sneqd cellsEq_ii, readC, allOne, fillL, resE, tupled, ↓reduceIte, Nat.reduceEqDiff, Int.reduceEq, Int.reduceLT, Int.reduceLE, Nat.reduceAdd, Nat.reduceMul, Nat.reduceLT, Nat.reduceLeDiff, reduceCtorEq, hx, List.append_nil]
  obtain ⟨q, H', h, rfl, rfl⟩ := this
  exact enterA_ic rfl (pc_none (fi := c143) rfl rfl) h
theorem comes1_ic (q : Int × Int) (id : Nat) (p1 p2 : Int) (H : Heap) (h : H[id]? = some (.cells [.int .u64 p1, .int .u64 p2])) :
    pcx (cbL tab) 175 [.agg (pairA q), .ptr id 0] H = none ∧ (cbL tab).ic 175 [.agg (pairA q), .ptr id 0] H = some (.ret (.bool (decide (q.2 = p2))), H ++ [.cells (pairA q)]) := by
  refine ⟨pcx_none rfl (pc_none (fi := c175) rfl rfl), ?_⟩
  have : ∃ o H', (cbL tab).ic 175 [.agg (pairA q), .ptr id 0] H = some (o, H') ∧ o = .ret (.bool (decide (q.2 = p2))) ∧ H' = H ++ [.cells (pairA q)] := by
    refine ic_wp (fi := c175) rfl rfl (by simp [c175]) (by decide) ?_
    unfold c175
    have e1 : ∀ o : AObj, (H ++ [o])[H.length]? = some o := fun o => by simp
    have e0 : ∀ o : AObj, (H ++ [o])[id]? = H[id]? := fun o => List.getElem?_append_left (by have := (List.getElem?_eq_some_iff.1 h).1; exact this)
    simp (disch := omega) only [wk, avalE, aactE, evPE, boundE, asNat, bv_seql cellsEq_ii, bv_sneqd cellsEq_ii, readC, allOne, fillL, resE, tupled, ↓reduceIte, Nat.reduceEqDiff, Int.reduceEq, Int.reduceLT, Int.reduceLE, Nat.reduceAdd, Nat.reduceMul, Nat.reduceLT, Nat.reduceLeDiff, reduceCtorEq, pairA, e1, e0, h]
  obtain ⟨o, H', h, rfl, rfl⟩ := this
  exact h
theorem l83 : (cbL tab).lent 175 = false := rfl
theorem index_ic (l : List (Int × Int)) (s : Nat) (tk : Tk) (id : Nat) (p1 p2 : Int) (H : Heap) (hn : l.length ≤ 1000) (hz : l ≠ [] → s = 2) (h : H[id]? = some (.cells [.int .u64 p1, .int .u64 p2])) :
    ∃ o H', (cbL tab).ic 152 [.sl s l.length (encs pairA l) tk, .fn 175 [.ptr id 0]] H = some (o, H') ∧
      ((∃ v, o = .ret (.int .i64 v) ∧ (0 ≤ v ↔ hasL l p2)) ∧ (∀ (i : Nat) (q : AObj), H[i]? = some q → H'[i]? = some q) ∧ H.length ≤ H'.length) := by
  refine ic_wp (fi := c152) rfl (by simp [pcOn, c152, hfL, lend, unown, AV.hf]) (by simp [c152]) (by decide) ?_
  unfold c152
  simp (disch := omega) only [wk, avalE, aactE, evPE, boundE, asNat, bv_seql cellsEq_ii, bv_sneqd cellsEq_ii, readC, allOne, fillL, resE, tupled, ↓reduceIte, Nat.reduceEqDiff, Int.reduceEq, Int.reduceLT, Int.reduceLE, Nat.reduceAdd, Nat.reduceMul, Nat.reduceLT, Nat.reduceLeDiff, reduceCtorEq]
  refine loop_ind (fun (x : List (Int × Int) × List (Int × Int)) E df H1 => l = x.1 ++ x.2 ∧ (hasL l p2 ↔ hasL x.2 p2) ∧ E 0 = .sl s l.length (encs pairA l) tk ∧ E 1 = .fn 175 [.ptr id 0] ∧ E 7 = .int .i64 (l.length : Nat) ∧ E 8 = .int .i64 (x.1.length : Nat) ∧ df = [] ∧
      (∀ (i : Nat) (q : AObj), H[i]? = some q → H1[i]? = some q) ∧ H.length ≤ H1.length) (fun x => x.2.length) ([], l) (by decide) (.inl rfl) ⟨rfl, Iff.rfl, rfl, rfl, rfl, rfl, rfl, fun _ _ h => h, Nat.le_refl _⟩ ?_
  intro ⟨pre, suf⟩ E df H1 ih hP
  obtain ⟨a1, a2, E0, E1, E7, E8, hdf, hup, hle⟩ := hP
  dsimp only at a1 a2 E8
  subst hdf a1
  simp only [List.length_append] at hn E7
  cases suf with
  | nil =>
    simp only [List.length_nil, Nat.add_zero] at E7
    simp (disch := omega) only [wk, avalE, aactE, evPE, boundE, asNat, bv_seql cellsEq_ii, bv_sneqd cellsEq_ii, readC, allOne, fillL, resE, tupled, ↓reduceIte, Nat.reduceEqDiff, Int.reduceEq, Int.reduceLT, Int.reduceLE, Nat.reduceAdd, Nat.reduceMul, Nat.reduceLT, Nat.reduceLeDiff, reduceCtorEq, E0, E1, E7, E8]
    refine ⟨⟨_, rfl, ?_⟩, hup, hle⟩
    rw [a2]
    simp [hasL]
  | cons x r =>
    simp only [List.length_cons] at hn E7
    obtain rfl := hz (by simp)
    obtain ⟨k, q⟩ := x
    obtain ⟨c1, c2⟩ := comes1_ic (k, q) id p1 p2 H1 (hup _ _ h)
    simp only [pairA] at c1 c2
    rw [hasL_cons] at a2
    have up2 : ∀ (i : Nat) (o : AObj), H[i]? = some o → (H1 ++ [AObj.cells [.int .u64 k, .int .u64 q]])[i]? = some o := fun i o ho => by
      have := hup i o ho
      rw [List.getElem?_append_left (List.getElem?_eq_some_iff.1 this).1]; exact this
    by_cases hx : q = p2
    · subst hx
      simp (disch := omega) only [wk, avalE, aactE, evPE, boundE, asNat, bv_seql cellsEq_ii, bv_sneqd cellsEq_ii, readC, allOne, fillL, resE, tupled, ↓reduceIte, Nat.reduceEqDiff, Int.reduceEq, Int.reduceLT, Int.reduceLE, Nat.reduceAdd, Nat.reduceMul, Nat.reduceLT, Nat.reduceLeDiff, reduceCtorEq, E0, E1, E7, E8, pairA, c1, c2, runE_none l83]
      refine ⟨⟨_, rfl, ?_⟩, up2, by first | omega | (simp; omega)⟩
      rw [a2]
      simp
    · simp (disch := omega) only [wk, avalE, aactE, evPE, boundE, asNat, bv_seql cellsEq_ii, bv_sneqd cellsEq_ii, readC, allOne, fillL, resE, tupled, ↓reduceIte, Nat.reduceEqDiff, Int.reduceEq, Int.reduceLT, Int.reduceLE, Nat.reduceAdd, Nat.reduceMul, Nat.reduceLT, Nat.reduceLeDiff, reduceCtorEq, E0, E1, E7, E8, pairA, c1, c2, runE_none l83, hx]
      refine ih (pre ++ [(k, q)], r) _ _ _ (by simp) ?_
      exact ⟨by simp, by rw [a2]; simp [hx], by simp only [en, ↓reduceIte, Nat.reduceEqDiff, E0], by simp only [en, ↓reduceIte, Nat.reduceEqDiff, E1], by simp only [en, ↓reduceIte, Nat.reduceEqDiff, E7], by simp only [en, ↓reduceIte, Nat.reduceEqDiff], rfl, up2, by simp; omega⟩
theorem l91 : (cbL tab).lent 152 = false := rfl
theorem contains_ic (l : List (Int × Int)) (s : Nat) (tk : Tk) (id : Nat) (p1 p2 : Int) (H : Heap) (hn : l.length ≤ 1000) (hz : l ≠ [] → s = 2) (h : H[id]? = some (.cells [.int .u64 p1, .int .u64 p2])) :
    ∃ H', (cbL tab).ic 92 [.sl s l.length (encs pairA l) tk, .fn 175 [.ptr id 0]] H = some (.ret (.bool (decide (hasL l p2))), H') ∧
      (∀ (i : Nat) (q : AObj), H[i]? = some q → H'[i]? = some q) ∧ H.length ≤ H'.length := by
  obtain ⟨o, H', k1, ⟨v, rfl, hv⟩, k2, k3⟩ := index_ic l s tk id p1 p2 H hn hz h
  have : ∃ o H'', (cbL tab).ic 92 [.sl s l.length (encs pairA l) tk, .fn 175 [.ptr id 0]] H = some (o, H'') ∧ o = .ret (.bool (decide (hasL l p2))) ∧ H'' = H' := by
    refine ic_wp (fi := c92) rfl (by simp [pcOn, c92, hfL, lend, unown, AV.hf]) (by simp [c92]) (by decide) ?_
    unfold c92
    have c1 : ∀ H, pcx (cbL tab) 152 [.sl s l.length (encs pairA l) tk, .fn 175 [.ptr id 0]] H = none := fun H => pcx_none rfl (pc_none (fi := c152) rfl (by simp [pcOn, c152, hfL, lend, unown, AV.hf]))
    simp (disch := omega) only [wk, avalE, aactE, evPE, boundE, asNat, bv_seql cellsEq_ii, bv_sneqd cellsEq_ii, readC, allOne, fillL, resE, tupled, ↓reduceIte, Nat.reduceEqDiff, Int.reduceEq, Int.reduceLT, Int.reduceLE, Nat.reduceAdd, Nat.reduceMul, Nat.reduceLT, Nat.reduceLeDiff, reduceCtorEq, c1, k1, runE_none l91, hv]
  obtain ⟨o, H'', j1, rfl, rfl⟩ := this
  exact ⟨_, j1, k2, k3⟩
theorem find_lt (key : Int) : ∀ (l : List (Int × Int)), risingL l → ∀ (i : Nat) (x : Int × Int), l[i]? = some x → (i < findL' key l ↔ x.1 < key)
  | [], _, i, x, h => by simp at h
  | [y], _, i, x, h => by
    cases i with
    | zero =>
      simp at h; subst h
      simp only [findL']
      split <;> simp_all
    | succ i => simp at h
  | y :: z :: r, hr, i, x, h => by
    have ih := find_lt key (z :: r) hr.2
    by_cases hy : y.1 < key
    · have e : findL' key (y :: z :: r) = findL' key (z :: r) + 1 := by simp [findL', hy]
      rw [e]
      cases i with
      | zero => simp at h; subst h; simp [hy]
      | succ i =>
        rw [List.getElem?_cons_succ] at h
        rw [← ih i x h]
        omega
    · have e : findL' key (y :: z :: r) = 0 := by simp [findL', hy]
      rw [e]
      have big : ∀ (l : List (Int × Int)) (y : Int × Int), risingL (y :: l) → ¬ y.1 < key → ∀ x ∈ l, ¬ x.1 < key := by
        intro l
        induction l with
        | nil => intro y _ _ x hx; simp at hx
        | cons z l ih2 =>
          intro y hr hy x hx
          have hz : ¬ z.1 < key := by have := hr.1; omega
          rcases List.mem_cons.1 hx with rfl | hx
          · exact hz
          · exact ih2 z hr.2 hz x hx
      cases i with
      | zero => simp at h; subst h; simp [hy]
      | succ i =>
        rw [List.getElem?_cons_succ] at h
        have := big (z :: r) y hr hy x (List.mem_of_getElem? h)
        simp [this]
theorem bv_shr1 {ek : EqK} {xo yo : X} {a : Int} : binV .shr ek xo yo (.int .u64 a) (.int .u64 1) = some (.int .u64 (a / 2)) := by
  simp only [binV, binInt]
  rw [if_neg (by omega)]
  have : (2 : Int) ^ (min (1 : Int).toNat IntKind.u64.bits) = 2 := rfl
  rw [this, Int.fdiv_eq_ediv_of_nonneg _ (by omega)]
theorem cmpI_lt (a b : Int) : cmpI a b < 0 ↔ a < b := by unfold cmpI; split <;> (try split) <;> omega
theorem cmpI_eq (a b : Int) : cmpI a b = 0 ↔ a = b := by unfold cmpI; split <;> (try split) <;> omega
theorem bsearch_px (l : List (Int × Int)) (s : Nat) (tk : Tk) (key : Int) (H : Heap) (hn : l.length ≤ 1000) (hz : l ≠ [] → s = 2) (hr : risingL l) :
    pcx (cbL tab) 191 [.sl s l.length (encs pairA l) tk, .int .u64 key, .fn 192 []] H = some (.plain (.tup [.int .i64 (findL' key l : Nat), .bool (decide (keyAtI l (findL' key l) key))])) := by
  obtain ⟨u1, e1, f1⟩ := lend_sl s l.length (encs pairA l) tk
  refine pcx_N rfl (pc_wp (fi := c191) rfl ?_ (by simp [c191]) (by decide) ?_)
  · simp only [pcOn, List.map_cons, List.map_nil, hfL, hf_lend_sl, hf_lend_int, hf_lend_bool, hf_lend_str, hfL_append, Bool.and_self, Bool.and_true, Bool.true_and, c191, hf_pairA]; rfl
  unfold c191
  have el : lend (.fn 192 []) = .fn 192 [] := rfl
  rw [List.map_cons, List.map_cons, List.map_cons, List.map_nil, e1, el, lend_int]
  simp (disch := omega) only [wk, avalE, aactE, evPE, boundE, asNat, bv_seql cellsEq_ii, bv_sneqd cellsEq_ii, readC, allOne, fillL, resE, tupled, ↓reduceIte, Nat.reduceEqDiff, Int.reduceEq, Int.reduceLT, Int.reduceLE, Nat.reduceAdd, Nat.reduceMul, Nat.reduceLT, Nat.reduceLeDiff, reduceCtorEq]
  have hf := findL_le key l
  refine loop_ind (fun (x : Nat × Nat) E df H => x.1 ≤ findL' key l ∧ findL' key l ≤ x.2 ∧ x.2 ≤ l.length ∧ E 0 = .sl s l.length (encs pairA l) u1 ∧ E 1 = .int .u64 key ∧ E 2 = .fn 192 [] ∧ E 8 = .int .i64 (l.length : Nat) ∧ E 9 = .int .i64 (x.1 : Nat) ∧ E 10 = .int .i64 (x.2 : Nat) ∧ df = [] ∧ H = [])
    (fun x => x.2 - x.1) (0, l.length) (by decide) (.inl rfl) ⟨Nat.zero_le _, hf, Nat.le_refl _, rfl, rfl, rfl, rfl, rfl, rfl, rfl, rfl⟩ ?_
  intro ⟨i, j⟩ E df H ih hP
  obtain ⟨a1, a2, a3, E0, E1, E2, E8, E9, E10, hdf, hH⟩ := hP
  dsimp only at a1 a2 a3 E9 E10
  subst hdf hH
  by_cases hij : i < j
  · have hm : (i + j) / 2 < l.length := by omega
    have hx : l[(i + j) / 2]? = some (l[(i + j) / 2]) := List.getElem?_eq_getElem hm
    obtain rfl := hz (by intro e; subst e; simp at hm)
    generalize l[(i + j) / 2] = x at hx
    have hlt := find_lt key l hr _ _ hx
    have d1 := drop_at (f := pairA) l _ hx
    have em : (((i : Int) + j) / 2) = (((i + j) / 2 : Nat) : Int) := by omega
    have c1 := fun H => cmp_px x key H
    simp only [pairA, List.cons_append, List.nil_append] at d1 c1
    by_cases hk : x.1 < key
    · have h2 := (cmpI_lt x.1 key).2 hk
      simp (disch := omega) only [wk, avalE, aactE, evPE, boundE, asNat, bv_seql cellsEq_ii, bv_sneqd cellsEq_ii, readC, allOne, fillL, resE, tupled, ↓reduceIte, Nat.reduceEqDiff, Int.reduceEq, Int.reduceLT, Int.reduceLE, Nat.reduceAdd, Nat.reduceMul, Nat.reduceLT, Nat.reduceLeDiff, reduceCtorEq, E0, E1, E2, E8, E9, E10, bv_shr1, em, d1, c1, h2]
      exact ih ((i + j) / 2 + 1, j) _ _ _ (by simp only; omega) ⟨by simp only; omega, a2, a3, by simp only [en, ↓reduceIte, Nat.reduceEqDiff, E0], by simp only [en, ↓reduceIte, Nat.reduceEqDiff, E1], by simp only [en, ↓reduceIte, Nat.reduceEqDiff, E2], by simp only [en, ↓reduceIte, Nat.reduceEqDiff, E8], by simp only [en, ↓reduceIte, Nat.reduceEqDiff], by simp only [en, ↓reduceIte, Nat.reduceEqDiff, E10], rfl, rfl⟩
    · have h2 : ¬ cmpI x.1 key < 0 := fun h => hk ((cmpI_lt x.1 key).1 h)
      simp (disch := omega) only [wk, avalE, aactE, evPE, boundE, asNat, bv_seql cellsEq_ii, bv_sneqd cellsEq_ii, readC, allOne, fillL, resE, tupled, ↓reduceIte, Nat.reduceEqDiff, Int.reduceEq, Int.reduceLT, Int.reduceLE, Nat.reduceAdd, Nat.reduceMul, Nat.reduceLT, Nat.reduceLeDiff, reduceCtorEq, E0, E1, E2, E8, E9, E10, bv_shr1, em, d1, c1, h2]
      exact ih (i, (i + j) / 2) _ _ _ (by simp only; omega) ⟨a1, by simp only; omega, by simp only; omega, by simp only [en, ↓reduceIte, Nat.reduceEqDiff, E0], by simp only [en, ↓reduceIte, Nat.reduceEqDiff, E1], by simp only [en, ↓reduceIte, Nat.reduceEqDiff, E2], by simp only [en, ↓reduceIte, Nat.reduceEqDiff, E8], by simp only [en, ↓reduceIte, Nat.reduceEqDiff, E9], by simp only [en, ↓reduceIte, Nat.reduceEqDiff], rfl, rfl⟩
  · have hi : findL' key l = i := by omega
    by_cases hil : i < l.length
    · have hx : l[i]? = some (l[i]) := List.getElem?_eq_getElem hil
      obtain rfl := hz (by intro e; subst e; simp at hil)
      generalize l[i] = x at hx
      have d1 := drop_at (f := pairA) l _ hx
      have c1 := fun H => cmp_px x key H
      simp only [pairA, List.cons_append, List.nil_append] at d1 c1
      have hki : keyAtI l i key ↔ cmpI x.1 key = 0 := by rw [cmpI_eq]; simp [keyAtI, hx]
      simp (disch := omega) only [wk, avalE, aactE, evPE, boundE, asNat, bv_seql cellsEq_ii, bv_sneqd cellsEq_ii, readC, allOne, fillL, resE, tupled, ↓reduceIte, Nat.reduceEqDiff, Int.reduceEq, Int.reduceLT, Int.reduceLE, Nat.reduceAdd, Nat.reduceMul, Nat.reduceLT, Nat.reduceLeDiff, reduceCtorEq, E0, E1, E2, E8, E9, E10, d1, c1, hi, hki, purify, unownT, lend, unown, AV.hf, hfL, Bool.and_self]
    · have hki : ¬ keyAtI l i key := by
        have : l[i]? = none := List.getElem?_eq_none (by omega)
        simp [keyAtI, this]
      simp (disch := omega) only [wk, avalE, aactE, evPE, boundE, asNat, bv_seql cellsEq_ii, bv_sneqd cellsEq_ii, readC, allOne, fillL, resE, tupled, ↓reduceIte, Nat.reduceEqDiff, Int.reduceEq, Int.reduceLT, Int.reduceLE, Nat.reduceAdd, Nat.reduceMul, Nat.reduceLT, Nat.reduceLeDiff, reduceCtorEq, E0, E1, E2, E8, E9, E10, hi, hki, purify, unownT, lend, unown, AV.hf, hfL, Bool.and_self]
theorem place_px (l : List (Int × Int)) (s : Nat) (tk : Tk) (key : Int) (H : Heap) (hn : l.length ≤ 1000) (hz : l ≠ [] → s = 2) (hr : risingL l) :
    pcx (cbL tab) 176 [.sl s l.length (encs pairA l) tk, .int .u64 key] H = some (.plain (.tup [.int .i64 (findL' key l : Nat), .bool (decide (keyAtI l (findL' key l) key))])) := by
  obtain ⟨u1, e1, f1⟩ := lend_sl s l.length (encs pairA l) tk
  refine pcx_N rfl (pc_wp (fi := c176) rfl ?_ (by simp [c176]) (by decide) ?_)
  · simp only [pcOn, List.map_cons, List.map_nil, hfL, hf_lend_sl, hf_lend_int, hf_lend_bool, hf_lend_str, hfL_append, Bool.and_self, Bool.and_true, Bool.true_and, c176, hf_pairA]
  unfold c176
  rw [List.map_cons, List.map_cons, List.map_nil, e1, lend_int]
  have b1 := fun H => bsearch_px l s u1 key H hn hz hr
  simp (disch := omega) only [wk, avalE, aactE, evPE, boundE, asNat, bv_seql cellsEq_ii, bv_sneqd cellsEq_ii, readC, allOne, fillL, resE, tupled, ↓reduceIte, Nat.reduceEqDiff, Int.reduceEq, Int.reduceLT, Int.reduceLE, Nat.reduceAdd, Nat.reduceMul, Nat.reduceLT, Nat.reduceLeDiff, reduceCtorEq, b1, purify, unownT, lend, unown, AV.hf, hfL, Bool.and_self]
end Go.Proofs.Ytailfegmnkldoaa
