/- THE WALKS OF THE REFERENCE'S FUNCTIONS FOR SLOTS: each on its encoded values. No condition but those stated. -/
import Derived.Test.YtailfegmnkldoaaSM
import Derived.Test.YtailfegmnkldoaaSFuns
set_option linter.unusedSimpArgs false
set_option linter.unusedVariables false
set_option linter.unusedSectionVars false
namespace Go.Proofs.Ytailfegmnkldoaa
open Go Go.Am Go.Slots
set_option maxHeartbeats 2000000
set_option maxRecDepth 10000
theorem right_pc (left : Int) (n : Nat) (cs : List AV) (tk : Tk) (hn : (n : Int) ≤ 9223372036854775807) (hc : hfL cs = true) : (cbL tab).pc 112 [.int .u64 left, .sl 1 n cs tk] = some (.plain (.bool (decide (right left n)))) := by
  obtain ⟨u1, e1, f1⟩ := lend_sl 1 n cs tk
  refine pc_wp (fi := c112) rfl ?_ (by simp [c112]) (by decide) ?_
  · simp only [pcOn, List.map_cons, List.map_nil, hfL, hf_lend_sl, hf_lend_int, hf_lend_bool, hf_lend_str, hfL_append, Bool.and_self, Bool.and_true, Bool.true_and, c112, row, hc, hf_pairA]
  unfold c112
  rw [List.map_cons, List.map_cons, List.map_nil, e1, lend_int]
  by_cases h1 : left = 0
  · subst h1
    have : ¬ right 0 n := fun h => h.1 rfl
    simp (disch := omega) only [wk, avalE, aactE, evPE, boundE, asNat, bv_seql cellsEq_ii, bv_sneqd cellsEq_ii, readC, allOne, fillL, resE, tupled, ↓reduceIte, Nat.reduceEqDiff, Int.reduceEq, Int.reduceLT, Int.reduceLE, Nat.reduceAdd, Nat.reduceMul, Nat.reduceLT, Nat.reduceLeDiff, reduceCtorEq, purify, unownT, lend, unown, AV.hf, this]
  by_cases h2 : n % 2 = 0
  case neg =>
    have : ¬ right left n := fun h => h2 h.2.1
    simp (disch := omega) only [wk, avalE, aactE, evPE, boundE, asNat, bv_seql cellsEq_ii, bv_sneqd cellsEq_ii, readC, allOne, fillL, resE, tupled, ↓reduceIte, Nat.reduceEqDiff, Int.reduceEq, Int.reduceLT, Int.reduceLE, Nat.reduceAdd, Nat.reduceMul, Nat.reduceLT, Nat.reduceLeDiff, reduceCtorEq, h1, purify, unownT, lend, unown, AV.hf, this]
  by_cases h3 : 4 ≤ n
  case neg =>
    have : ¬ right left n := fun h => h3 h.2.2.1
    simp (disch := omega) only [wk, avalE, aactE, evPE, boundE, asNat, bv_seql cellsEq_ii, bv_sneqd cellsEq_ii, readC, allOne, fillL, resE, tupled, ↓reduceIte, Nat.reduceEqDiff, Int.reduceEq, Int.reduceLT, Int.reduceLE, Nat.reduceAdd, Nat.reduceMul, Nat.reduceLT, Nat.reduceLeDiff, reduceCtorEq, h1, purify, unownT, lend, unown, AV.hf, this]
  have : right left n ↔ (n : Int) ≤ 56 := ⟨fun h => by have := h.2.2.2; omega, fun h => ⟨h1, h2, h3, by omega⟩⟩
  simp (disch := omega) only [wk, avalE, aactE, evPE, boundE, asNat, bv_seql cellsEq_ii, bv_sneqd cellsEq_ii, readC, allOne, fillL, resE, tupled, ↓reduceIte, Nat.reduceEqDiff, Int.reduceEq, Int.reduceLT, Int.reduceLE, Nat.reduceAdd, Nat.reduceMul, Nat.reduceLT, Nat.reduceLeDiff, reduceCtorEq, h1, purify, unownT, lend, unown, AV.hf, this]
theorem raw_pc (ps : List (Int × Int)) (rest : List AV) (tk : Tk) (hn : ps.length ≤ 1000) (hc : hfL rest = true) : (cbL tab).pc 70 [row ps rest tk] = some (.plain (.int .i64 (rawL ps : Nat))) := by
  obtain ⟨u1, e1, f1⟩ := lend_sl 1 (2 * ps.length) (encs pairA ps ++ rest) tk
  refine pc_wp (fi := c70) rfl ?_ (by simp [c70]) (by decide) ?_
  · simp only [pcOn, List.map_cons, List.map_nil, hfL, hf_lend_sl, hf_lend_int, hf_lend_bool, hf_lend_str, hfL_append, Bool.and_self, Bool.and_true, Bool.true_and, c70, row, hc, hf_pairA]
  unfold c70
  rw [List.map_cons, List.map_nil, row, e1]
  simp (disch := omega) only [wk, avalE, aactE, evPE, boundE, asNat, bv_seql cellsEq_ii, bv_sneqd cellsEq_ii, readC, allOne, fillL, resE, tupled, ↓reduceIte, Nat.reduceEqDiff, Int.reduceEq, Int.reduceLT, Int.reduceLE, Nat.reduceAdd, Nat.reduceMul, Nat.reduceLT, Nat.reduceLeDiff, reduceCtorEq]
  refine loop_ind (fun (x : List (Int × Int) × List (Int × Int)) E df H => ps = x.1 ++ x.2 ∧ rawL ps = x.1.length + rawL x.2 ∧ E 0 = row ps rest u1 ∧ E 3 = .int .i64 (x.1.length : Nat) ∧ df = [] ∧ H = [])
    (fun x => x.2.length) ([], ps) (by decide) (.inl rfl) ⟨rfl, by simp, rfl, rfl, rfl, rfl⟩ ?_
  intro ⟨pre, suf⟩ E df H ih hP
  obtain ⟨a1, a2, E0, E3, hdf, hH⟩ := hP
  dsimp only at a1 a2 E3
  subst hdf hH a1
  simp only [List.length_append] at hn
  cases suf with
  | nil =>
    simp only [rawL, Nat.add_zero] at a2
    simp (disch := omega) only [wk, avalE, aactE, evPE, boundE, asNat, bv_seql cellsEq_ii, bv_sneqd cellsEq_ii, readC, allOne, fillL, resE, tupled, ↓reduceIte, Nat.reduceEqDiff, Int.reduceEq, Int.reduceLT, Int.reduceLE, Nat.reduceAdd, Nat.reduceMul, Nat.reduceLT, Nat.reduceLeDiff, reduceCtorEq, E0, E3, row, purify, unownT, lend, unown, AV.hf, a2]
  | cons x r =>
    simp only [List.length_cons] at hn
    by_cases hx : x.2 = 0
    · simp only [rawL, hx, if_true, Nat.add_zero] at a2
      simp (disch := omega) only [wk, avalE, aactE, evPE, boundE, asNat, bv_seql cellsEq_ii, bv_sneqd cellsEq_ii, readC, allOne, fillL, resE, tupled, ↓reduceIte, Nat.reduceEqDiff, Int.reduceEq, Int.reduceLT, Int.reduceLE, Nat.reduceAdd, Nat.reduceMul, Nat.reduceLT, Nat.reduceLeDiff, reduceCtorEq, E0, E3, row, row_ptr, hx, purify, unownT, lend, unown, AV.hf, a2]
    · simp (disch := omega) only [wk, avalE, aactE, evPE, boundE, asNat, bv_seql cellsEq_ii, bv_sneqd cellsEq_ii, readC, allOne, fillL, resE, tupled, ↓reduceIte, Nat.reduceEqDiff, Int.reduceEq, Int.reduceLT, Int.reduceLE, Nat.reduceAdd, Nat.reduceMul, Nat.reduceLT, Nat.reduceLeDiff, reduceCtorEq, E0, E3, row, row_ptr, hx]
      refine ih (pre ++ [x], r) _ _ _ (by simp) ?_
      exact ⟨by simp, by simp only [a2, rawL, hx, if_false, List.length_append, List.length_cons, List.length_nil]; omega, by simp only [en, ↓reduceIte, Nat.reduceEqDiff, E0, row], by simp only [en, ↓reduceIte, Nat.reduceEqDiff], rfl, rfl⟩
theorem ahead_pc (left : Int) (pre r : List (Int × Int)) (rest : List AV) (tk : Tk) (hn : (pre ++ r).length ≤ 1000) (hc : hfL rest = true) :
    (cbL tab).pc 71 [.int .u64 left, row (pre ++ r) rest tk, .int .i64 (pre.length : Nat)] = some (.plain (.int .u64 (lastP left pre))) := by
  obtain ⟨u1, e1, f1⟩ := lend_sl 1 (2 * (pre ++ r).length) (encs pairA (pre ++ r) ++ rest) tk
  refine pc_wp (fi := c71) rfl ?_ (by simp [c71]) (by decide) ?_
  · simp only [pcOn, List.map_cons, List.map_nil, hfL, hf_lend_sl, hf_lend_int, hf_lend_bool, hf_lend_str, hfL_append, Bool.and_self, Bool.and_true, Bool.true_and, c71, row, hc, hf_pairA]
  unfold c71
  rw [List.map_cons, List.map_cons, List.map_cons, List.map_nil, row, e1, lend_int, lend_int]
  rcases List.eq_nil_or_concat pre with rfl | ⟨p', x, rfl⟩
  · simp (disch := omega) only [wk, avalE, aactE, evPE, boundE, asNat, bv_seql cellsEq_ii, bv_sneqd cellsEq_ii, readC, allOne, fillL, resE, tupled, ↓reduceIte, Nat.reduceEqDiff, Int.reduceEq, Int.reduceLT, Int.reduceLE, Nat.reduceAdd, Nat.reduceMul, Nat.reduceLT, Nat.reduceLeDiff, reduceCtorEq, purify, unownT, lend, unown, AV.hf, lastP, List.getLast?_nil]
  · simp only [List.concat_eq_append, List.append_assoc, List.cons_append, List.nil_append] at *
    simp only [List.length_append, List.length_cons] at hn
    simp (disch := omega) only [wk, avalE, aactE, evPE, boundE, asNat, bv_seql cellsEq_ii, bv_sneqd cellsEq_ii, readC, allOne, fillL, resE, tupled, ↓reduceIte, Nat.reduceEqDiff, Int.reduceEq, Int.reduceLT, Int.reduceLE, Nat.reduceAdd, Nat.reduceMul, Nat.reduceLT, Nat.reduceLeDiff, reduceCtorEq, purify, unownT, lend, unown, AV.hf, lastP_snoc, row_last]
theorem has_pc (l : List (Int × Int)) (p : Int) (rest : List AV) (sz : Nat) (tk : Tk) (hn : l.length ≤ 1000) (hz : l ≠ [] → sz = 2) (hc : hfL rest = true) : (cbL tab).pc 153 [.sl sz l.length (encs pairA l ++ rest) tk, .int .u64 p] = some (.plain (.bool (decide (hasL l p)))) := by
  obtain ⟨u1, e1, f1⟩ := lend_sl sz l.length (encs pairA l ++ rest) tk
  refine pc_wp (fi := c153) rfl ?_ (by simp [c153]) (by decide) ?_
  · simp only [pcOn, List.map_cons, List.map_nil, hfL, hf_lend_sl, hf_lend_int, hf_lend_bool, hf_lend_str, hfL_append, Bool.and_self, Bool.and_true, Bool.true_and, c153, hf_pairA, hc]
  unfold c153
  rw [List.map_cons, List.map_cons, List.map_nil, e1, lend_int]
  simp (disch := omega) only [wk, avalE, aactE, evPE, boundE, asNat, bv_seql cellsEq_ii, bv_sneqd cellsEq_ii, readC, allOne, fillL, resE, tupled, ↓reduceIte, Nat.reduceEqDiff, Int.reduceEq, Int.reduceLT, Int.reduceLE, Nat.reduceAdd, Nat.reduceMul, Nat.reduceLT, Nat.reduceLeDiff, reduceCtorEq]
  refine loop_ind (fun (x : List (Int × Int) × List (Int × Int)) E df H => l = x.1 ++ x.2 ∧ (hasL l p ↔ hasL x.2 p) ∧ E 0 = .sl sz l.length (encs pairA l ++ rest) u1 ∧ E 1 = .int .u64 p ∧ E 5 = .int .i64 (x.1.length : Nat) ∧ df = [] ∧ H = [])
    (fun x => x.2.length) ([], l) (by decide) (.inl rfl) ⟨rfl, Iff.rfl, rfl, rfl, rfl, rfl, rfl⟩ ?_
  intro ⟨pre, suf⟩ E df H ih hP
  obtain ⟨a1, a2, E0, E1, E5, hdf, hH⟩ := hP
  dsimp only at a1 a2 E5
  subst hdf hH a1
  simp only [List.length_append] at hn
  cases suf with
  | nil =>
    have : ¬ hasL (pre ++ []) p := by rw [a2]; simp [hasL]
    simp (disch := omega) only [wk, avalE, aactE, evPE, boundE, asNat, bv_seql cellsEq_ii, bv_sneqd cellsEq_ii, readC, allOne, fillL, resE, tupled, ↓reduceIte, Nat.reduceEqDiff, Int.reduceEq, Int.reduceLT, Int.reduceLE, Nat.reduceAdd, Nat.reduceMul, Nat.reduceLT, Nat.reduceLeDiff, reduceCtorEq, E0, E1, E5, purify, unownT, lend, unown, AV.hf, this]
  | cons x r =>
    simp only [List.length_cons] at hn
    obtain rfl := hz (by simp)
    rw [hasL_cons] at a2
    obtain ⟨k, q⟩ := x
    by_cases hx : q = p
    · have : hasL (pre ++ (k, q) :: r) p := a2.2 (.inl hx)
      simp (disch := omega) only [wk, avalE, aactE, evPE, boundE, asNat, bv_seql cellsEq_ii, bv_sneqd cellsEq_ii, readC, allOne, fillL, resE, tupled, ↓reduceIte, Nat.reduceEqDiff, Int.reduceEq, Int.reduceLT, Int.reduceLE, Nat.reduceAdd, Nat.reduceMul, Nat.reduceLT, Nat.reduceLeDiff, reduceCtorEq, E0, E1, E5, pairA, hx, purify, unownT, lend, unown, AV.hf]
      simp [hx ▸ this]
    · simp (disch := omega) only [wk, avalE, aactE, evPE, boundE, asNat, bv_seql cellsEq_ii, bv_sneqd cellsEq_ii, readC, allOne, fillL, resE, tupled, ↓reduceIte, Nat.reduceEqDiff, Int.reduceEq, Int.reduceLT, Int.reduceLE, Nat.reduceAdd, Nat.reduceMul, Nat.reduceLT, Nat.reduceLeDiff, reduceCtorEq, E0, E1, E5, pairA, hx]
      refine ih (pre ++ [(k, q)], r) _ _ _ (by simp) ?_
      exact ⟨by simp, by rw [a2]; simp [hx], by simp only [en, ↓reduceIte, Nat.reduceEqDiff, E0], by simp only [en, ↓reduceIte, Nat.reduceEqDiff, E1], by simp only [en, ↓reduceIte, Nat.reduceEqDiff], rfl, rfl⟩
end Go.Proofs.Ytailfegmnkldoaa
