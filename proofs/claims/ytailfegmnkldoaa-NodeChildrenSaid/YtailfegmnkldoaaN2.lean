/- THE WALK OF Of. No condition but those stated. -/
import Derived.Test.YtailfegmnkldoaaN1
import Derived.Test.YtailfegmnkldoaaS12
set_option linter.unusedSimpArgs false
set_option linter.unusedVariables false
set_option linter.unusedSectionVars false
namespace Go.Proofs.Ytailfegmnkldoaa
open Go Go.Am Go.Slots Go.Nod
set_option maxHeartbeats 4000000
set_option maxRecDepth 10000
theorem nz_px (x : Int) (H : Heap) : pcx (cbL tab) 62 [.int .u64 x] H = some (.plain (.bool (decide (x ≠ 0)))) := by
  refine pcx_N rfl (pc_wp (fi := c62) rfl rfl (by simp [c62]) (by decide) ?_)
  unfold c62
  by_cases h : x = 0
  · simp (disch := omega) only [wk, avalE, aactE, evPE, boundE, asNat, bv_seql cellsEq_ii, bv_sneqd cellsEq_ii, readC, allOne, fillL, resE, tupled, ↓reduceIte, Nat.reduceEqDiff, Int.reduceEq, Int.reduceLT, Int.reduceLE, Nat.reduceAdd, Nat.reduceMul, Nat.reduceLT, Nat.reduceLeDiff, reduceCtorEq, lend, unown, h, purify, unownT, lend, unown, AV.hf]
  · simp (disch := omega) only [wk, avalE, aactE, evPE, boundE, asNat, bv_seql cellsEq_ii, bv_sneqd cellsEq_ii, readC, allOne, fillL, resE, tupled, ↓reduceIte, Nat.reduceEqDiff, Int.reduceEq, Int.reduceLT, Int.reduceLE, Nat.reduceAdd, Nat.reduceMul, Nat.reduceLT, Nat.reduceLeDiff, reduceCtorEq, lend, unown, h, purify, unownT, lend, unown, AV.hf]
theorem spare_px (a b c : Int) (rest : List AV) (tk : Tk) (H : Heap) (hr : hfL rest = true) : pcx (cbL tab) 61 [.sl 1 3 (.int .u64 a :: .int .u64 b :: .int .u64 c :: rest) tk, .fn 62 []] H = some (.plain (.bool (decide (¬ (a = 0 ∧ b = 0 ∧ c = 0))))) := by
  have key : ∀ (H : Heap) (u : Tk), u.hf = true → pcx (cbL tab) 95 [.sl 1 3 (.int .u64 a :: .int .u64 b :: .int .u64 c :: rest) u, .fn 62 []] H = some (.plain (.int .i64 (if a ≠ 0 then 0 else if b ≠ 0 then 1 else if c ≠ 0 then 2 else -1))) := by
    intro H u hu
    obtain ⟨u1, e1, f1⟩ := lend_sl 1 3 (.int .u64 a :: .int .u64 b :: .int .u64 c :: rest) u
    refine pcx_N rfl (pc_wp (fi := c95) rfl ?_ (by simp [c95]) (by decide) ?_)
    · simp only [pcOn, List.map_cons, List.map_nil, hfL, hf_lend_sl, hf_lend_int, hf_lend_bool, hf_lend_str, hfL_append, Bool.and_self, Bool.and_true, Bool.true_and, c95, hr]; simp [hfL, AV.hf, hr, lend, unown]
    unfold c95
    rw [List.map_cons, List.map_cons, List.map_nil, e1]
    have nz := nz_px
    simp (disch := omega) only [wk, avalE, aactE, evPE, boundE, asNat, bv_seql cellsEq_ii, bv_sneqd cellsEq_ii, readC, allOne, fillL, resE, tupled, ↓reduceIte, Nat.reduceEqDiff, Int.reduceEq, Int.reduceLT, Int.reduceLE, Nat.reduceAdd, Nat.reduceMul, Nat.reduceLT, Nat.reduceLeDiff, reduceCtorEq, lend, unown, List.map_nil]
    rw [ret_loop]
    by_cases ha : a = 0
    case neg =>
      simp (disch := omega) only [wk, avalE, aactE, evPE, boundE, asNat, bv_seql cellsEq_ii, bv_sneqd cellsEq_ii, readC, allOne, fillL, resE, tupled, ↓reduceIte, Nat.reduceEqDiff, Int.reduceEq, Int.reduceLT, Int.reduceLE, Nat.reduceAdd, Nat.reduceMul, Nat.reduceLT, Nat.reduceLeDiff, reduceCtorEq, Int.reduceToNat, Int.reduceAdd, nz, ha, purify, unownT, lend, unown, AV.hf]
    simp (disch := omega) only [wk, avalE, aactE, evPE, boundE, asNat, bv_seql cellsEq_ii, bv_sneqd cellsEq_ii, readC, allOne, fillL, resE, tupled, ↓reduceIte, Nat.reduceEqDiff, Int.reduceEq, Int.reduceLT, Int.reduceLE, Nat.reduceAdd, Nat.reduceMul, Nat.reduceLT, Nat.reduceLeDiff, reduceCtorEq, Int.reduceToNat, Int.reduceAdd, nz, ha]
    refine ret_again (by decide) (.inl rfl) ?_
    rw [ret_loop]
    by_cases hb : b = 0
    case neg =>
      simp (disch := omega) only [wk, avalE, aactE, evPE, boundE, asNat, bv_seql cellsEq_ii, bv_sneqd cellsEq_ii, readC, allOne, fillL, resE, tupled, ↓reduceIte, Nat.reduceEqDiff, Int.reduceEq, Int.reduceLT, Int.reduceLE, Nat.reduceAdd, Nat.reduceMul, Nat.reduceLT, Nat.reduceLeDiff, reduceCtorEq, Int.reduceToNat, Int.reduceAdd, nz, hb, purify, unownT, lend, unown, AV.hf]
    simp (disch := omega) only [wk, avalE, aactE, evPE, boundE, asNat, bv_seql cellsEq_ii, bv_sneqd cellsEq_ii, readC, allOne, fillL, resE, tupled, ↓reduceIte, Nat.reduceEqDiff, Int.reduceEq, Int.reduceLT, Int.reduceLE, Nat.reduceAdd, Nat.reduceMul, Nat.reduceLT, Nat.reduceLeDiff, reduceCtorEq, Int.reduceToNat, Int.reduceAdd, nz, hb]
    refine ret_again (by decide) (.inl rfl) ?_
    rw [ret_loop]
    by_cases hc : c = 0
    case neg =>
      simp (disch := omega) only [wk, avalE, aactE, evPE, boundE, asNat, bv_seql cellsEq_ii, bv_sneqd cellsEq_ii, readC, allOne, fillL, resE, tupled, ↓reduceIte, Nat.reduceEqDiff, Int.reduceEq, Int.reduceLT, Int.reduceLE, Nat.reduceAdd, Nat.reduceMul, Nat.reduceLT, Nat.reduceLeDiff, reduceCtorEq, Int.reduceToNat, Int.reduceAdd, nz, hc, purify, unownT, lend, unown, AV.hf]
    simp (disch := omega) only [wk, avalE, aactE, evPE, boundE, asNat, bv_seql cellsEq_ii, bv_sneqd cellsEq_ii, readC, allOne, fillL, resE, tupled, ↓reduceIte, Nat.reduceEqDiff, Int.reduceEq, Int.reduceLT, Int.reduceLE, Nat.reduceAdd, Nat.reduceMul, Nat.reduceLT, Nat.reduceLeDiff, reduceCtorEq, Int.reduceToNat, Int.reduceAdd, nz, hc]
    refine ret_again (by decide) (.inl rfl) ?_
    rw [ret_loop]
    simp (disch := omega) only [wk, avalE, aactE, evPE, boundE, asNat, bv_seql cellsEq_ii, bv_sneqd cellsEq_ii, readC, allOne, fillL, resE, tupled, ↓reduceIte, Nat.reduceEqDiff, Int.reduceEq, Int.reduceLT, Int.reduceLE, Nat.reduceAdd, Nat.reduceMul, Nat.reduceLT, Nat.reduceLeDiff, reduceCtorEq, purify, unownT, lend, unown, AV.hf]
  obtain ⟨u1, e1, f1⟩ := lend_sl 1 3 (.int .u64 a :: .int .u64 b :: .int .u64 c :: rest) tk
  refine pcx_N rfl (pc_wp (fi := c61) rfl ?_ (by simp [c61]) (by decide) ?_)
  · simp only [pcOn, List.map_cons, List.map_nil, hfL, hf_lend_sl, hf_lend_int, hf_lend_bool, hf_lend_str, hfL_append, Bool.and_self, Bool.and_true, Bool.true_and, c61, hr]; simp [hfL, AV.hf, hr, lend, unown]
  unfold c61
  have k1 := fun H => key H u1 f1
  rw [List.map_cons, List.map_cons, List.map_nil, e1]
  by_cases ha : a = 0
  · by_cases hb : b = 0
    · by_cases hc : c = 0
      · simp only [ha, hb, hc, ne_eq, not_true_eq_false, if_false] at k1
        simp (disch := omega) only [wk, avalE, aactE, evPE, boundE, asNat, bv_seql cellsEq_ii, bv_sneqd cellsEq_ii, readC, allOne, fillL, resE, tupled, ↓reduceIte, Nat.reduceEqDiff, Int.reduceEq, Int.reduceLT, Int.reduceLE, Nat.reduceAdd, Nat.reduceMul, Nat.reduceLT, Nat.reduceLeDiff, reduceCtorEq, lend, unown, List.map_nil, k1, ha, hb, hc, purify, unownT, lend, unown, AV.hf]
      · simp only [ha, hb, hc, ne_eq, not_true_eq_false, not_false_eq_true, if_true, if_false] at k1
        simp (disch := omega) only [wk, avalE, aactE, evPE, boundE, asNat, bv_seql cellsEq_ii, bv_sneqd cellsEq_ii, readC, allOne, fillL, resE, tupled, ↓reduceIte, Nat.reduceEqDiff, Int.reduceEq, Int.reduceLT, Int.reduceLE, Nat.reduceAdd, Nat.reduceMul, Nat.reduceLT, Nat.reduceLeDiff, reduceCtorEq, lend, unown, List.map_nil, k1, ha, hb, hc, purify, unownT, lend, unown, AV.hf, and_false]
    · simp only [ha, hb, ne_eq, not_true_eq_false, not_false_eq_true, if_true, if_false] at k1
      simp (disch := omega) only [wk, avalE, aactE, evPE, boundE, asNat, bv_seql cellsEq_ii, bv_sneqd cellsEq_ii, readC, allOne, fillL, resE, tupled, ↓reduceIte, Nat.reduceEqDiff, Int.reduceEq, Int.reduceLT, Int.reduceLE, Nat.reduceAdd, Nat.reduceMul, Nat.reduceLT, Nat.reduceLeDiff, reduceCtorEq, lend, unown, List.map_nil, k1, ha, hb, purify, unownT, lend, unown, AV.hf, false_and, and_false]
  · simp only [ha, ne_eq, not_false_eq_true, if_true] at k1
    simp (disch := omega) only [wk, avalE, aactE, evPE, boundE, asNat, bv_seql cellsEq_ii, bv_sneqd cellsEq_ii, readC, allOne, fillL, resE, tupled, ↓reduceIte, Nat.reduceEqDiff, Int.reduceEq, Int.reduceLT, Int.reduceLE, Nat.reduceAdd, Nat.reduceMul, Nat.reduceLT, Nat.reduceLeDiff, reduceCtorEq, lend, unown, List.map_nil, k1, ha, purify, unownT, lend, unown, AV.hf, false_and]
/-- The parts of a head. -/
def partsA : List AV := [.fn 96 [], .fn 97 [], .fn 98 [], .fn 99 [], .fn 100 [], .fn 101 [], .fn 102 [], .fn 103 [], .fn 104 [], .fn 105 [], .fn 107 [], .fn 108 [], .fn 109 [], .fn 110 [], .fn 111 []]
theorem parts_px (H : Heap) : pcx (cbL tab) 63 [] H = some (.plain (.sl 3 5 partsA .ro)) := by
  refine pcx_N rfl (pc_wp (fi := c63) rfl rfl (by simp [c63]) (by decide) ?_)
  unfold c63
  simp (disch := omega) only [wk, avalE, aactE, evPE, boundE, asNat, bv_seql cellsEq_ii, bv_sneqd cellsEq_ii, readC, allOne, fillL, resE, tupled, ↓reduceIte, Nat.reduceEqDiff, Int.reduceEq, Int.reduceLT, Int.reduceLE, Nat.reduceAdd, Nat.reduceMul, Nat.reduceLT, Nat.reduceLeDiff, reduceCtorEq, purify, unownT, lend, unown, AV.hf, partsA, Tk.hf, hfL]
end Go.Proofs.Ytailfegmnkldoaa
