/- THE WALKS OF WHAT A RECORD MAY BE, AND OF FIELDS. No condition but those stated. -/
import Derived.Test.YtailfegmnkldoaaR1
set_option linter.unusedSimpArgs false
set_option linter.unusedVariables false
set_option linter.unusedSectionVars false
namespace Go.Proofs.Ytailfegmnkldoaa
open Go Go.Am Go.Rec
set_option maxHeartbeats 2000000
set_option maxRecDepth 10000
theorem in_px (n lo hi : Int) (H : Heap) : pcx (cbL tab) 77 [.int .i64 n, .int .i64 lo, .int .i64 hi] H = some (.plain (.bool (decide (lo ≤ n ∧ n ≤ hi)))) := by
  refine pcx_N rfl (pc_wp (fi := c77) rfl rfl (by simp [c77]) (by decide) ?_)
  unfold c77
  rw [List.map_cons, List.map_cons, List.map_cons, List.map_nil, lend_int, lend_int, lend_int]
  by_cases h1 : lo ≤ n <;> by_cases h2 : n ≤ hi <;> simp (disch := omega) only [wk, avalE, aactE, evPE, boundE, asNat, bv_seql cellsEq_ii, bv_sneqd cellsEq_ii, readC, allOne, fillL, resE, tupled, ↓reduceIte, Nat.reduceEqDiff, Int.reduceEq, Int.reduceLT, Int.reduceLE, Nat.reduceAdd, Nat.reduceMul, Nat.reduceLT, Nat.reduceLeDiff, reduceCtorEq, h1, h2, purify, unownT, lend, AV.hf, and_false, false_and]
end Go.Proofs.Ytailfegmnkldoaa
