/- AN ERROR'S NUMBER. No condition but those stated. -/
import Derived.Test.YtmogflndepihnaaDoorW1
import Derived.Test.YtmogflndepihnaaDoorAmOpen
set_option linter.unusedSimpArgs false
set_option linter.unusedVariables false
set_option linter.unusedSectionVars false
namespace Go.Proofs.YtmogflndepihnaaDoor
open Go Go.Am Go.Nam Go.Wlk Go.Rec
set_option maxHeartbeats 4000000
set_option maxRecDepth 10000
theorem num17_px (n : Int) (H : Heap) : pcx (cbL tab) 34 [.int .i64 n] H = some (.plain (.int .i64 n)) := by
  refine pcx_N rfl (pc_wp (fi := c34) rfl rfl (by simp [c34]) (by decide) ?_)
  unfold c34
  rw [List.map_cons, List.map_nil, lend_int]
  simp (disch := omega) only [wk, avalE, aactE, evPE, boundE, asNat, bv_seql cellsEq_ii, bv_sneqd cellsEq_ii, readC, allOne, fillL, resE, tupled, ↓reduceIte, Nat.reduceEqDiff, Int.reduceEq, Int.reduceLT, Int.reduceLE, Nat.reduceAdd, Nat.reduceMul, Nat.reduceLT, Nat.reduceLeDiff, reduceCtorEq, purify, unownT, unown, AV.hf, hfL]
end Go.Proofs.YtmogflndepihnaaDoor
