/- THE LAW NamesChecks COMES TO true. No condition but those stated. -/
import Derived.Test.YtmogflndepihnaaDoorK1
import Derived.Test.YtmogflndepihnaaDoorAmOpen
set_option linter.unusedSimpArgs false
set_option linter.unusedVariables false
set_option linter.unusedSectionVars false
namespace Go.Proofs.YtmogflndepihnaaDoor
open Go Go.Am Go.Rec Go.Nam
set_option maxHeartbeats 4000000
set_option maxRecDepth 10000
theorem namesChecks_pc {x : AV} (h : OkS .str x) : (cbL tab).pc 3 [x] = some (.plain (.bool true)) := by
  cases h with
  | str s =>
  refine pc_wp (fi := c3) rfl rfl (by simp [c3]) (by decide) ?_
  unfold c3
  rw [List.map_cons, List.map_nil, lend_str]
  by_cases h : 2000 < s.size
  · have h' : (2000 : Int) < s.size := by omega
    simp (disch := omega) only [wk, avalE, aactE, evPE, boundE, asNat, bv_seql cellsEq_ii, bv_sneqd cellsEq_ii, readC, allOne, fillL, resE, tupled, ↓reduceIte, Nat.reduceEqDiff, Int.reduceEq, Int.reduceLT, Int.reduceLE, Nat.reduceAdd, Nat.reduceMul, Nat.reduceLT, Nat.reduceLeDiff, reduceCtorEq, h', works_px, purify, unownT, AV.hf]
  · have h' : ¬ (2000 : Int) < s.size := by omega
    have a := fun H => ncheck_px s H
    have b := fun H => rcheck_px s H (by omega)
    simp (disch := omega) only [wk, avalE, aactE, evPE, boundE, asNat, bv_seql cellsEq_ii, bv_sneqd cellsEq_ii, readC, allOne, fillL, resE, tupled, ↓reduceIte, Nat.reduceEqDiff, Int.reduceEq, Int.reduceLT, Int.reduceLE, Nat.reduceAdd, Nat.reduceMul, Nat.reduceLT, Nat.reduceLeDiff, reduceCtorEq, h', a, b, num_px, works_px, purify, unownT, AV.hf]
end Go.Proofs.YtmogflndepihnaaDoor
