/- THE LAW InodeLinked COMES TO true. No condition but those stated. -/
import Derived.Test.YtncmflmjlocgiaaI1
import Derived.Test.YtncmflmjlocgiaaAmOpen
set_option linter.unusedSimpArgs false
set_option linter.unusedVariables false
set_option linter.unusedSectionVars false
namespace Go.Proofs.Ytncmflmjlocgiaa
open Go Go.Am Go.Rec Go.Ino
set_option maxHeartbeats 2000000
set_option maxRecDepth 10000
theorem inodeLinked_pc0 (w k : Int) (h0 : 0 ≤ w) (h1 : w ≤ 18446744073709551615) : (cbL tab).pc 9 [.int .u64 w, .int .i64 k] = some (.plain (.bool true)) := by
  refine pc_wp (fi := c9) rfl rfl (by simp [c9]) (by decide) ?_
  unfold c9
  rw [List.map_cons, List.map_cons, List.map_nil, lend_int, lend_int]
  have w1 := fun H => linked_px w k h0 (by omega) H
  have w2 := fun H => rlinked_px w k h0 (by omega) H
  simp (disch := omega) only [wk1, wk2, wk3, wk4, wk5, wk6, wk7, avalE, aactE, evPE, boundE, asNat, Nat.zero_mul, Int.tdiv_eq_ediv_of_nonneg, Int.tmod_eq_emod_of_nonneg, List.length_append, Nat.mul_one, bv_seql cellsEq_ii, bv_sneqd cellsEq_ii, Bool.not_false, Bool.not_true, decide_eq_true_eq, Bool.not_eq_true, eq_self, ne_eq, and_true, true_and, and_self, not_true_eq_false, not_false_eq_true, if_true, if_false, decide_true, decide_false, Int.toNat_natCast, Int.natCast_nonneg, List.drop_zero, List.take_zero, List.take_succ_cons, List.drop_succ_cons, readC, allOne, Bool.and_self, Bool.and_true, Bool.true_and, fillL, beq_self_eq_true, Nat.one_mul, List.drop_nil, resE, tupled, List.map_nil, List.map_cons, Option.map_some, ↓reduceIte, Nat.reduceEqDiff, Int.reduceEq, Int.reduceLT, Int.reduceLE, Nat.reduceAdd, Nat.reduceMul, Nat.reduceLT, Nat.reduceLeDiff, reduceCtorEq, List.length_nil, List.length_cons, Nat.add_zero, Nat.sub_zero, List.nil_append, List.cons_append, List.getElem?_cons_zero, List.getElem?_cons_succ, List.set_cons_zero, List.set_cons_succ, w1, w2, linkedR, num_px, works_px, purify, unownT, AV.hf]

theorem inodeLinked_pc {x y : AV} (h : OkS (.int .u64) x) (h' : OkS (.int .i64) y) : (cbL tab).pc 9 [x, y] = some (.plain (.bool true)) := by
  cases h with
  | int _ w h1 h2 =>
    cases h' with
    | int _ k _ _ => exact inodeLinked_pc0 w k h1 h2
end Go.Proofs.Ytncmflmjlocgiaa
