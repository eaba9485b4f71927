/- THE LAW WalkNone COMES TO true. No condition but those stated. -/
import Derived.Test.YtmogflndepihnaaDoorW1
import Derived.Test.YtmogflndepihnaaDoorAmOpen
set_option linter.unusedSimpArgs false
set_option linter.unusedVariables false
set_option linter.unusedSectionVars false
namespace Go.Proofs.YtmogflndepihnaaDoor
open Go Go.Am Go.Nam Go.Wlk Go.Rec
set_option maxHeartbeats 4000000
set_option maxRecDepth 10000
theorem num17_px (n : Int) (H : Heap) : pcx (cbL tab) 34 [.int .i64 n] H = some (.plain (.int .i64 n)) := by
  refine pcx_N rfl (pc_wp (fi := c34) rfl rfl (by simp [c34]) (by decide) ?_)
  unfold c34
  rw [List.map_cons, List.map_nil, lend_int]
  simp (disch := omega) only [wk, avalE, aactE, evPE, boundE, asNat, bv_seql cellsEq_ii, bv_sneqd cellsEq_ii, readC, allOne, fillL, resE, tupled, ↓reduceIte, Nat.reduceEqDiff, Int.reduceEq, Int.reduceLT, Int.reduceLE, Nat.reduceAdd, Nat.reduceMul, Nat.reduceLT, Nat.reduceLeDiff, reduceCtorEq, purify, unownT, unown, AV.hf, hfL]
theorem walkNone_pc {f : List AV} (ho : OkL [.int .i64, .int .i64, .str] f) : (cbL tab).pc 13 [.agg f] = some (.plain (.bool true)) := by
  obtain ⟨a, b, c, rfl⟩ : ∃ a b c, f = [.int .i64 a, .int .i64 b, .str c] := by
    obtain ⟨hl, h⟩ := ho
    match f, hl with
    | [x, y, z], _ =>
      have h0 := h 0 _ _ rfl rfl
      have h1 := h 1 _ _ rfl rfl
      have h2 := h 2 _ _ rfl rfl
      cases h0; cases h1; cases h2
      exact ⟨_, _, _, rfl⟩
  refine pc_wp (fi := c13) rfl rfl (by simp [c13]) (by decide) ?_
  unfold c13
  rw [List.map_cons, List.map_nil]
  have el : lend (.agg [.int .i64 a, .int .i64 b, .str c]) = .agg [.int .i64 a, .int .i64 b, .str c] := rfl
  rw [el]
  have hz : ∀ ext, None' (.ptr 1 0) (AObj.cells [.int .i64 a, .int .i64 b, .str c] :: AObj.cells [.int .i64 0, .int .i64 0, .str (ByteArray.mk (Array.mk [])), .int .i64 0, .int .i64 0, .bool false, .int .i64 0, .sl 0 0 [] .z, .int .i64 0, .bool false, .bool false] :: ext) := fun ext => none_of_zero rfl
  have n1 := fun H => asks_none (none_of_nil H)
  have n2 := fun H => done_none (none_of_nil H)
  have n3 := fun H => give_none (none_of_nil H) [.int .i64 a, .int .i64 b, .str c] rfl
  have n4 := fun H => miss_none (none_of_nil H)
  have n5 := fun H => left_none (none_of_nil H)
  have n6 := fun H => copy_none (none_of_nil H)
  have z1 := fun ext => asks_none (hz ext)
  have z2 := fun ext => done_none (hz ext)
  have z4 := fun ext => miss_none (hz ext)
  have z5 := fun ext => left_none (hz ext)
  have z6 := fun ext => copy_none (hz ext)
  simp (disch := omega) only [wk, avalE, aactE, evPE, boundE, asNat, bv_seql cellsEq_ii, bv_sneqd cellsEq_ii, readC, allOne, fillL, resE, tupled, ↓reduceIte, Nat.reduceEqDiff, Int.reduceEq, Int.reduceLT, Int.reduceLE, Nat.reduceAdd, Nat.reduceMul, Nat.reduceLT, Nat.reduceLeDiff, reduceCtorEq, n1, n2, n3, n4, n5, n6, z1, z2, z4, z5, z6, pnn, num17_px, works17_px, zeroW, Wd.cells, in_none, runE_none ll_none, in_Asks, runE_none ll_Asks, in_Give, runE_none ll_Give, in_Miss, runE_none ll_Miss, in_Done, runE_none ll_Done, in_Copy, runE_none ll_Copy, in_on, runE_none ll_on, in_asked, runE_none ll_asked, in_into, runE_none ll_into, in_through, runE_none ll_through, in_ends, runE_none ll_ends, in_Left, runE_none ll_Left, in_New, runE_none ll_New, in_same, runE_none ll_same, purify, unownT, unown, AV.hf, hfL]
end Go.Proofs.YtmogflndepihnaaDoor
