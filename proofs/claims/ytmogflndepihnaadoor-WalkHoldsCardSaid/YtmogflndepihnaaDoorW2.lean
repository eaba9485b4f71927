/- WHAT IS TOLD OF NONE. No condition but those stated. -/
import Derived.Test.YtmogflndepihnaaDoorW1
set_option linter.unusedSimpArgs false
set_option linter.unusedVariables false
set_option linter.unusedSectionVars false
namespace Go.Proofs.YtmogflndepihnaaDoor
open Go Go.Am Go.Nam Go.Wlk Go.Rec
set_option maxHeartbeats 4000000
set_option maxRecDepth 10000
/-- There is no walker. -/
def None' (p : AV) (H : Heap) : Prop := ∀ ext, (cbL tab).ic 67 [p] (H ++ ext) = some (.ret (.bool true), H ++ ext)
theorem None'.app {p : AV} {H : Heap} (h : None' p H) (L : List AObj) : None' p (H ++ L) := fun ext => by rw [List.append_assoc]; exact h _
theorem None'.at {p : AV} {H : Heap} (h : None' p H) : (cbL tab).ic 67 [p] H = some (.ret (.bool true), H) := by have := h []; rwa [List.append_nil] at this
theorem none_of_nil (H : Heap) : None' .nilp H := fun _ => none_nil _
theorem none_of_zero {H : Heap} {a : Nat} {c0 c1 c2 c3 c4 c5 c6 c7 c8 c9 : AV} (h : H[a]? = some (.cells [c0, c1, c2, c3, c4, c5, c6, c7, c8, c9, .bool false])) : None' (.ptr a 0) H := fun ext =>
  none_ic (b := false) (by rw [List.getElem?_append_left (List.getElem?_eq_some_iff.1 h).1]; exact h)
theorem asked_none {p : AV} {H : Heap} (h : None' p H) : (cbL tab).ic 68 [p] H = some (.ret (.int .i64 1), H) := by
  have : ∃ o H', (cbL tab).ic 68 [p] H = some (o, H') ∧ o = .ret (.int .i64 1) ∧ H' = H := by
    refine ic_wp (fi := c68) rfl rfl (by simp [c68]) (by decide) ?_
    unfold c68
    have h0 := h.at
    simp (disch := omega) only [wk, avalE, aactE, evPE, boundE, asNat, bv_seql cellsEq_ii, bv_sneqd cellsEq_ii, readC, allOne, fillL, resE, tupled, ↓reduceIte, Nat.reduceEqDiff, Int.reduceEq, Int.reduceLT, Int.reduceLE, Nat.reduceAdd, Nat.reduceMul, Nat.reduceLT, Nat.reduceLeDiff, reduceCtorEq, h0, in_none, runE_none ll_none, in_Asks, runE_none ll_Asks, in_Give, runE_none ll_Give, in_Miss, runE_none ll_Miss, in_Done, runE_none ll_Done, in_Copy, runE_none ll_Copy, in_on, runE_none ll_on, in_asked, runE_none ll_asked, in_into, runE_none ll_into, in_through, runE_none ll_through, in_ends, runE_none ll_ends, in_Left, runE_none ll_Left, in_New, runE_none ll_New, in_same, runE_none ll_same]
  obtain ⟨o, H', h, rfl, rfl⟩ := this
  exact h
theorem asks_none {p : AV} {H : Heap} (h : None' p H) : (cbL tab).ic 35 [p] H = some (.ret (.tup [.int .i64 0, .str (bs []), .bool false]), H) := by
  have : ∃ o H', (cbL tab).ic 35 [p] H = some (o, H') ∧ o = .ret (.tup [.int .i64 0, .str (bs []), .bool false]) ∧ H' = H := by
    refine ic_wp (fi := c35) rfl rfl (by simp [c35]) (by decide) ?_
    unfold c35
    have h0 := h.at
    simp (disch := omega) only [wk, avalE, aactE, evPE, boundE, asNat, bv_seql cellsEq_ii, bv_sneqd cellsEq_ii, readC, allOne, fillL, resE, tupled, ↓reduceIte, Nat.reduceEqDiff, Int.reduceEq, Int.reduceLT, Int.reduceLE, Nat.reduceAdd, Nat.reduceMul, Nat.reduceLT, Nat.reduceLeDiff, reduceCtorEq, h0, in_none, runE_none ll_none, in_Asks, runE_none ll_Asks, in_Give, runE_none ll_Give, in_Miss, runE_none ll_Miss, in_Done, runE_none ll_Done, in_Copy, runE_none ll_Copy, in_on, runE_none ll_on, in_asked, runE_none ll_asked, in_into, runE_none ll_into, in_through, runE_none ll_through, in_ends, runE_none ll_ends, in_Left, runE_none ll_Left, in_New, runE_none ll_New, in_same, runE_none ll_same]
    rfl
  obtain ⟨o, H', h, rfl, rfl⟩ := this
  exact h
theorem done_none {p : AV} {H : Heap} (h : None' p H) : (cbL tab).ic 39 [p] H = some (.ret (.tup [.agg zeroW.cells, .bool false]), H ++ [.cells zeroW.cells]) := by
  have : ∃ o H', (cbL tab).ic 39 [p] H = some (o, H') ∧ o = .ret (.tup [.agg zeroW.cells, .bool false]) ∧ H' = H ++ [.cells zeroW.cells] := by
    refine ic_wp (fi := c39) rfl rfl (by simp [c39]) (by decide) ?_
    unfold c39
    have h0 := fun ext => h ext
    have g0 : ∀ (L : List AObj), (H ++ L)[H.length]? = L[0]? := fun L => by rw [List.getElem?_append_right (by omega)]; congr 1; omega
    have s0 : ∀ (L : List AObj) (o : AObj), (H ++ L).set H.length o = H ++ L.set 0 o := fun L o => by rw [List.set_append_right _ _ (by omega)]; congr 2; omega
    simp (disch := omega) only [wk, avalE, aactE, evPE, boundE, asNat, bv_seql cellsEq_ii, bv_sneqd cellsEq_ii, readC, allOne, fillL, resE, tupled, ↓reduceIte, Nat.reduceEqDiff, Int.reduceEq, Int.reduceLT, Int.reduceLE, Nat.reduceAdd, Nat.reduceMul, Nat.reduceLT, Nat.reduceLeDiff, reduceCtorEq, h0, in_none, runE_none ll_none, in_Asks, runE_none ll_Asks, in_Give, runE_none ll_Give, in_Miss, runE_none ll_Miss, in_Done, runE_none ll_Done, in_Copy, runE_none ll_Copy, in_on, runE_none ll_on, in_asked, runE_none ll_asked, in_into, runE_none ll_into, in_through, runE_none ll_through, in_ends, runE_none ll_ends, in_Left, runE_none ll_Left, in_New, runE_none ll_New, in_same, runE_none ll_same, g0, s0]
    exact ⟨rfl, rfl⟩
  obtain ⟨o, H', h, rfl, rfl⟩ := this
  exact h
theorem give_none {p : AV} {H : Heap} (h : None' p H) (f : List AV) (ho : allOne f = true) : (cbL tab).ic 37 [p, .agg f] H = some (.ret (.int .i64 1), H ++ [.cells f]) := by
  have : ∃ o H', (cbL tab).ic 37 [p, .agg f] H = some (o, H') ∧ o = .ret (.int .i64 1) ∧ H' = H ++ [.cells f] := by
    refine ic_wp (fi := c37) rfl rfl (by simp [c37]) (by decide) ?_
    unfold c37
    have h0 := fun L => asked_none (h.app L)
    simp (disch := omega) only [wk, avalE, aactE, evPE, boundE, asNat, bv_seql cellsEq_ii, bv_sneqd cellsEq_ii, readC, allOne, fillL, resE, tupled, ↓reduceIte, Nat.reduceEqDiff, Int.reduceEq, Int.reduceLT, Int.reduceLE, Nat.reduceAdd, Nat.reduceMul, Nat.reduceLT, Nat.reduceLeDiff, reduceCtorEq, h0, ho, in_none, runE_none ll_none, in_Asks, runE_none ll_Asks, in_Give, runE_none ll_Give, in_Miss, runE_none ll_Miss, in_Done, runE_none ll_Done, in_Copy, runE_none ll_Copy, in_on, runE_none ll_on, in_asked, runE_none ll_asked, in_into, runE_none ll_into, in_through, runE_none ll_through, in_ends, runE_none ll_ends, in_Left, runE_none ll_Left, in_New, runE_none ll_New, in_same, runE_none ll_same]
  obtain ⟨o, H', h, rfl, rfl⟩ := this
  exact h
theorem miss_none {p : AV} {H : Heap} (h : None' p H) : (cbL tab).ic 38 [p] H = some (.ret (.int .i64 1), H) := by
  have : ∃ o H', (cbL tab).ic 38 [p] H = some (o, H') ∧ o = .ret (.int .i64 1) ∧ H' = H := by
    refine ic_wp (fi := c38) rfl rfl (by simp [c38]) (by decide) ?_
    unfold c38
    have h0 := asked_none h
    simp (disch := omega) only [wk, avalE, aactE, evPE, boundE, asNat, bv_seql cellsEq_ii, bv_sneqd cellsEq_ii, readC, allOne, fillL, resE, tupled, ↓reduceIte, Nat.reduceEqDiff, Int.reduceEq, Int.reduceLT, Int.reduceLE, Nat.reduceAdd, Nat.reduceMul, Nat.reduceLT, Nat.reduceLeDiff, reduceCtorEq, h0, in_none, runE_none ll_none, in_Asks, runE_none ll_Asks, in_Give, runE_none ll_Give, in_Miss, runE_none ll_Miss, in_Done, runE_none ll_Done, in_Copy, runE_none ll_Copy, in_on, runE_none ll_on, in_asked, runE_none ll_asked, in_into, runE_none ll_into, in_through, runE_none ll_through, in_ends, runE_none ll_ends, in_Left, runE_none ll_Left, in_New, runE_none ll_New, in_same, runE_none ll_same]
  obtain ⟨o, H', h, rfl, rfl⟩ := this
  exact h
theorem left_none {p : AV} {H : Heap} (h : None' p H) : (cbL tab).ic 50 [p] H = some (.ret (.sl 0 0 [] .z), H) := by
  have : ∃ o H', (cbL tab).ic 50 [p] H = some (o, H') ∧ o = .ret (.sl 0 0 [] .z) ∧ H' = H := by
    refine ic_wp (fi := c50) rfl rfl (by simp [c50]) (by decide) ?_
    unfold c50
    have h0 := h.at
    simp (disch := omega) only [wk, avalE, aactE, evPE, boundE, asNat, bv_seql cellsEq_ii, bv_sneqd cellsEq_ii, readC, allOne, fillL, resE, tupled, ↓reduceIte, Nat.reduceEqDiff, Int.reduceEq, Int.reduceLT, Int.reduceLE, Nat.reduceAdd, Nat.reduceMul, Nat.reduceLT, Nat.reduceLeDiff, reduceCtorEq, h0, in_none, runE_none ll_none, in_Asks, runE_none ll_Asks, in_Give, runE_none ll_Give, in_Miss, runE_none ll_Miss, in_Done, runE_none ll_Done, in_Copy, runE_none ll_Copy, in_on, runE_none ll_on, in_asked, runE_none ll_asked, in_into, runE_none ll_into, in_through, runE_none ll_through, in_ends, runE_none ll_ends, in_Left, runE_none ll_Left, in_New, runE_none ll_New, in_same, runE_none ll_same]
  obtain ⟨o, H', h, rfl, rfl⟩ := this
  exact h
theorem copy_none {p : AV} {H : Heap} (h : None' p H) : (cbL tab).ic 46 [p] H = some (.ret .nilp, H) := by
  have : ∃ o H', (cbL tab).ic 46 [p] H = some (o, H') ∧ o = .ret .nilp ∧ H' = H := by
    refine ic_wp (fi := c46) rfl rfl (by simp [c46]) (by decide) ?_
    unfold c46
    have h0 := h.at
    simp (disch := omega) only [wk, avalE, aactE, evPE, boundE, asNat, bv_seql cellsEq_ii, bv_sneqd cellsEq_ii, readC, allOne, fillL, resE, tupled, ↓reduceIte, Nat.reduceEqDiff, Int.reduceEq, Int.reduceLT, Int.reduceLE, Nat.reduceAdd, Nat.reduceMul, Nat.reduceLT, Nat.reduceLeDiff, reduceCtorEq, h0, in_none, runE_none ll_none, in_Asks, runE_none ll_Asks, in_Give, runE_none ll_Give, in_Miss, runE_none ll_Miss, in_Done, runE_none ll_Done, in_Copy, runE_none ll_Copy, in_on, runE_none ll_on, in_asked, runE_none ll_asked, in_into, runE_none ll_into, in_through, runE_none ll_through, in_ends, runE_none ll_ends, in_Left, runE_none ll_Left, in_New, runE_none ll_New, in_same, runE_none ll_same]
  obtain ⟨o, H', h, rfl, rfl⟩ := this
  exact h
end Go.Proofs.YtmogflndepihnaaDoor
