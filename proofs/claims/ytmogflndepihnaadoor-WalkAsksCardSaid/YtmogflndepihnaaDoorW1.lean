/- WHAT IS CALLED IN MEMORY; WHETHER THERE IS A WALKER. No condition but those stated. -/
import Derived.Test.YtmogflndepihnaaDoorWW
import Derived.Test.YtmogflndepihnaaDoorWM
import Derived.Test.YtmogflndepihnaaDoorKE
set_option linter.unusedSimpArgs false
set_option linter.unusedVariables false
set_option linter.unusedSectionVars false
namespace Go.Proofs.YtmogflndepihnaaDoor
open Go Go.Am Go.Nam Go.Wlk Go.Rec
set_option maxHeartbeats 4000000
set_option maxRecDepth 10000
theorem in_none {args : List AV} {H : Heap} : pcx (cbL tab) 67 args H = none := pcx_none rfl (pc_none (fi := c67) rfl rfl)
theorem ll_none : (cbL tab).lent 67 = false := rfl
theorem in_Asks {args : List AV} {H : Heap} : pcx (cbL tab) 35 args H = none := pcx_none rfl (pc_none (fi := c35) rfl rfl)
theorem ll_Asks : (cbL tab).lent 35 = false := rfl
theorem in_Give {args : List AV} {H : Heap} : pcx (cbL tab) 37 args H = none := pcx_none rfl (pc_none (fi := c37) rfl rfl)
theorem ll_Give : (cbL tab).lent 37 = false := rfl
theorem in_Miss {args : List AV} {H : Heap} : pcx (cbL tab) 38 args H = none := pcx_none rfl (pc_none (fi := c38) rfl rfl)
theorem ll_Miss : (cbL tab).lent 38 = false := rfl
theorem in_Done {args : List AV} {H : Heap} : pcx (cbL tab) 39 args H = none := pcx_none rfl (pc_none (fi := c39) rfl rfl)
theorem ll_Done : (cbL tab).lent 39 = false := rfl
theorem in_Copy {args : List AV} {H : Heap} : pcx (cbL tab) 46 args H = none := pcx_none rfl (pc_none (fi := c46) rfl rfl)
theorem ll_Copy : (cbL tab).lent 46 = false := rfl
theorem in_on {args : List AV} {H : Heap} : pcx (cbL tab) 66 args H = none := pcx_none rfl (pc_none (fi := c66) rfl rfl)
theorem ll_on : (cbL tab).lent 66 = false := rfl
theorem in_asked {args : List AV} {H : Heap} : pcx (cbL tab) 68 args H = none := pcx_none rfl (pc_none (fi := c68) rfl rfl)
theorem ll_asked : (cbL tab).lent 68 = false := rfl
theorem in_into {args : List AV} {H : Heap} : pcx (cbL tab) 70 args H = none := pcx_none rfl (pc_none (fi := c70) rfl rfl)
theorem ll_into : (cbL tab).lent 70 = false := rfl
theorem in_through {args : List AV} {H : Heap} : pcx (cbL tab) 71 args H = none := pcx_none rfl (pc_none (fi := c71) rfl rfl)
theorem ll_through : (cbL tab).lent 71 = false := rfl
theorem in_ends {args : List AV} {H : Heap} : pcx (cbL tab) 72 args H = none := pcx_none rfl (pc_none (fi := c72) rfl rfl)
theorem ll_ends : (cbL tab).lent 72 = false := rfl
theorem in_New {args : List AV} {H : Heap} : pcx (cbL tab) 33 args H = none := pcx_none rfl (pc_none (fi := c33) rfl rfl)
theorem ll_New : (cbL tab).lent 33 = false := rfl
theorem in_same {args : List AV} {H : Heap} : pcx (cbL tab) 47 args H = none := pcx_none rfl (pc_none (fi := c47) rfl rfl)
theorem ll_same : (cbL tab).lent 47 = false := rfl
/-- A walker in memory. -/
def Wat (H : Heap) (a : Nat) (w : Wk) : Prop := ∃ s tk, (w.parts ≠ [] → s = 1) ∧ ((tk = .ro ∧ w.fin = none) ∨ (tk = .z ∧ w.parts = [])) ∧ H[a]? = some (.cells (w.cells (.sl s w.parts.length (encs strA w.parts) tk)))
theorem pnn {xo yo : X} : binV .eql .ptr xo yo .nilp .nilp = some (.bool true) := rfl
theorem ppn {xo yo : X} {a o : Nat} : binV .eql .ptr xo yo (.ptr a o) .nilp = some (.bool false) := rfl
theorem none_nil (H : Heap) : (cbL tab).ic 67 [.nilp] H = some (.ret (.bool true), H) := by
  have : ∃ o H', (cbL tab).ic 67 [.nilp] H = some (o, H') ∧ o = .ret (.bool true) ∧ H' = H := by
    refine ic_wp (fi := c67) rfl rfl (by simp [c67]) (by decide) ?_
    unfold c67
    simp (disch := omega) only [wk, avalE, aactE, evPE, boundE, asNat, bv_seql cellsEq_ii, bv_sneqd cellsEq_ii, readC, allOne, fillL, resE, tupled, ↓reduceIte, Nat.reduceEqDiff, Int.reduceEq, Int.reduceLT, Int.reduceLE, Nat.reduceAdd, Nat.reduceMul, Nat.reduceLT, Nat.reduceLeDiff, reduceCtorEq, pnn]
  obtain ⟨o, H', h, rfl, rfl⟩ := this
  exact h
theorem none_ic {H : Heap} {a : Nat} {c0 c1 c2 c3 c4 c5 c6 c7 c8 c9 : AV} {b : Bool} (h : H[a]? = some (.cells [c0, c1, c2, c3, c4, c5, c6, c7, c8, c9, .bool b])) : (cbL tab).ic 67 [.ptr a 0] H = some (.ret (.bool !b), H) := by
  have : ∃ o H', (cbL tab).ic 67 [.ptr a 0] H = some (o, H') ∧ o = .ret (.bool !b) ∧ H' = H := by
    refine ic_wp (fi := c67) rfl rfl (by simp [c67]) (by decide) ?_
    unfold c67
    simp (disch := omega) only [wk, avalE, aactE, evPE, boundE, asNat, bv_seql cellsEq_ii, bv_sneqd cellsEq_ii, readC, allOne, fillL, resE, tupled, ↓reduceIte, Nat.reduceEqDiff, Int.reduceEq, Int.reduceLT, Int.reduceLE, Nat.reduceAdd, Nat.reduceMul, Nat.reduceLT, Nat.reduceLeDiff, reduceCtorEq, ppn, h]
  obtain ⟨o, H', h, rfl, rfl⟩ := this
  exact h
/-- There is no walker. -/
def None' (p : AV) (H : Heap) : Prop := ∀ ext, (cbL tab).ic 67 [p] (H ++ ext) = some (.ret (.bool true), H ++ ext)
theorem None'.app {p : AV} {H : Heap} (h : None' p H) (L : List AObj) : None' p (H ++ L) := fun ext => by rw [List.append_assoc]; exact h _
theorem None'.at {p : AV} {H : Heap} (h : None' p H) : (cbL tab).ic 67 [p] H = some (.ret (.bool true), H) := by have := h []; rwa [List.append_nil] at this
theorem none_of_nil (H : Heap) : None' .nilp H := fun _ => none_nil _
theorem none_of_zero {H : Heap} {a : Nat} {c0 c1 c2 c3 c4 c5 c6 c7 c8 c9 : AV} (h : H[a]? = some (.cells [c0, c1, c2, c3, c4, c5, c6, c7, c8, c9, .bool false])) : None' (.ptr a 0) H := fun ext =>
  none_ic (b := false) (by rw [List.getElem?_append_left (List.getElem?_eq_some_iff.1 h).1]; exact h)
theorem asked_none {p : AV} {H : Heap} (h : None' p H) : (cbL tab).ic 68 [p] H = some (.ret (.int .i64 1), H) := by
  have : ∃ o H', (cbL tab).ic 68 [p] H = some (o, H') ∧ o = .ret (.int .i64 1) ∧ H' = H := by
    refine ic_wp (fi := c68) rfl rfl (by simp [c68]) (by decide) ?_
    unfold c68
    have h0 := h.at
    simp (disch := omega) only [wk, avalE, aactE, evPE, boundE, asNat, bv_seql cellsEq_ii, bv_sneqd cellsEq_ii, readC, allOne, fillL, resE, tupled, ↓reduceIte, Nat.reduceEqDiff, Int.reduceEq, Int.reduceLT, Int.reduceLE, Nat.reduceAdd, Nat.reduceMul, Nat.reduceLT, Nat.reduceLeDiff, reduceCtorEq, h0, in_none, runE_none ll_none, in_Asks, runE_none ll_Asks, in_Give, runE_none ll_Give, in_Miss, runE_none ll_Miss, in_Done, runE_none ll_Done, in_Copy, runE_none ll_Copy, in_on, runE_none ll_on, in_asked, runE_none ll_asked, in_into, runE_none ll_into, in_through, runE_none ll_through, in_ends, runE_none ll_ends, in_New, runE_none ll_New, in_same, runE_none ll_same]
  obtain ⟨o, H', h, rfl, rfl⟩ := this
  exact h
theorem asks_none {p : AV} {H : Heap} (h : None' p H) : (cbL tab).ic 35 [p] H = some (.ret (.tup [.int .i64 0, .str (bs []), .bool false]), H) := by
  have : ∃ o H', (cbL tab).ic 35 [p] H = some (o, H') ∧ o = .ret (.tup [.int .i64 0, .str (bs []), .bool false]) ∧ H' = H := by
    refine ic_wp (fi := c35) rfl rfl (by simp [c35]) (by decide) ?_
    unfold c35
    have h0 := h.at
    simp (disch := omega) only [wk, avalE, aactE, evPE, boundE, asNat, bv_seql cellsEq_ii, bv_sneqd cellsEq_ii, readC, allOne, fillL, resE, tupled, ↓reduceIte, Nat.reduceEqDiff, Int.reduceEq, Int.reduceLT, Int.reduceLE, Nat.reduceAdd, Nat.reduceMul, Nat.reduceLT, Nat.reduceLeDiff, reduceCtorEq, h0, in_none, runE_none ll_none, in_Asks, runE_none ll_Asks, in_Give, runE_none ll_Give, in_Miss, runE_none ll_Miss, in_Done, runE_none ll_Done, in_Copy, runE_none ll_Copy, in_on, runE_none ll_on, in_asked, runE_none ll_asked, in_into, runE_none ll_into, in_through, runE_none ll_through, in_ends, runE_none ll_ends, in_New, runE_none ll_New, in_same, runE_none ll_same]
    rfl
  obtain ⟨o, H', h, rfl, rfl⟩ := this
  exact h
theorem done_none {p : AV} {H : Heap} (h : None' p H) : (cbL tab).ic 39 [p] H = some (.ret (.tup [.agg zeroW.cells, .bool false]), H ++ [.cells zeroW.cells]) := by
  have : ∃ o H', (cbL tab).ic 39 [p] H = some (o, H') ∧ o = .ret (.tup [.agg zeroW.cells, .bool false]) ∧ H' = H ++ [.cells zeroW.cells] := by
    refine ic_wp (fi := c39) rfl rfl (by simp [c39]) (by decide) ?_
    unfold c39
    have h0 := fun ext => h ext
    have g0 : ∀ (L : List AObj), (H ++ L)[H.length]? = L[0]? := fun L => by rw [List.getElem?_append_right (by omega)]; congr 1; omega
    have s0 : ∀ (L : List AObj) (o : AObj), (H ++ L).set H.length o = H ++ L.set 0 o := fun L o => by rw [List.set_append_right _ _ (by omega)]; congr 2; omega
    simp (disch := omega) only [wk, avalE, aactE, evPE, boundE, asNat, bv_seql cellsEq_ii, bv_sneqd cellsEq_ii, readC, allOne, fillL, resE, tupled, ↓reduceIte, Nat.reduceEqDiff, Int.reduceEq, Int.reduceLT, Int.reduceLE, Nat.reduceAdd, Nat.reduceMul, Nat.reduceLT, Nat.reduceLeDiff, reduceCtorEq, h0, in_none, runE_none ll_none, in_Asks, runE_none ll_Asks, in_Give, runE_none ll_Give, in_Miss, runE_none ll_Miss, in_Done, runE_none ll_Done, in_Copy, runE_none ll_Copy, in_on, runE_none ll_on, in_asked, runE_none ll_asked, in_into, runE_none ll_into, in_through, runE_none ll_through, in_ends, runE_none ll_ends, in_New, runE_none ll_New, in_same, runE_none ll_same, g0, s0]
    exact ⟨rfl, rfl⟩
  obtain ⟨o, H', h, rfl, rfl⟩ := this
  exact h
theorem give_none {p : AV} {H : Heap} (h : None' p H) (f : List AV) (ho : allOne f = true) : (cbL tab).ic 37 [p, .agg f] H = some (.ret (.int .i64 1), H ++ [.cells f]) := by
  have : ∃ o H', (cbL tab).ic 37 [p, .agg f] H = some (o, H') ∧ o = .ret (.int .i64 1) ∧ H' = H ++ [.cells f] := by
    refine ic_wp (fi := c37) rfl rfl (by simp [c37]) (by decide) ?_
    unfold c37
    have h0 := fun L => asked_none (h.app L)
    simp (disch := omega) only [wk, avalE, aactE, evPE, boundE, asNat, bv_seql cellsEq_ii, bv_sneqd cellsEq_ii, readC, allOne, fillL, resE, tupled, ↓reduceIte, Nat.reduceEqDiff, Int.reduceEq, Int.reduceLT, Int.reduceLE, Nat.reduceAdd, Nat.reduceMul, Nat.reduceLT, Nat.reduceLeDiff, reduceCtorEq, h0, ho, in_none, runE_none ll_none, in_Asks, runE_none ll_Asks, in_Give, runE_none ll_Give, in_Miss, runE_none ll_Miss, in_Done, runE_none ll_Done, in_Copy, runE_none ll_Copy, in_on, runE_none ll_on, in_asked, runE_none ll_asked, in_into, runE_none ll_into, in_through, runE_none ll_through, in_ends, runE_none ll_ends, in_New, runE_none ll_New, in_same, runE_none ll_same]
  obtain ⟨o, H', h, rfl, rfl⟩ := this
  exact h
theorem miss_none {p : AV} {H : Heap} (h : None' p H) : (cbL tab).ic 38 [p] H = some (.ret (.int .i64 1), H) := by
  have : ∃ o H', (cbL tab).ic 38 [p] H = some (o, H') ∧ o = .ret (.int .i64 1) ∧ H' = H := by
    refine ic_wp (fi := c38) rfl rfl (by simp [c38]) (by decide) ?_
    unfold c38
    have h0 := asked_none h
    simp (disch := omega) only [wk, avalE, aactE, evPE, boundE, asNat, bv_seql cellsEq_ii, bv_sneqd cellsEq_ii, readC, allOne, fillL, resE, tupled, ↓reduceIte, Nat.reduceEqDiff, Int.reduceEq, Int.reduceLT, Int.reduceLE, Nat.reduceAdd, Nat.reduceMul, Nat.reduceLT, Nat.reduceLeDiff, reduceCtorEq, h0, in_none, runE_none ll_none, in_Asks, runE_none ll_Asks, in_Give, runE_none ll_Give, in_Miss, runE_none ll_Miss, in_Done, runE_none ll_Done, in_Copy, runE_none ll_Copy, in_on, runE_none ll_on, in_asked, runE_none ll_asked, in_into, runE_none ll_into, in_through, runE_none ll_through, in_ends, runE_none ll_ends, in_New, runE_none ll_New, in_same, runE_none ll_same]
  obtain ⟨o, H', h, rfl, rfl⟩ := this
  exact h
theorem copy_none {p : AV} {H : Heap} (h : None' p H) : (cbL tab).ic 46 [p] H = some (.ret .nilp, H) := by
  have : ∃ o H', (cbL tab).ic 46 [p] H = some (o, H') ∧ o = .ret .nilp ∧ H' = H := by
    refine ic_wp (fi := c46) rfl rfl (by simp [c46]) (by decide) ?_
    unfold c46
    have h0 := h.at
    simp (disch := omega) only [wk, avalE, aactE, evPE, boundE, asNat, bv_seql cellsEq_ii, bv_sneqd cellsEq_ii, readC, allOne, fillL, resE, tupled, ↓reduceIte, Nat.reduceEqDiff, Int.reduceEq, Int.reduceLT, Int.reduceLE, Nat.reduceAdd, Nat.reduceMul, Nat.reduceLT, Nat.reduceLeDiff, reduceCtorEq, h0, in_none, runE_none ll_none, in_Asks, runE_none ll_Asks, in_Give, runE_none ll_Give, in_Miss, runE_none ll_Miss, in_Done, runE_none ll_Done, in_Copy, runE_none ll_Copy, in_on, runE_none ll_on, in_asked, runE_none ll_asked, in_into, runE_none ll_into, in_through, runE_none ll_through, in_ends, runE_none ll_ends, in_New, runE_none ll_New, in_same, runE_none ll_same]
  obtain ⟨o, H', h, rfl, rfl⟩ := this
  exact h
end Go.Proofs.YtmogflndepihnaaDoor
