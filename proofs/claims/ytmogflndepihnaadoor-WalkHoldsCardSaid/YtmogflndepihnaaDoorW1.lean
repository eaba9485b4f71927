/- WHAT IS CALLED IN MEMORY; WHETHER THERE IS A WALKER. No condition but those stated. -/
import Derived.Test.YtmogflndepihnaaDoorWW
import Derived.Test.YtmogflndepihnaaDoorWM
import Derived.Test.YtmogflndepihnaaDoorKE
set_option linter.unusedSimpArgs false
set_option linter.unusedVariables false
set_option linter.unusedSectionVars false
namespace Go.Proofs.YtmogflndepihnaaDoor
open Go Go.Am Go.Nam Go.Wlk Go.Rec
set_option maxHeartbeats 4000000
set_option maxRecDepth 10000
theorem in_none {args : List AV} {H : Heap} : pcx (cbL tab) 67 args H = none := pcx_none rfl (pc_none (fi := c67) rfl rfl)
theorem ll_none : (cbL tab).lent 67 = false := rfl
theorem in_Asks {args : List AV} {H : Heap} : pcx (cbL tab) 35 args H = none := pcx_none rfl (pc_none (fi := c35) rfl rfl)
theorem ll_Asks : (cbL tab).lent 35 = false := rfl
theorem in_Give {args : List AV} {H : Heap} : pcx (cbL tab) 37 args H = none := pcx_none rfl (pc_none (fi := c37) rfl rfl)
theorem ll_Give : (cbL tab).lent 37 = false := rfl
theorem in_Miss {args : List AV} {H : Heap} : pcx (cbL tab) 38 args H = none := pcx_none rfl (pc_none (fi := c38) rfl rfl)
theorem ll_Miss : (cbL tab).lent 38 = false := rfl
theorem in_Done {args : List AV} {H : Heap} : pcx (cbL tab) 39 args H = none := pcx_none rfl (pc_none (fi := c39) rfl rfl)
theorem ll_Done : (cbL tab).lent 39 = false := rfl
theorem in_Copy {args : List AV} {H : Heap} : pcx (cbL tab) 46 args H = none := pcx_none rfl (pc_none (fi := c46) rfl rfl)
theorem ll_Copy : (cbL tab).lent 46 = false := rfl
theorem in_on {args : List AV} {H : Heap} : pcx (cbL tab) 66 args H = none := pcx_none rfl (pc_none (fi := c66) rfl rfl)
theorem ll_on : (cbL tab).lent 66 = false := rfl
theorem in_asked {args : List AV} {H : Heap} : pcx (cbL tab) 68 args H = none := pcx_none rfl (pc_none (fi := c68) rfl rfl)
theorem ll_asked : (cbL tab).lent 68 = false := rfl
theorem in_into {args : List AV} {H : Heap} : pcx (cbL tab) 70 args H = none := pcx_none rfl (pc_none (fi := c70) rfl rfl)
theorem ll_into : (cbL tab).lent 70 = false := rfl
theorem in_through {args : List AV} {H : Heap} : pcx (cbL tab) 71 args H = none := pcx_none rfl (pc_none (fi := c71) rfl rfl)
theorem ll_through : (cbL tab).lent 71 = false := rfl
theorem in_ends {args : List AV} {H : Heap} : pcx (cbL tab) 72 args H = none := pcx_none rfl (pc_none (fi := c72) rfl rfl)
theorem ll_ends : (cbL tab).lent 72 = false := rfl
theorem in_Left {args : List AV} {H : Heap} : pcx (cbL tab) 50 args H = none := pcx_none rfl (pc_none (fi := c50) rfl rfl)
theorem ll_Left : (cbL tab).lent 50 = false := rfl
theorem in_New {args : List AV} {H : Heap} : pcx (cbL tab) 33 args H = none := pcx_none rfl (pc_none (fi := c33) rfl rfl)
theorem ll_New : (cbL tab).lent 33 = false := rfl
theorem in_same {args : List AV} {H : Heap} : pcx (cbL tab) 47 args H = none := pcx_none rfl (pc_none (fi := c47) rfl rfl)
theorem ll_same : (cbL tab).lent 47 = false := rfl
/-- A walker in memory. -/
def Wat (H : Heap) (a : Nat) (w : Wk) : Prop := ∃ s tk, (w.parts ≠ [] → s = 1) ∧ (tk = .ro ∨ (tk = .z ∧ w.parts = [])) ∧ H[a]? = some (.cells (w.cells (.sl s w.parts.length (encs strA w.parts) tk)))
theorem pnn {xo yo : X} : binV .eql .ptr xo yo .nilp .nilp = some (.bool true) := rfl
theorem ppn {xo yo : X} {a o : Nat} : binV .eql .ptr xo yo (.ptr a o) .nilp = some (.bool false) := rfl
theorem none_nil (H : Heap) : (cbL tab).ic 67 [.nilp] H = some (.ret (.bool true), H) := by
  have : ∃ o H', (cbL tab).ic 67 [.nilp] H = some (o, H') ∧ o = .ret (.bool true) ∧ H' = H := by
    refine ic_wp (fi := c67) rfl rfl (by simp [c67]) (by decide) ?_
    unfold c67
    simp (disch := omega) only [wk, avalE, aactE, evPE, boundE, asNat, bv_seql cellsEq_ii, bv_sneqd cellsEq_ii, readC, allOne, fillL, resE, tupled, ↓reduceIte, Nat.reduceEqDiff, Int.reduceEq, Int.reduceLT, Int.reduceLE, Nat.reduceAdd, Nat.reduceMul, Nat.reduceLT, Nat.reduceLeDiff, reduceCtorEq, pnn]
  obtain ⟨o, H', h, rfl, rfl⟩ := this
  exact h
theorem none_ic {H : Heap} {a : Nat} {c0 c1 c2 c3 c4 c5 c6 c7 c8 c9 : AV} {b : Bool} (h : H[a]? = some (.cells [c0, c1, c2, c3, c4, c5, c6, c7, c8, c9, .bool b])) : (cbL tab).ic 67 [.ptr a 0] H = some (.ret (.bool !b), H) := by
  have : ∃ o H', (cbL tab).ic 67 [.ptr a 0] H = some (o, H') ∧ o = .ret (.bool !b) ∧ H' = H := by
    refine ic_wp (fi := c67) rfl rfl (by simp [c67]) (by decide) ?_
    unfold c67
    simp (disch := omega) only [wk, avalE, aactE, evPE, boundE, asNat, bv_seql cellsEq_ii, bv_sneqd cellsEq_ii, readC, allOne, fillL, resE, tupled, ↓reduceIte, Nat.reduceEqDiff, Int.reduceEq, Int.reduceLT, Int.reduceLE, Nat.reduceAdd, Nat.reduceMul, Nat.reduceLT, Nat.reduceLeDiff, reduceCtorEq, ppn, h]
  obtain ⟨o, H', h, rfl, rfl⟩ := this
  exact h
end Go.Proofs.YtmogflndepihnaaDoor
