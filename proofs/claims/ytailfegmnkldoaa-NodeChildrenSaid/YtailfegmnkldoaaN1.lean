/- THE WALKS OF A HEAD'S WORDS: whether they may be, what is put, in memory. No condition but those stated. -/
import Derived.Test.YtailfegmnkldoaaNW
set_option linter.unusedSimpArgs false
set_option linter.unusedVariables false
set_option linter.unusedSectionVars false
namespace Go.Proofs.Ytailfegmnkldoaa
open Go Go.Am Go.Slots Go.Nod
set_option maxHeartbeats 4000000
set_option maxRecDepth 10000
theorem runG_un {cb : CB} {rd : Option Nat} {n : Nat} {Q : KP} {ks : List Kt} {E : Env} {df : List ADf} {H : Heap} {b : Bool} {d : Option Nat} {op : AOp} {rest : List AOper} : RunG (.tup []) b d op rest cb rd n Q ks E df H = RR cb rd n Q rest ks (updD E d (.tup [])) df H := (rfl)
theorem block_px (p : Int) (H : Heap) : pcx (cbL tab) 106 [.int .u64 p] H = some (.plain (.bool (decide (blockI p)))) := by
  refine pcx_N rfl (pc_wp (fi := c106) rfl rfl (by simp [c106]) (by decide) ?_)
  unfold c106
  by_cases h1 : 1 ≤ p
  · by_cases h2 : p < 2048
    · have h : blockI p := ⟨h1, by omega⟩
      simp (disch := omega) only [wk, avalE, aactE, evPE, boundE, asNat, bv_seql cellsEq_ii, bv_sneqd cellsEq_ii, readC, allOne, fillL, resE, tupled, ↓reduceIte, Nat.reduceEqDiff, Int.reduceEq, Int.reduceLT, Int.reduceLE, Nat.reduceAdd, Nat.reduceMul, Nat.reduceLT, Nat.reduceLeDiff, reduceCtorEq, lend, unown, h1, h2, h, purify, unownT, lend, unown, AV.hf]
    · have h : ¬ blockI p := fun h => h2 (by have := h.2; omega)
      simp (disch := omega) only [wk, avalE, aactE, evPE, boundE, asNat, bv_seql cellsEq_ii, bv_sneqd cellsEq_ii, readC, allOne, fillL, resE, tupled, ↓reduceIte, Nat.reduceEqDiff, Int.reduceEq, Int.reduceLT, Int.reduceLE, Nat.reduceAdd, Nat.reduceMul, Nat.reduceLT, Nat.reduceLeDiff, reduceCtorEq, lend, unown, h1, h2, h, purify, unownT, lend, unown, AV.hf]
  · have h : ¬ blockI p := fun h => h1 h.1
    simp (disch := omega) only [wk, avalE, aactE, evPE, boundE, asNat, bv_seql cellsEq_ii, bv_sneqd cellsEq_ii, readC, allOne, fillL, resE, tupled, ↓reduceIte, Nat.reduceEqDiff, Int.reduceEq, Int.reduceLT, Int.reduceLE, Nat.reduceAdd, Nat.reduceMul, Nat.reduceLT, Nat.reduceLeDiff, reduceCtorEq, lend, unown, h1, h, purify, unownT, lend, unown, AV.hf]
theorem in_96 {args : List AV} {H : Heap} {a o : Nat} : pcx (cbL tab) 96 (.ptr a o :: args) H = none := pcx_none rfl (pc_none (fi := c96) rfl rfl)
theorem in_97 {args : List AV} {H : Heap} {a o : Nat} : pcx (cbL tab) 97 (.ptr a o :: args) H = none := pcx_none rfl (pc_none (fi := c97) rfl rfl)
theorem in_99 {args : List AV} {H : Heap} {a o : Nat} : pcx (cbL tab) 99 (.ptr a o :: args) H = none := pcx_none rfl (pc_none (fi := c99) rfl rfl)
theorem in_100 {args : List AV} {H : Heap} {a o : Nat} : pcx (cbL tab) 100 (.ptr a o :: args) H = none := pcx_none rfl (pc_none (fi := c100) rfl rfl)
theorem in_102 {args : List AV} {H : Heap} {a o : Nat} : pcx (cbL tab) 102 (.ptr a o :: args) H = none := pcx_none rfl (pc_none (fi := c102) rfl rfl)
theorem in_103 {args : List AV} {H : Heap} {a o : Nat} : pcx (cbL tab) 103 (.ptr a o :: args) H = none := pcx_none rfl (pc_none (fi := c103) rfl rfl)
theorem in_105 {args : List AV} {H : Heap} {a o : Nat} : pcx (cbL tab) 105 (.ptr a o :: args) H = none := pcx_none rfl (pc_none (fi := c105) rfl rfl)
theorem in_107 {args : List AV} {H : Heap} {a o : Nat} : pcx (cbL tab) 107 (.ptr a o :: args) H = none := pcx_none rfl (pc_none (fi := c107) rfl rfl)
theorem in_109 {args : List AV} {H : Heap} {a o : Nat} : pcx (cbL tab) 109 (.ptr a o :: args) H = none := pcx_none rfl (pc_none (fi := c109) rfl rfl)
theorem in_110 {args : List AV} {H : Heap} {a o : Nat} : pcx (cbL tab) 110 (.ptr a o :: args) H = none := pcx_none rfl (pc_none (fi := c110) rfl rfl)
theorem ll_96 : (cbL tab).lent 96 = false := rfl
theorem ll_97 : (cbL tab).lent 97 = false := rfl
theorem ll_99 : (cbL tab).lent 99 = false := rfl
theorem ll_100 : (cbL tab).lent 100 = false := rfl
theorem ll_102 : (cbL tab).lent 102 = false := rfl
theorem ll_103 : (cbL tab).lent 103 = false := rfl
theorem ll_105 : (cbL tab).lent 105 = false := rfl
theorem ll_107 : (cbL tab).lent 107 = false := rfl
theorem ll_109 : (cbL tab).lent 109 = false := rfl
theorem ll_110 : (cbL tab).lent 110 = false := rfl
theorem ic_val {f : FuncId} {args : List AV} {H H1 : Heap} {v : AV} (h : ∃ o H', (cbL tab).ic f args H = some (o, H') ∧ o = .ret v ∧ H' = H1) : (cbL tab).ic f args H = some (.ret v, H1) := by
  obtain ⟨o, H', h1, rfl, rfl⟩ := h
  exact h1
theorem mark_ic (p : AV) (w : Int) (H : Heap) (hp : pcOn c96 [p, .int .u64 w] = false) : (cbL tab).ic 96 [p, .int .u64 w] H = some (.ret (.bool (decide (nmark ≤ w ∧ w ≤ nmark + 12))), H) := by
  refine ic_val (ic_wp (fi := c96) rfl hp (by simp [c96]) (by decide) ?_)
  unfold c96
  have e : nmark = 7522529147838689024 := rfl
  rw [e]
  by_cases h1 : (7522529147838689024 : Int) ≤ w
  · by_cases h2 : w ≤ 7522529147838689036
    · simp (disch := omega) only [wk, avalE, aactE, evPE, boundE, asNat, bv_seql cellsEq_ii, bv_sneqd cellsEq_ii, readC, allOne, fillL, resE, tupled, ↓reduceIte, Nat.reduceEqDiff, Int.reduceEq, Int.reduceLT, Int.reduceLE, Nat.reduceAdd, Nat.reduceMul, Nat.reduceLT, Nat.reduceLeDiff, reduceCtorEq, h1, h2, Int.reduceAdd]
    · simp (disch := omega) only [wk, avalE, aactE, evPE, boundE, asNat, bv_seql cellsEq_ii, bv_sneqd cellsEq_ii, readC, allOne, fillL, resE, tupled, ↓reduceIte, Nat.reduceEqDiff, Int.reduceEq, Int.reduceLT, Int.reduceLE, Nat.reduceAdd, Nat.reduceMul, Nat.reduceLT, Nat.reduceLeDiff, reduceCtorEq, h1, h2, and_false, Int.reduceAdd]
  · simp (disch := omega) only [wk, avalE, aactE, evPE, boundE, asNat, bv_seql cellsEq_ii, bv_sneqd cellsEq_ii, readC, allOne, fillL, resE, tupled, ↓reduceIte, Nat.reduceEqDiff, Int.reduceEq, Int.reduceLT, Int.reduceLE, Nat.reduceAdd, Nat.reduceMul, Nat.reduceLT, Nat.reduceLeDiff, reduceCtorEq, h1, false_and]
theorem sib_ic (p : AV) (w : Int) (H : Heap) (hp : pcOn c99 [p, .int .u64 w] = false) : (cbL tab).ic 99 [p, .int .u64 w] H = some (.ret (.bool (decide (w ≤ 2047))), H) := by
  refine ic_val (ic_wp (fi := c99) rfl hp (by simp [c99]) (by decide) ?_)
  unfold c99
  by_cases h1 : w ≤ 2047
  · have h2 : w < 2048 := by omega
    simp (disch := omega) only [wk, avalE, aactE, evPE, boundE, asNat, bv_seql cellsEq_ii, bv_sneqd cellsEq_ii, readC, allOne, fillL, resE, tupled, ↓reduceIte, Nat.reduceEqDiff, Int.reduceEq, Int.reduceLT, Int.reduceLE, Nat.reduceAdd, Nat.reduceMul, Nat.reduceLT, Nat.reduceLeDiff, reduceCtorEq, h1, h2]
  · have h2 : ¬ w < 2048 := by omega
    simp (disch := omega) only [wk, avalE, aactE, evPE, boundE, asNat, bv_seql cellsEq_ii, bv_sneqd cellsEq_ii, readC, allOne, fillL, resE, tupled, ↓reduceIte, Nat.reduceEqDiff, Int.reduceEq, Int.reduceLT, Int.reduceLE, Nat.reduceAdd, Nat.reduceMul, Nat.reduceLT, Nat.reduceLeDiff, reduceCtorEq, h1, h2]
theorem low_ic (p : AV) (w : Int) (H : Heap) (hp : pcOn c102 [p, .int .u64 w] = false) : (cbL tab).ic 102 [p, .int .u64 w] H = some (.ret (.bool true), H) := by
  refine ic_val (ic_wp (fi := c102) rfl hp (by simp [c102]) (by decide) ?_)
  unfold c102
  simp (disch := omega) only [wk, avalE, aactE, evPE, boundE, asNat, bv_seql cellsEq_ii, bv_sneqd cellsEq_ii, readC, allOne, fillL, resE, tupled, ↓reduceIte, Nat.reduceEqDiff, Int.reduceEq, Int.reduceLT, Int.reduceLE, Nat.reduceAdd, Nat.reduceMul, Nat.reduceLT, Nat.reduceLeDiff, reduceCtorEq]
theorem way_ic (p : AV) (w : Int) (H : Heap) (hp : pcOn c109 [p, .int .u64 w] = false) : (cbL tab).ic 109 [p, .int .u64 w] H = some (.ret (.bool (decide (w ≤ 2))), H) := by
  refine ic_val (ic_wp (fi := c109) rfl hp (by simp [c109]) (by decide) ?_)
  unfold c109
  by_cases h1 : w ≤ 2
  · simp (disch := omega) only [wk, avalE, aactE, evPE, boundE, asNat, bv_seql cellsEq_ii, bv_sneqd cellsEq_ii, readC, allOne, fillL, resE, tupled, ↓reduceIte, Nat.reduceEqDiff, Int.reduceEq, Int.reduceLT, Int.reduceLE, Nat.reduceAdd, Nat.reduceMul, Nat.reduceLT, Nat.reduceLeDiff, reduceCtorEq, h1]
  · simp (disch := omega) only [wk, avalE, aactE, evPE, boundE, asNat, bv_seql cellsEq_ii, bv_sneqd cellsEq_ii, readC, allOne, fillL, resE, tupled, ↓reduceIte, Nat.reduceEqDiff, Int.reduceEq, Int.reduceLT, Int.reduceLE, Nat.reduceAdd, Nat.reduceMul, Nat.reduceLT, Nat.reduceLeDiff, reduceCtorEq, h1]
theorem left_ic (a : Nat) (v : Int) (r : List AV) (w : Int) (H : Heap) (hv : 0 ≤ v) (h : H[a]? = some (.cells (.int .i64 v :: r))) : (cbL tab).ic 105 [.ptr a 0, .int .u64 w] H = some (.ret (.bool (decide (if v = 0 then w = leafL else blockI w))), H) := by
  refine ic_val (ic_wp (fi := c105) rfl rfl (by simp [c105]) (by decide) ?_)
  unfold c105
  have e : leafL = 9223372036854775808 := rfl
  rw [e]
  have b := block_px
  by_cases h1 : v = 0
  · subst h1
    by_cases h2 : w = 9223372036854775808
    · simp (disch := omega) only [wk, avalE, aactE, evPE, boundE, asNat, bv_seql cellsEq_ii, bv_sneqd cellsEq_ii, readC, allOne, fillL, resE, tupled, ↓reduceIte, Nat.reduceEqDiff, Int.reduceEq, Int.reduceLT, Int.reduceLE, Nat.reduceAdd, Nat.reduceMul, Nat.reduceLT, Nat.reduceLeDiff, reduceCtorEq, runG_un, h, h2]
    · simp (disch := omega) only [wk, avalE, aactE, evPE, boundE, asNat, bv_seql cellsEq_ii, bv_sneqd cellsEq_ii, readC, allOne, fillL, resE, tupled, ↓reduceIte, Nat.reduceEqDiff, Int.reduceEq, Int.reduceLT, Int.reduceLE, Nat.reduceAdd, Nat.reduceMul, Nat.reduceLT, Nat.reduceLeDiff, reduceCtorEq, runG_un, h, h2]
  · have h3 : v > 0 := by omega
    simp (disch := omega) only [wk, avalE, aactE, evPE, boundE, asNat, bv_seql cellsEq_ii, bv_sneqd cellsEq_ii, readC, allOne, fillL, resE, tupled, ↓reduceIte, Nat.reduceEqDiff, Int.reduceEq, Int.reduceLT, Int.reduceLE, Nat.reduceAdd, Nat.reduceMul, Nat.reduceLT, Nat.reduceLeDiff, reduceCtorEq, runG_un, h, h1, h3, b]
theorem putm_ic (a : Nat) (c0 c1 c2 c3 c4 c5 : AV) (w : Int) (H : Heap) (hw : nmark ≤ w) (hw2 : w ≤ nmark + 12) (h : H[a]? = some (.cells [c0, c1, c2, c3, c4, c5])) : (cbL tab).ic 97 [.ptr a 0, .int .u64 w] H = some (.ret (.tup []), H.set a (.cells [.int .i64 (w - nmark), c1, c2, c3, c4, c5])) := by
  refine ic_val (ic_wp (fi := c97) rfl rfl (by simp [c97]) (by decide) ?_)
  unfold c97
  have e : nmark = 7522529147838689024 := rfl
  rw [e] at hw hw2 ⊢
  simp (disch := omega) only [wk, avalE, aactE, evPE, boundE, asNat, bv_seql cellsEq_ii, bv_sneqd cellsEq_ii, readC, allOne, fillL, resE, tupled, ↓reduceIte, Nat.reduceEqDiff, Int.reduceEq, Int.reduceLT, Int.reduceLE, Nat.reduceAdd, Nat.reduceMul, Nat.reduceLT, Nat.reduceLeDiff, reduceCtorEq, h]
theorem puts_ic (a : Nat) (c0 c1 c2 c3 c4 c5 : AV) (w : Int) (H : Heap) (hw : 0 ≤ w) (hw2 : w ≤ 2047) (h : H[a]? = some (.cells [c0, c1, c2, c3, c4, c5])) : (cbL tab).ic 100 [.ptr a 0, .int .u64 w] H = some (.ret (.tup []), H.set a (.cells [c0, .int .i64 w, c2, c3, c4, c5])) := by
  refine ic_val (ic_wp (fi := c100) rfl rfl (by simp [c100]) (by decide) ?_)
  unfold c100
  simp (disch := omega) only [wk, avalE, aactE, evPE, boundE, asNat, bv_seql cellsEq_ii, bv_sneqd cellsEq_ii, readC, allOne, fillL, resE, tupled, ↓reduceIte, Nat.reduceEqDiff, Int.reduceEq, Int.reduceLT, Int.reduceLE, Nat.reduceAdd, Nat.reduceMul, Nat.reduceLT, Nat.reduceLeDiff, reduceCtorEq, h]
theorem putl_ic (a : Nat) (c0 c1 c2 c3 c4 c5 : AV) (w : Int) (H : Heap) (h : H[a]? = some (.cells [c0, c1, c2, c3, c4, c5])) : (cbL tab).ic 103 [.ptr a 0, .int .u64 w] H = some (.ret (.tup []), H.set a (.cells [c0, c1, .int .u64 w, c3, c4, c5])) := by
  refine ic_val (ic_wp (fi := c103) rfl rfl (by simp [c103]) (by decide) ?_)
  unfold c103
  simp (disch := omega) only [wk, avalE, aactE, evPE, boundE, asNat, bv_seql cellsEq_ii, bv_sneqd cellsEq_ii, readC, allOne, fillL, resE, tupled, ↓reduceIte, Nat.reduceEqDiff, Int.reduceEq, Int.reduceLT, Int.reduceLE, Nat.reduceAdd, Nat.reduceMul, Nat.reduceLT, Nat.reduceLeDiff, reduceCtorEq, h]
theorem putf_ic (a : Nat) (c0 c1 c2 c3 c4 c5 : AV) (w : Int) (H : Heap) (h : H[a]? = some (.cells [c0, c1, c2, c3, c4, c5])) : (cbL tab).ic 107 [.ptr a 0, .int .u64 w] H = some (.ret (.tup []), H.set a (.cells [c0, c1, c2, .int .u64 w, c4, c5])) := by
  refine ic_val (ic_wp (fi := c107) rfl rfl (by simp [c107]) (by decide) ?_)
  unfold c107
  simp (disch := omega) only [wk, avalE, aactE, evPE, boundE, asNat, bv_seql cellsEq_ii, bv_sneqd cellsEq_ii, readC, allOne, fillL, resE, tupled, ↓reduceIte, Nat.reduceEqDiff, Int.reduceEq, Int.reduceLT, Int.reduceLE, Nat.reduceAdd, Nat.reduceMul, Nat.reduceLT, Nat.reduceLeDiff, reduceCtorEq, h]
theorem puty_ic (a : Nat) (c0 c1 c2 c3 c4 c5 : AV) (w : Int) (H : Heap) (hw : 0 ≤ w) (hw2 : w ≤ 2) (h : H[a]? = some (.cells [c0, c1, c2, c3, c4, c5])) : (cbL tab).ic 110 [.ptr a 0, .int .u64 w] H = some (.ret (.tup []), H.set a (.cells [c0, c1, c2, c3, .int .i64 w, c5])) := by
  refine ic_val (ic_wp (fi := c110) rfl rfl (by simp [c110]) (by decide) ?_)
  unfold c110
  simp (disch := omega) only [wk, avalE, aactE, evPE, boundE, asNat, bv_seql cellsEq_ii, bv_sneqd cellsEq_ii, readC, allOne, fillL, resE, tupled, ↓reduceIte, Nat.reduceEqDiff, Int.reduceEq, Int.reduceLT, Int.reduceLE, Nat.reduceAdd, Nat.reduceMul, Nat.reduceLT, Nat.reduceLeDiff, reduceCtorEq, h]
end Go.Proofs.Ytailfegmnkldoaa
