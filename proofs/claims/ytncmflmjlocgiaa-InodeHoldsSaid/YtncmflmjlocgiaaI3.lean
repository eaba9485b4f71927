/- THE WALKS OF Same, of inodes. No condition but those stated. -/
import Derived.Test.YtncmflmjlocgiaaI2
set_option linter.unusedSimpArgs false
set_option linter.unusedVariables false
set_option linter.unusedSectionVars false
namespace Go.Proofs.Ytncmflmjlocgiaa
open Go Go.Am Go.Rec Go.Ino
set_option maxHeartbeats 4000000
set_option maxRecDepth 10000
theorem few_px (n : Ino) (m : AV) (hm : MapR m n.map) (H : Heap) : pcx (cbL tab) 40 [inoA n m] H = some (.plain (.bool (decide (n.map.length ≤ 30 ∧ n.target.size ≤ 300)))) := by
  refine pcx_N rfl (pc_wp (fi := c40) rfl ?_ (by simp [c40]) (by decide) ?_)
  · simp only [pcOn, List.map_cons, List.map_nil, hfL, hf_lend_sl, hf_lend_int, hf_lend_bool, hf_lend_str, hfL_append, Bool.and_self, Bool.and_true, Bool.true_and, c40, lend_inoA hm, hf_inoA hm]
  unfold c40
  rw [List.map_cons, List.map_nil, lend_inoA hm]
  obtain ⟨s, rest, tk, rfl, _, _, _⟩ := hm
  by_cases h1 : n.map.length ≤ 30
  · have h1' : (n.map.length : Int) ≤ 30 := by omega
    by_cases h2 : n.target.size ≤ 300
    · have h2' : (n.target.size : Int) ≤ 300 := by omega
      simp (disch := omega) only [wk, avalE, aactE, evPE, boundE, asNat, bv_seql cellsEq_ii, bv_sneqd cellsEq_ii, readC, allOne, fillL, resE, tupled, ↓reduceIte, Nat.reduceEqDiff, Int.reduceEq, Int.reduceLT, Int.reduceLE, Nat.reduceAdd, Nat.reduceMul, Nat.reduceLT, Nat.reduceLeDiff, reduceCtorEq, inoA, h1', h2', h1, h2, purify, unownT, AV.hf]
    · have h2' : ¬ (n.target.size : Int) ≤ 300 := by omega
      simp (disch := omega) only [wk, avalE, aactE, evPE, boundE, asNat, bv_seql cellsEq_ii, bv_sneqd cellsEq_ii, readC, allOne, fillL, resE, tupled, ↓reduceIte, Nat.reduceEqDiff, Int.reduceEq, Int.reduceLT, Int.reduceLE, Nat.reduceAdd, Nat.reduceMul, Nat.reduceLT, Nat.reduceLeDiff, reduceCtorEq, inoA, h1', h2', h1, h2, purify, unownT, AV.hf]
  · have h1' : ¬ (n.map.length : Int) ≤ 30 := by omega
    simp (disch := omega) only [wk, avalE, aactE, evPE, boundE, asNat, bv_seql cellsEq_ii, bv_sneqd cellsEq_ii, readC, allOne, fillL, resE, tupled, ↓reduceIte, Nat.reduceEqDiff, Int.reduceEq, Int.reduceLT, Int.reduceLE, Nat.reduceAdd, Nat.reduceMul, Nat.reduceLT, Nat.reduceLeDiff, reduceCtorEq, inoA, h1', h1, purify, unownT, AV.hf, false_and]
theorem same_px' (a b : Ino) (m k : AV) (hm : MapR m a.map) (hk : MapR k b.map) (h1 : a.map.length ≤ 1000) (h2 : b.map.length ≤ 1000) (H : Heap) : pcx (cbL tab) 41 [inoA a m, inoA b k] H = some (.plain (.bool (sameB a b))) := by
  refine pcx_N rfl (pc_wp (fi := c41) rfl ?_ (by simp [c41]) (by decide) ?_)
  · simp only [pcOn, List.map_cons, List.map_nil, hfL, hf_lend_sl, hf_lend_int, hf_lend_bool, hf_lend_str, hfL_append, Bool.and_self, Bool.and_true, Bool.true_and, c41, lend_inoA hm, hf_inoA hm, lend_inoA hk, hf_inoA hk]
  unfold c41
  rw [List.map_cons, List.map_cons, List.map_nil, lend_inoA hm, lend_inoA hk]
  have q := fun H => equall_m hm hk h1 h2 H
  have m1 := hm.one.1
  have m2 := hm.one.2
  have k1 := hk.one.1
  have k2 := hk.one.2
  clear hm hk h1 h2
  by_cases c1 : a.kind = b.kind
  case neg =>
    have e : sameB a b = false := decide_eq_false (fun h => c1 h.1)
    simp (disch := omega) only [wk, avalE, aactE, evPE, boundE, asNat, bv_seql cellsEq_ii, bv_sneqd cellsEq_ii, readC, allOne, fillL, resE, tupled, ↓reduceIte, Nat.reduceEqDiff, Int.reduceEq, Int.reduceLT, Int.reduceLE, Nat.reduceAdd, Nat.reduceMul, Nat.reduceLT, Nat.reduceLeDiff, reduceCtorEq, inoA, m1, m2, k1, k2, c1, e, purify, unownT, AV.hf]
  by_cases c2 : a.links = b.links
  case neg =>
    have e : sameB a b = false := decide_eq_false (fun h => c2 h.2.1)
    simp (disch := omega) only [wk, avalE, aactE, evPE, boundE, asNat, bv_seql cellsEq_ii, bv_sneqd cellsEq_ii, readC, allOne, fillL, resE, tupled, ↓reduceIte, Nat.reduceEqDiff, Int.reduceEq, Int.reduceLT, Int.reduceLE, Nat.reduceAdd, Nat.reduceMul, Nat.reduceLT, Nat.reduceLeDiff, reduceCtorEq, inoA, m1, m2, k1, k2, c1, c2, e, purify, unownT, AV.hf]
  by_cases c3 : a.size = b.size
  case neg =>
    have e : sameB a b = false := decide_eq_false (fun h => c3 h.2.2.1)
    simp (disch := omega) only [wk, avalE, aactE, evPE, boundE, asNat, bv_seql cellsEq_ii, bv_sneqd cellsEq_ii, readC, allOne, fillL, resE, tupled, ↓reduceIte, Nat.reduceEqDiff, Int.reduceEq, Int.reduceLT, Int.reduceLE, Nat.reduceAdd, Nat.reduceMul, Nat.reduceLT, Nat.reduceLeDiff, reduceCtorEq, inoA, m1, m2, k1, k2, c1, c2, c3, e, purify, unownT, AV.hf]
  by_cases c4 : a.map = b.map
  case neg =>
    have e : sameB a b = false := decide_eq_false (fun h => c4 h.2.2.2.1)
    simp (disch := omega) only [wk, avalE, aactE, evPE, boundE, asNat, bv_seql cellsEq_ii, bv_sneqd cellsEq_ii, readC, allOne, fillL, resE, tupled, ↓reduceIte, Nat.reduceEqDiff, Int.reduceEq, Int.reduceLT, Int.reduceLE, Nat.reduceAdd, Nat.reduceMul, Nat.reduceLT, Nat.reduceLeDiff, reduceCtorEq, inoA, m1, m2, k1, k2, c1, c2, c3, q, c4, e, purify, unownT, AV.hf]
  by_cases c5 : a.root = b.root
  case neg =>
    have e : sameB a b = false := decide_eq_false (fun h => c5 h.2.2.2.2.1)
    simp (disch := omega) only [wk, avalE, aactE, evPE, boundE, asNat, bv_seql cellsEq_ii, bv_sneqd cellsEq_ii, readC, allOne, fillL, resE, tupled, ↓reduceIte, Nat.reduceEqDiff, Int.reduceEq, Int.reduceLT, Int.reduceLE, Nat.reduceAdd, Nat.reduceMul, Nat.reduceLT, Nat.reduceLeDiff, reduceCtorEq, inoA, m1, m2, k1, k2, c1, c2, c3, q, c4, c5, e, purify, unownT, AV.hf]
  by_cases c6 : a.parent = b.parent
  case neg =>
    have e : sameB a b = false := decide_eq_false (fun h => c6 h.2.2.2.2.2.1)
    simp (disch := omega) only [wk, avalE, aactE, evPE, boundE, asNat, bv_seql cellsEq_ii, bv_sneqd cellsEq_ii, readC, allOne, fillL, resE, tupled, ↓reduceIte, Nat.reduceEqDiff, Int.reduceEq, Int.reduceLT, Int.reduceLE, Nat.reduceAdd, Nat.reduceMul, Nat.reduceLT, Nat.reduceLeDiff, reduceCtorEq, inoA, m1, m2, k1, k2, c1, c2, c3, q, c4, c5, c6, e, purify, unownT, AV.hf]
  have e : sameB a b = (a.target.toList == b.target.toList) := by
    rw [ba_eq]
    simp [sameB, c1, c2, c3, c4, c5, c6]
  simp (disch := omega) only [wk, avalE, aactE, evPE, boundE, asNat, bv_seql cellsEq_ii, bv_sneqd cellsEq_ii, readC, allOne, fillL, resE, tupled, ↓reduceIte, Nat.reduceEqDiff, Int.reduceEq, Int.reduceLT, Int.reduceLE, Nat.reduceAdd, Nat.reduceMul, Nat.reduceLT, Nat.reduceLeDiff, reduceCtorEq, inoA, m1, m2, k1, k2, c1, c2, c3, q, c4, c5, c6, bv_streq, e, purify, unownT, AV.hf]
theorem rsame_px' (a b : Ino) (m k : AV) (hm : MapR m a.map) (hk : MapR k b.map) (h1 : a.map.length ≤ 1000) (h2 : b.map.length ≤ 1000) (H : Heap) : pcx (cbL tab) 35 [inoA a m, inoA b k] H = some (.plain (.bool (sameB a b))) := by
  refine pcx_N rfl (pc_wp (fi := c35) rfl ?_ (by simp [c35]) (by decide) ?_)
  · simp only [pcOn, List.map_cons, List.map_nil, hfL, hf_lend_sl, hf_lend_int, hf_lend_bool, hf_lend_str, hfL_append, Bool.and_self, Bool.and_true, Bool.true_and, c35, lend_inoA hm, hf_inoA hm, lend_inoA hk, hf_inoA hk]
  unfold c35
  rw [List.map_cons, List.map_cons, List.map_nil, lend_inoA hm, lend_inoA hk]
  have q := fun H => samel_m hm hk h1 h2 H
  have m1 := hm.one.1
  have m2 := hm.one.2
  have k1 := hk.one.1
  have k2 := hk.one.2
  clear hm hk h1 h2
  by_cases c1 : a.kind = b.kind
  case neg =>
    have e : sameB a b = false := decide_eq_false (fun h => c1 h.1)
    simp (disch := omega) only [wk, avalE, aactE, evPE, boundE, asNat, bv_seql cellsEq_ii, bv_sneqd cellsEq_ii, readC, allOne, fillL, resE, tupled, ↓reduceIte, Nat.reduceEqDiff, Int.reduceEq, Int.reduceLT, Int.reduceLE, Nat.reduceAdd, Nat.reduceMul, Nat.reduceLT, Nat.reduceLeDiff, reduceCtorEq, inoA, m1, m2, k1, k2, c1, e, purify, unownT, AV.hf]
  by_cases c2 : a.links = b.links
  case neg =>
    have e : sameB a b = false := decide_eq_false (fun h => c2 h.2.1)
    simp (disch := omega) only [wk, avalE, aactE, evPE, boundE, asNat, bv_seql cellsEq_ii, bv_sneqd cellsEq_ii, readC, allOne, fillL, resE, tupled, ↓reduceIte, Nat.reduceEqDiff, Int.reduceEq, Int.reduceLT, Int.reduceLE, Nat.reduceAdd, Nat.reduceMul, Nat.reduceLT, Nat.reduceLeDiff, reduceCtorEq, inoA, m1, m2, k1, k2, c1, c2, e, purify, unownT, AV.hf]
  by_cases c3 : a.size = b.size
  case neg =>
    have e : sameB a b = false := decide_eq_false (fun h => c3 h.2.2.1)
    simp (disch := omega) only [wk, avalE, aactE, evPE, boundE, asNat, bv_seql cellsEq_ii, bv_sneqd cellsEq_ii, readC, allOne, fillL, resE, tupled, ↓reduceIte, Nat.reduceEqDiff, Int.reduceEq, Int.reduceLT, Int.reduceLE, Nat.reduceAdd, Nat.reduceMul, Nat.reduceLT, Nat.reduceLeDiff, reduceCtorEq, inoA, m1, m2, k1, k2, c1, c2, c3, e, purify, unownT, AV.hf]
  by_cases c4 : a.map = b.map
  case neg =>
    have e : sameB a b = false := decide_eq_false (fun h => c4 h.2.2.2.1)
    simp (disch := omega) only [wk, avalE, aactE, evPE, boundE, asNat, bv_seql cellsEq_ii, bv_sneqd cellsEq_ii, readC, allOne, fillL, resE, tupled, ↓reduceIte, Nat.reduceEqDiff, Int.reduceEq, Int.reduceLT, Int.reduceLE, Nat.reduceAdd, Nat.reduceMul, Nat.reduceLT, Nat.reduceLeDiff, reduceCtorEq, inoA, m1, m2, k1, k2, c1, c2, c3, q, c4, e, purify, unownT, AV.hf]
  by_cases c5 : a.root = b.root
  case neg =>
    have e : sameB a b = false := decide_eq_false (fun h => c5 h.2.2.2.2.1)
    simp (disch := omega) only [wk, avalE, aactE, evPE, boundE, asNat, bv_seql cellsEq_ii, bv_sneqd cellsEq_ii, readC, allOne, fillL, resE, tupled, ↓reduceIte, Nat.reduceEqDiff, Int.reduceEq, Int.reduceLT, Int.reduceLE, Nat.reduceAdd, Nat.reduceMul, Nat.reduceLT, Nat.reduceLeDiff, reduceCtorEq, inoA, m1, m2, k1, k2, c1, c2, c3, q, c4, c5, e, purify, unownT, AV.hf]
  by_cases c6 : a.parent = b.parent
  case neg =>
    have e : sameB a b = false := decide_eq_false (fun h => c6 h.2.2.2.2.2.1)
    simp (disch := omega) only [wk, avalE, aactE, evPE, boundE, asNat, bv_seql cellsEq_ii, bv_sneqd cellsEq_ii, readC, allOne, fillL, resE, tupled, ↓reduceIte, Nat.reduceEqDiff, Int.reduceEq, Int.reduceLT, Int.reduceLE, Nat.reduceAdd, Nat.reduceMul, Nat.reduceLT, Nat.reduceLeDiff, reduceCtorEq, inoA, m1, m2, k1, k2, c1, c2, c3, q, c4, c5, c6, e, purify, unownT, AV.hf]
  have e : sameB a b = (a.target.toList == b.target.toList) := by
    rw [ba_eq]
    simp [sameB, c1, c2, c3, c4, c5, c6]
  simp (disch := omega) only [wk, avalE, aactE, evPE, boundE, asNat, bv_seql cellsEq_ii, bv_sneqd cellsEq_ii, readC, allOne, fillL, resE, tupled, ↓reduceIte, Nat.reduceEqDiff, Int.reduceEq, Int.reduceLT, Int.reduceLE, Nat.reduceAdd, Nat.reduceMul, Nat.reduceLT, Nat.reduceLeDiff, reduceCtorEq, inoA, m1, m2, k1, k2, c1, c2, c3, q, c4, c5, c6, bv_streq, e, purify, unownT, AV.hf]
end Go.Proofs.Ytncmflmjlocgiaa
