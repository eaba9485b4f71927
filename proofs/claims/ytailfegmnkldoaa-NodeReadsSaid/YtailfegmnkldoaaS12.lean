/- THE WALKS OF Same AND Check. No condition but those stated. -/
import Derived.Test.YtailfegmnkldoaaS6
set_option linter.unusedSimpArgs false
set_option linter.unusedVariables false
set_option linter.unusedSectionVars false
namespace Go.Proofs.Ytailfegmnkldoaa
open Go Go.Am Go.Slots
set_option maxHeartbeats 2000000
set_option maxRecDepth 10000
theorem samePairs_pc (l m : List (Int × Int)) (s1 s2 : Nat) (t1 t2 : Tk) (hz1 : l ≠ [] → s1 = 2) (hz2 : m ≠ [] → s2 = 2) (hl : (l.length : Int) < 9223372036854775807) : (cbL tab).pc 30 [.sl s1 l.length (encs pairA l) t1, .sl s2 m.length (encs pairA m) t2] = some (.plain (.bool (decide (l = m)))) := by
  obtain ⟨u1, e1, f1⟩ := lend_sl s1 l.length (encs pairA l) t1
  obtain ⟨u2, e2, f2⟩ := lend_sl s2 m.length (encs pairA m) t2
  refine pc_wp (fi := c30) rfl ?_ (by simp [c30]) (by decide) ?_
  · simp only [pcOn, List.map_cons, List.map_nil, hfL, hf_lend_sl, hf_lend_int, hf_lend_bool, hf_lend_str, hfL_append, Bool.and_self, Bool.and_true, Bool.true_and, c30, hf_pairA]
  unfold c30
  rw [List.map_cons, List.map_cons, List.map_nil, e1, e2]
  by_cases h : (l.length : Int) = m.length
  case neg =>
    have h' : ¬ l = m := fun e => h (by rw [e])
    simp (disch := omega) only [wk, avalE, aactE, evPE, boundE, asNat, bv_seql cellsEq_ii, bv_sneqd cellsEq_ii, readC, allOne, fillL, resE, tupled, ↓reduceIte, Nat.reduceEqDiff, Int.reduceEq, Int.reduceLT, Int.reduceLE, Nat.reduceAdd, Nat.reduceMul, Nat.reduceLT, Nat.reduceLeDiff, reduceCtorEq, h, purify, unownT, lend, unown, AV.hf, h']
  simp (disch := omega) only [wk, avalE, aactE, evPE, boundE, asNat, bv_seql cellsEq_ii, bv_sneqd cellsEq_ii, readC, allOne, fillL, resE, tupled, ↓reduceIte, Nat.reduceEqDiff, Int.reduceEq, Int.reduceLT, Int.reduceLE, Nat.reduceAdd, Nat.reduceMul, Nat.reduceLT, Nat.reduceLeDiff, reduceCtorEq]
  refine loop_ind (fun (x : List (Int × Int) × List (Int × Int) × List (Int × Int)) E df H => l = x.1 ++ x.2.1 ∧ m = x.1 ++ x.2.2 ∧ E 0 = .sl s1 l.length (encs pairA l) u1 ∧ E 1 = .sl s2 m.length (encs pairA m) u2 ∧ E 5 = .int .i64 (x.1.length : Nat) ∧ df = [] ∧ H = [])
    (fun x => x.2.1.length) ([], l, m) (by decide) (.inl rfl) ⟨rfl, rfl, rfl, rfl, rfl, rfl, rfl⟩ ?_
  intro ⟨pre, q1, q2⟩ E df H ih hP
  obtain ⟨a1, a2, E0, E1, E5, hdf, hH⟩ := hP
  dsimp only at a1 a2 E5
  subst hdf hH a1 a2
  simp only [List.length_append] at h hl
  cases q1 with
  | nil =>
    cases q2 with
    | nil => simp (disch := omega) only [wk, avalE, aactE, evPE, boundE, asNat, bv_seql cellsEq_ii, bv_sneqd cellsEq_ii, readC, allOne, fillL, resE, tupled, ↓reduceIte, Nat.reduceEqDiff, Int.reduceEq, Int.reduceLT, Int.reduceLE, Nat.reduceAdd, Nat.reduceMul, Nat.reduceLT, Nat.reduceLeDiff, reduceCtorEq, E0, E1, E5, purify, unownT, lend, unown, AV.hf]
    | cons _ _ => exfalso; simp only [List.length_nil, List.length_cons] at h; omega
  | cons x r1 =>
    cases q2 with
    | nil => exfalso; simp only [List.length_nil, List.length_cons] at h; omega
    | cons y r2 =>
      simp only [List.length_cons] at h hl
      obtain rfl := hz1 (by simp)
      obtain rfl := hz2 (by simp)
      obtain ⟨x1, x2⟩ := x
      obtain ⟨y1, y2⟩ := y
      simp (disch := omega) only [wk, avalE, aactE, evPE, boundE, asNat, bv_seql cellsEq_ii, bv_sneqd cellsEq_ii, readC, allOne, fillL, resE, tupled, ↓reduceIte, Nat.reduceEqDiff, Int.reduceEq, Int.reduceLT, Int.reduceLE, Nat.reduceAdd, Nat.reduceMul, Nat.reduceLT, Nat.reduceLeDiff, reduceCtorEq, E0, E1, E5, pairA]
      by_cases hxy : x1 = y1 ∧ x2 = y2
      · obtain ⟨rfl, rfl⟩ := hxy
        simp (disch := omega) only [wk, avalE, aactE, evPE, boundE, asNat, bv_seql cellsEq_ii, bv_sneqd cellsEq_ii, readC, allOne, fillL, resE, tupled, ↓reduceIte, Nat.reduceEqDiff, Int.reduceEq, Int.reduceLT, Int.reduceLE, Nat.reduceAdd, Nat.reduceMul, Nat.reduceLT, Nat.reduceLeDiff, reduceCtorEq, E0, E1, E5]
        refine ih (pre ++ [(x1, x2)], r1, r2) _ _ _ (by simp) ?_
        exact ⟨by simp, by simp, by simp only [en, ↓reduceIte, Nat.reduceEqDiff, E0], by simp only [en, ↓reduceIte, Nat.reduceEqDiff, E1], by simp only [en, ↓reduceIte, Nat.reduceEqDiff], rfl, rfl⟩
      · have h' : ¬ (pre ++ (x1, x2) :: r1 = pre ++ (y1, y2) :: r2) := by
          intro e
          simp only [List.append_cancel_left_eq, List.cons.injEq, Prod.mk.injEq] at e
          exact hxy e.1
        simp (disch := omega) only [wk, avalE, aactE, evPE, boundE, asNat, bv_seql cellsEq_ii, bv_sneqd cellsEq_ii, readC, allOne, fillL, resE, tupled, ↓reduceIte, Nat.reduceEqDiff, Int.reduceEq, Int.reduceLT, Int.reduceLE, Nat.reduceAdd, Nat.reduceMul, Nat.reduceLT, Nat.reduceLeDiff, reduceCtorEq, hxy, purify, unownT, lend, unown, AV.hf, h']
theorem nothing66 (H : Heap) : enterA (cbL tab) 150 [] H = some (.ret (.tup []), H) := by
  have : pcx (cbL tab) 150 [] H = some (.plain (.tup [])) := by
    refine pcx_N rfl (pc_wp (fi := c150) rfl rfl (by simp [c150]) (by decide) ?_)
    unfold c150
    simp (disch := omega) only [wk, avalE, aactE, evPE, boundE, asNat, bv_seql cellsEq_ii, bv_sneqd cellsEq_ii, readC, allOne, fillL, resE, tupled, ↓reduceIte, Nat.reduceEqDiff, Int.reduceEq, Int.reduceLT, Int.reduceLE, Nat.reduceAdd, Nat.reduceMul, Nat.reduceLT, Nat.reduceLeDiff, reduceCtorEq, purify, unownT, lend, unown, AV.hf, hfL]
  rw [enterA_pr this]
  rfl
theorem chk_pan {E : Env} {H : Heap} {e : Int} {y : AV} (E4 : E 4 = .ptr 0 0) (h1 : H[0]? = some (.cells [y])) :
    Am.Ends tab [.cell 4 1 false] (fun o H => purify (some (o, H)) = some (.plain (.int .i64 e))) (.panic [(.iface 25 (.int .i64 e), false)]) E [.call 142 [.ptr 0 0, .fn 150 []]] H := by
  rw [ends_left_pan (caught_pan 0 _ _ H _ e y _ (nothing66 H) h1)]
  have h5 : (H.set 0 (.cells [.int .i64 e]))[0]? = some (.cells [.int .i64 e]) := set_eq h1
  simp (disch := omega) only [wk, avalE, aactE, evPE, boundE, asNat, bv_seql cellsEq_ii, bv_sneqd cellsEq_ii, readC, allOne, fillL, resE, tupled, ↓reduceIte, Nat.reduceEqDiff, Int.reduceEq, Int.reduceLT, Int.reduceLE, Nat.reduceAdd, Nat.reduceMul, Nat.reduceLT, Nat.reduceLeDiff, reduceCtorEq, E4, h5, purify, unownT, lend, unown, AV.hf]
theorem slotscheck_no (left : Int) (n : Nat) (cs : List AV) (tk : Tk) (H : Heap) (hn : (n : Int) ≤ 9223372036854775807) (hc : hfL cs = true) (hr : ¬ right left n) :
    pcx (cbL tab) 91 [.int .u64 left, .sl 1 n cs tk] H = some (.plain (.int .i64 2)) := by
  obtain ⟨u1, e1, f1⟩ := lend_sl 1 n cs tk
  refine pcx_N rfl (pc_wp (fi := c91) rfl ?_ (by simp [c91]) (by decide) ?_)
  · simp only [pcOn, List.map_cons, List.map_nil, hfL, hf_lend_sl, hf_lend_int, hf_lend_bool, hf_lend_str, hfL_append, Bool.and_self, Bool.and_true, Bool.true_and, c91, hc]
  unfold c91
  rw [List.map_cons, List.map_cons, List.map_nil, e1, lend_int]
  have r1 := fun H => settled_no n cs u1 left H hn hc f1 hr
  simp only [rowV] at r1
  simp (disch := omega) only [wk, avalE, aactE, evPE, boundE, asNat, bv_seql cellsEq_ii, bv_sneqd cellsEq_ii, readC, allOne, fillL, resE, tupled, ↓reduceIte, Nat.reduceEqDiff, Int.reduceEq, Int.reduceLT, Int.reduceLE, Nat.reduceAdd, Nat.reduceMul, Nat.reduceLT, Nat.reduceLeDiff, reduceCtorEq, r1, List.append_nil]
  refine chk_pan (e := 2) (y := .int .i64 0) ?_ ?_ <;> first | rfl | simp only [en, ↓reduceIte, Nat.reduceEqDiff]
theorem slotscheck_yes (left : Int) (ps : List (Int × Int)) (rest : List AV) (tk : Tk) (H : Heap) (hc : hfL rest = true) (hr : right left (2 * ps.length)) :
    pcx (cbL tab) 91 [.int .u64 left, row ps rest tk] H = some (.plain (.int .i64 (if okL left ps then 0 else 190))) := by
  obtain ⟨u1, e1, f1⟩ := lend_sl 1 (2 * ps.length) (encs pairA ps ++ rest) tk
  refine pcx_N rfl (pc_wp (fi := c91) rfl ?_ (by simp [c91]) (by decide) ?_)
  · simp only [pcOn, List.map_cons, List.map_nil, hfL, hf_lend_sl, hf_lend_int, hf_lend_bool, hf_lend_str, hfL_append, Bool.and_self, Bool.and_true, Bool.true_and, c91, row, hc, hf_pairA]
  unfold c91
  rw [List.map_cons, List.map_cons, List.map_nil, row, e1, lend_int]
  have r1 := fun H => settled_yes ps rest u1 left H hc f1 hr
  simp only [rowV] at r1
  by_cases h1 : okL left ps
  case neg =>
    simp only [h1, if_false] at r1 ⊢
    simp (disch := omega) only [wk, avalE, aactE, evPE, boundE, asNat, bv_seql cellsEq_ii, bv_sneqd cellsEq_ii, readC, allOne, fillL, resE, tupled, ↓reduceIte, Nat.reduceEqDiff, Int.reduceEq, Int.reduceLT, Int.reduceLE, Nat.reduceAdd, Nat.reduceMul, Nat.reduceLT, Nat.reduceLeDiff, reduceCtorEq, r1, List.append_nil]
    refine chk_pan (e := 190) (y := .int .i64 0) ?_ ?_ <;> first | rfl | simp only [en, ↓reduceIte, Nat.reduceEqDiff]
  simp only [h1, if_true] at r1 ⊢
  simp (disch := omega) only [wk, avalE, aactE, evPE, boundE, asNat, bv_seql cellsEq_ii, bv_sneqd cellsEq_ii, readC, allOne, fillL, resE, tupled, ↓reduceIte, Nat.reduceEqDiff, Int.reduceEq, Int.reduceLT, Int.reduceLE, Nat.reduceAdd, Nat.reduceMul, Nat.reduceLT, Nat.reduceLeDiff, reduceCtorEq, r1, List.append_nil]
  refine runE_row (fun s tk' H1 hz ho htk hup hle => ?_)
  have g0 := hup 0 _ rfl
  have g1 : (H1.set 0 (.cells [.int .i64 0]))[0]? = some (.cells [.int .i64 0]) := set_eq g0
  simp (disch := omega) only [wk, avalE, aactE, evPE, boundE, asNat, bv_seql cellsEq_ii, bv_sneqd cellsEq_ii, readC, allOne, fillL, resE, tupled, ↓reduceIte, Nat.reduceEqDiff, Int.reduceEq, Int.reduceLT, Int.reduceLE, Nat.reduceAdd, Nat.reduceMul, Nat.reduceLT, Nat.reduceLeDiff, reduceCtorEq, g0, List.append_nil]
  rw [ends_left_ret (caught_ret _ _ _ _)]
  simp (disch := omega) only [wk, avalE, aactE, evPE, boundE, asNat, bv_seql cellsEq_ii, bv_sneqd cellsEq_ii, readC, allOne, fillL, resE, tupled, ↓reduceIte, Nat.reduceEqDiff, Int.reduceEq, Int.reduceLT, Int.reduceLE, Nat.reduceAdd, Nat.reduceMul, Nat.reduceLT, Nat.reduceLeDiff, reduceCtorEq, g1, purify, unownT, lend, unown, AV.hf]
end Go.Proofs.Ytailfegmnkldoaa
