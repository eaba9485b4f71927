/- THE WALK OF SamePuts. No condition but those stated. -/
import Derived.Test.YtailfegmnkldoaaSM
import Derived.Test.YtailfegmnkldoaaSFuns
set_option linter.unusedSimpArgs false
set_option linter.unusedVariables false
set_option linter.unusedSectionVars false
namespace Go.Proofs.Ytailfegmnkldoaa
open Go Go.Am Go.Slots
set_option maxHeartbeats 2000000
set_option maxRecDepth 10000
theorem samePuts_pc (l m : List (Int × Int)) (s1 s2 : Nat) (t1 t2 : Tk) (hz1 : l ≠ [] → s1 = 2) (hz2 : m ≠ [] → s2 = 2) (hl : (l.length : Int) < 9223372036854775807) : (cbL tab).pc 25 [.sl s1 l.length (encs putA l) t1, .sl s2 m.length (encs putA m) t2] = some (.plain (.bool (decide (l = m)))) := by
  obtain ⟨u1, e1, f1⟩ := lend_sl s1 l.length (encs putA l) t1
  obtain ⟨u2, e2, f2⟩ := lend_sl s2 m.length (encs putA m) t2
  refine pc_wp (fi := c25) rfl ?_ (by simp [c25]) (by decide) ?_
  · simp only [pcOn, List.map_cons, List.map_nil, hfL, hf_lend_sl, hf_lend_int, hf_lend_bool, hf_lend_str, hfL_append, Bool.and_self, Bool.and_true, Bool.true_and, c25, hf_putA]
  unfold c25
  rw [List.map_cons, List.map_cons, List.map_nil, e1, e2]
  by_cases h : (l.length : Int) = m.length
  case neg =>
    have h' : ¬ l = m := fun e => h (by rw [e])
    simp (disch := omega) only [wk, avalE, aactE, evPE, boundE, asNat, bv_seql cellsEq_ii, bv_sneqd cellsEq_ii, readC, allOne, fillL, resE, tupled, ↓reduceIte, Nat.reduceEqDiff, Int.reduceEq, Int.reduceLT, Int.reduceLE, Nat.reduceAdd, Nat.reduceMul, Nat.reduceLT, Nat.reduceLeDiff, reduceCtorEq, h, purify, unownT, lend, unown, AV.hf, h']
  simp (disch := omega) only [wk, avalE, aactE, evPE, boundE, asNat, bv_seql cellsEq_ii, bv_sneqd cellsEq_ii, readC, allOne, fillL, resE, tupled, ↓reduceIte, Nat.reduceEqDiff, Int.reduceEq, Int.reduceLT, Int.reduceLE, Nat.reduceAdd, Nat.reduceMul, Nat.reduceLT, Nat.reduceLeDiff, reduceCtorEq]
  refine loop_ind (fun (x : List (Int × Int) × List (Int × Int) × List (Int × Int)) E df H => l = x.1 ++ x.2.1 ∧ m = x.1 ++ x.2.2 ∧ E 0 = .sl s1 l.length (encs putA l) u1 ∧ E 1 = .sl s2 m.length (encs putA m) u2 ∧ E 5 = .int .i64 (x.1.length : Nat) ∧ df = [] ∧ H = [])
    (fun x => x.2.1.length) ([], l, m) (by decide) (.inl rfl) ⟨rfl, rfl, rfl, rfl, rfl, rfl, rfl⟩ ?_
  intro ⟨pre, q1, q2⟩ E df H ih hP
  obtain ⟨a1, a2, E0, E1, E5, hdf, hH⟩ := hP
  dsimp only at a1 a2 E5
  subst hdf hH a1 a2
  simp only [List.length_append] at h hl
  cases q1 with
  | nil =>
    cases q2 with
    | nil => simp (disch := omega) only [wk, avalE, aactE, evPE, boundE, asNat, bv_seql cellsEq_ii, bv_sneqd cellsEq_ii, readC, allOne, fillL, resE, tupled, ↓reduceIte, Nat.reduceEqDiff, Int.reduceEq, Int.reduceLT, Int.reduceLE, Nat.reduceAdd, Nat.reduceMul, Nat.reduceLT, Nat.reduceLeDiff, reduceCtorEq, E0, E1, E5, purify, unownT, lend, unown, AV.hf]
    | cons _ _ => exfalso; simp only [List.length_nil, List.length_cons] at h; omega
  | cons x r1 =>
    cases q2 with
    | nil => exfalso; simp only [List.length_nil, List.length_cons] at h; omega
    | cons y r2 =>
      simp only [List.length_cons] at h hl
      obtain rfl := hz1 (by simp)
      obtain rfl := hz2 (by simp)
      obtain ⟨x1, x2⟩ := x
      obtain ⟨y1, y2⟩ := y
      simp (disch := omega) only [wk, avalE, aactE, evPE, boundE, asNat, bv_seql cellsEq_ii, bv_sneqd cellsEq_ii, readC, allOne, fillL, resE, tupled, ↓reduceIte, Nat.reduceEqDiff, Int.reduceEq, Int.reduceLT, Int.reduceLE, Nat.reduceAdd, Nat.reduceMul, Nat.reduceLT, Nat.reduceLeDiff, reduceCtorEq, E0, E1, E5, putA]
      by_cases hxy : x1 = y1 ∧ x2 = y2
      · obtain ⟨rfl, rfl⟩ := hxy
        simp (disch := omega) only [wk, avalE, aactE, evPE, boundE, asNat, bv_seql cellsEq_ii, bv_sneqd cellsEq_ii, readC, allOne, fillL, resE, tupled, ↓reduceIte, Nat.reduceEqDiff, Int.reduceEq, Int.reduceLT, Int.reduceLE, Nat.reduceAdd, Nat.reduceMul, Nat.reduceLT, Nat.reduceLeDiff, reduceCtorEq, E0, E1, E5]
        refine ih (pre ++ [(x1, x2)], r1, r2) _ _ _ (by simp) ?_
        exact ⟨by simp, by simp, by simp only [en, ↓reduceIte, Nat.reduceEqDiff, E0], by simp only [en, ↓reduceIte, Nat.reduceEqDiff, E1], by simp only [en, ↓reduceIte, Nat.reduceEqDiff], rfl, rfl⟩
      · have h' : ¬ (pre ++ (x1, x2) :: r1 = pre ++ (y1, y2) :: r2) := by
          intro e
          simp only [List.append_cancel_left_eq, List.cons.injEq, Prod.mk.injEq] at e
          exact hxy e.1
        simp (disch := omega) only [wk, avalE, aactE, evPE, boundE, asNat, bv_seql cellsEq_ii, bv_sneqd cellsEq_ii, readC, allOne, fillL, resE, tupled, ↓reduceIte, Nat.reduceEqDiff, Int.reduceEq, Int.reduceLT, Int.reduceLE, Nat.reduceAdd, Nat.reduceMul, Nat.reduceLT, Nat.reduceLeDiff, reduceCtorEq, hxy, purify, unownT, lend, unown, AV.hf, h']
end Go.Proofs.Ytailfegmnkldoaa
