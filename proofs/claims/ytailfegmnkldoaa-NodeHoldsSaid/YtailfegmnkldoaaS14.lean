/- THE WALK OF THE REFERENCE'S Apply. No condition but those stated. -/
import Derived.Test.YtailfegmnkldoaaS13
import Derived.Test.YtailfegmnkldoaaSFuns
set_option linter.unusedSimpArgs false
set_option linter.unusedVariables false
set_option linter.unusedSectionVars false
namespace Go.Proofs.Ytailfegmnkldoaa
open Go Go.Am Go.Slots
set_option maxHeartbeats 2000000
set_option maxRecDepth 10000
set_option linter.unusedSimpArgs false
theorem refapply_pc (ps : List (Int × Int)) (rest : List AV) (tk : Tk) (l : List (Int × Int)) (r2 : List AV) (s : Nat) (t2 : Tk) (hz : l ≠ [] → s = 2) (hl : (l.length : Int) < 9223372036854775807) (hps : ps ≠ []) (hn : (ps.length : Int) ≤ 1000) (hc : hfL rest = true) (hc2 : hfL r2 = true) :
    (cbL tab).pc 28 [row ps rest tk, .sl s l.length (encs putA l ++ r2) t2] = some (.plain (row (appP ps l) [] .ro)) := by
  obtain ⟨u1, e1, f1⟩ := lend_sl 1 (2 * ps.length) (encs pairA ps ++ rest) tk
  obtain ⟨u2, e2, f2⟩ := lend_sl s l.length (encs putA l ++ r2) t2
  refine pc_wp (fi := c28) rfl ?_ (by simp [c28]) (by decide) ?_
  · simp only [pcOn, List.map_cons, List.map_nil, hfL, hf_lend_sl, hf_lend_int, hf_lend_bool, hf_lend_str, hfL_append, Bool.and_self, Bool.and_true, Bool.true_and, c28, row, hc, hc2, hf_putA, hf_pairA]
  unfold c28
  have er : row ps rest tk = .sl 1 (2 * ps.length) (encs pairA ps ++ rest) tk := rfl
  rw [List.map_cons, List.map_cons, List.map_nil, er, e1, e2]
  have hp0 : 0 < ps.length := by cases ps with | nil => exact absurd rfl hps | cons _ _ => simp
  have hel : (encs pairA ps).length = 2 * ps.length := by rw [encs_length (k := 2)]; omega
  have ht : List.take (2 * ps.length) (encs pairA ps ++ rest) = encs pairA ps := by rw [← hel, List.take_left']; rfl
  have hal : allOne (encs pairA ps) = true := allOne_encs (fun _ => rfl) ps
  simp (disch := omega) only [wk, avalE, aactE, evPE, boundE, asNat, bv_seql cellsEq_ii, bv_sneqd cellsEq_ii, readC, allOne, fillL, resE, tupled, ↓reduceIte, Nat.reduceEqDiff, Int.reduceEq, Int.reduceLT, Int.reduceLE, Nat.reduceAdd, Nat.reduceMul, Nat.reduceLT, Nat.reduceLeDiff, reduceCtorEq, ht, hel, hal, Tk.empty]
  refine loop_ind (fun (x : List (Int × Int) × List (Int × Int)) E df H => l = x.1 ++ x.2 ∧ E 1 = .sl s l.length (encs putA l ++ r2) u2 ∧ E 5 = .msl 1 0 0 (2 * ps.length) ∧ E 6 = .int .i64 (x.1.length : Nat) ∧ df = [] ∧ H = [.cells (encs pairA (appP ps x.1))])
    (fun x => x.2.length) ([], l) (by decide) (.inl rfl) ⟨rfl, rfl, rfl, rfl, rfl, rfl⟩ ?_
  intro ⟨pre, suf⟩ E df H ih hP
  obtain ⟨a1, E1, E5, E6, hdf, hH⟩ := hP
  dsimp only at a1 E6
  subst hdf hH a1
  simp only [List.length_append] at hl
  cases suf with
  | nil =>
    simp (disch := omega) only [wk, avalE, aactE, evPE, boundE, asNat, bv_seql cellsEq_ii, bv_sneqd cellsEq_ii, readC, allOne, fillL, resE, tupled, ↓reduceIte, Nat.reduceEqDiff, Int.reduceEq, Int.reduceLT, Int.reduceLE, Nat.reduceAdd, Nat.reduceMul, Nat.reduceLT, Nat.reduceLeDiff, reduceCtorEq, E1, E5, E6, purify, unownT, lend, unown, AV.hf]
    have hla : (encs pairA (appP ps pre)).length = 2 * ps.length := by rw [encs_length (k := 2), appP_len]; omega
    rw [if_pos ⟨by omega, hf_pairA _⟩, List.append_nil, row, appP_len, List.append_nil, List.take_of_length_le (by omega)]
  | cons x r =>
    obtain rfl := hz (by simp)
    simp only [List.length_cons] at hl
    obtain ⟨x1, x2⟩ := x
    have hla : (encs pairA (appP ps pre)).length = 2 * ps.length := by rw [encs_length (k := 2), appP_len]; omega
    have hstep : appP ps (pre ++ [(x1, x2)]) = setP (appP ps pre) (x1, x2) := by simp [appP, List.foldl_append]
    by_cases b1 : 0 ≤ x1
    case neg =>
      simp (disch := omega) only [wk, avalE, aactE, evPE, boundE, asNat, bv_seql cellsEq_ii, bv_sneqd cellsEq_ii, readC, allOne, fillL, resE, tupled, ↓reduceIte, Nat.reduceEqDiff, Int.reduceEq, Int.reduceLT, Int.reduceLE, Nat.reduceAdd, Nat.reduceMul, Nat.reduceLT, Nat.reduceLeDiff, reduceCtorEq, E1, E5, E6, putA, b1]
      refine ih (pre ++ [(x1, x2)], r) _ _ _ (by simp) ?_
      refine ⟨by simp, by simp only [en, ↓reduceIte, Nat.reduceEqDiff, E1], by simp only [en, ↓reduceIte, Nat.reduceEqDiff, E5], by simp only [en, ↓reduceIte, Nat.reduceEqDiff], rfl, ?_⟩
      dsimp only
      rw [hstep, setP_out _ _ (by rw [appP_len]; omega)]
    by_cases b2 : x1 < 2 * (ps.length : Int)
    case neg =>
      simp (disch := omega) only [wk, avalE, aactE, evPE, boundE, asNat, bv_seql cellsEq_ii, bv_sneqd cellsEq_ii, readC, allOne, fillL, resE, tupled, ↓reduceIte, Nat.reduceEqDiff, Int.reduceEq, Int.reduceLT, Int.reduceLE, Nat.reduceAdd, Nat.reduceMul, Nat.reduceLT, Nat.reduceLeDiff, reduceCtorEq, E1, E5, E6, putA, b1, b2]
      refine ih (pre ++ [(x1, x2)], r) _ _ _ (by simp) ?_
      refine ⟨by simp, by simp only [en, ↓reduceIte, Nat.reduceEqDiff, E1], by simp only [en, ↓reduceIte, Nat.reduceEqDiff, E5], by simp only [en, ↓reduceIte, Nat.reduceEqDiff], rfl, ?_⟩
      dsimp only
      rw [hstep, setP_out _ _ (by rw [appP_len]; omega)]
    simp (disch := omega) only [wk, avalE, aactE, evPE, boundE, asNat, bv_seql cellsEq_ii, bv_sneqd cellsEq_ii, readC, allOne, fillL, resE, tupled, ↓reduceIte, Nat.reduceEqDiff, Int.reduceEq, Int.reduceLT, Int.reduceLE, Nat.reduceAdd, Nat.reduceMul, Nat.reduceLT, Nat.reduceLeDiff, reduceCtorEq, E1, E5, E6, putA, b1, b2]
    refine ih (pre ++ [(x1, x2)], r) _ _ _ (by simp) ?_
    refine ⟨by simp, by simp only [en, ↓reduceIte, Nat.reduceEqDiff, E1], by simp only [en, ↓reduceIte, Nat.reduceEqDiff, E5], by simp only [en, ↓reduceIte, Nat.reduceEqDiff], rfl, ?_⟩
    dsimp only
    rw [hstep, ← setP_cells _ _ b1]
    rw [List.set_eq_take_append_cons_drop, if_pos (by dsimp only; omega), Nat.zero_add, List.append_assoc]
    rfl
end Go.Proofs.Ytailfegmnkldoaa
