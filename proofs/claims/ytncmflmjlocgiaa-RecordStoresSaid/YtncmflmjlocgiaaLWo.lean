/- THE LAW RecordWords COMES TO true. No condition but those stated. -/
import Derived.Test.YtncmflmjlocgiaaR10
import Derived.Test.YtncmflmjlocgiaaAmOpen
set_option linter.unusedSimpArgs false
set_option linter.unusedVariables false
set_option linter.unusedSectionVars false
namespace Go.Proofs.Ytncmflmjlocgiaa
open Go Go.Am Go.Rec
set_option maxHeartbeats 2000000
set_option maxRecDepth 10000
theorem okL_rec {xs : List AV} (h : OkL [.int .i64, .str] xs) : ∃ n s, xs = [.int .i64 n, .str s] ∧ -9223372036854775808 ≤ n ∧ n ≤ 9223372036854775807 ∧ s.size ≤ 9223372036854775807 := by
  obtain ⟨hl, hi⟩ := h
  match xs, hl with
  | [a, b], _ =>
    have h0 := hi 0 (.int .i64) a rfl rfl
    have h1 := hi 1 .str b rfl rfl
    cases h0 with
    | int _ n h1' h2' =>
      cases h1 with
      | str s hs => exact ⟨n, s, rfl, h1', h2', hs⟩
theorem ba_beq (s t : ByteArray) : (s == t) = decide (s = t) := by
  by_cases h : s = t
  · subst h
    rw [beq_toListBytes, decide_eq_true rfl, beq_self_eq_true]
  · rw [decide_eq_false h]
    have : ¬ (s == t) = true := fun e => h (by
      rw [beq_toListBytes, ByteArray.toList_eq, ByteArray.toList_eq] at e
      have := eq_of_beq e
      obtain ⟨⟨a⟩⟩ := s
      obtain ⟨⟨b⟩⟩ := t
      exact congrArg (fun l => ByteArray.mk (Array.mk l)) this)
    simpa using this
theorem ceq_rec {n m : Int} {s t : ByteArray} : cellsEq [0, 2] [.int .i64 n, .str s] [.int .i64 m, .str t] = some (decide (n = m ∧ s = t)) := by
  by_cases h1 : n = m
  · subst h1
    by_cases h2 : s = t
    · subst h2; simp [cellsEq, cellEq, ba_beq]
    · simp [cellsEq, cellEq, ba_beq, h2]
  · have : (n == m) = false := by simp [h1]
    simp [cellsEq, cellEq, this, h1]
theorem ofR_words {n : Int} {s : ByteArray} (h : recOk n s) : ofR (wordsM n s) = ((n, s), 0) := by
  rw [ofR, if_pos (isM_words h), (textM_words h).1, (textM_words h).2]
theorem slvR_words {n : Int} {s : ByteArray} (h : recOk n s) : slvR 1 u64A (wordsM n s) = .sl 1 16 (encs u64A (wordsM n s)) .ro := by
  have h16 := wordsM_len (n := n) (nameM_size h.2.2)
  unfold slvR
  have : (wordsM n s).isEmpty = false := by
    cases h' : wordsM n s with
    | nil => rw [h'] at h16; cases h16
    | cons _ _ => rfl
  rw [this, h16]; rfl
theorem recordWords_pc {xs : List AV} (h : OkL [.int .i64, .str] xs) : (cbL tab).pc 3 [.agg xs] = some (.plain (.bool true)) := by
  obtain ⟨n, s, rfl, n1, n2, hs⟩ := okL_rec h
  refine pc_wp (fi := c3) rfl rfl (by simp [c3]) (by decide) ?_
  unfold c3
  have lr : lend (.agg [.int .i64 n, .str s]) = .agg [.int .i64 n, .str s] := rfl
  rw [List.map_cons, List.map_nil, lr]
  by_cases h3 : 300 < s.size
  · have h3' : (300 : Int) < s.size := by omega
    simp (disch := omega) only [wk1, wk2, wk3, wk4, wk5, wk6, avalE, aactE, evPE, boundE, asNat, Nat.zero_mul, Int.tdiv_eq_ediv_of_nonneg, Int.tmod_eq_emod_of_nonneg, List.length_append, Nat.mul_one, bv_seql cellsEq_ii, bv_sneqd cellsEq_ii, Bool.not_false, Bool.not_true, decide_eq_true_eq, Bool.not_eq_true, eq_self, ne_eq, and_true, true_and, and_self, not_true_eq_false, not_false_eq_true, if_true, if_false, decide_true, decide_false, Int.toNat_natCast, Int.natCast_nonneg, List.drop_zero, List.take_zero, List.take_succ_cons, List.drop_succ_cons, readC, allOne, Bool.and_self, Bool.and_true, Bool.true_and, fillL, beq_self_eq_true, Nat.one_mul, List.drop_nil, resE, tupled, List.map_nil, List.map_cons, Option.map_some, ↓reduceIte, Nat.reduceEqDiff, Int.reduceEq, Int.reduceLT, Int.reduceLE, Nat.reduceAdd, Nat.reduceMul, Nat.reduceLT, Nat.reduceLeDiff, reduceCtorEq, List.length_nil, List.length_cons, Nat.add_zero, Nat.sub_zero, List.nil_append, List.cons_append, List.getElem?_cons_zero, List.getElem?_cons_succ, List.set_cons_zero, List.set_cons_succ, h3', works_px, purify, unownT, AV.hf]
  have h3' : ¬ (300 : Int) < s.size := by omega
  have w1 := fun H => words_px n s H
  have w2 := fun H => rwords_px n s H (by omega)
  have c1 := fun H => check_px n s H
  have c2 := fun H => rcheck15_px n s H (by omega)
  simp only [recV] at w1 w2 c1 c2
  have wR : wordsR n s = if recOk n s then (wordsM n s, 0) else ([], 250) := rfl
  by_cases hk : recOk n s
  · have sv := slvR_words hk
    have h16 := wordsM_len (n := n) (nameM_size hk.2.2)
    have sm := fun H => same_px (wordsM n s) (wordsM n s) [] [] 1 1 .ro .ro H (by omega) (by omega) (fun _ => rfl) (fun _ => rfl) rfl rfl
    simp only [List.append_nil, h16] at sm
    have oo := fun H => rof_px (wordsM n s) [] 1 .ro H _ (lendK_sl _ _ _ _ _ _) (by omega) (fun _ => rfl) rfl rfl (wordsM_u64 hk)
    rw [ofR_words hk] at oo
    simp only [List.append_nil, h16, resO, recV] at oo
    simp (disch := omega) only [wk1, wk2, wk3, wk4, wk5, wk6, avalE, aactE, evPE, boundE, asNat, Nat.zero_mul, Int.tdiv_eq_ediv_of_nonneg, Int.tmod_eq_emod_of_nonneg, List.length_append, Nat.mul_one, bv_seql cellsEq_ii, bv_sneqd cellsEq_ii, Bool.not_false, Bool.not_true, decide_eq_true_eq, Bool.not_eq_true, eq_self, ne_eq, and_true, true_and, and_self, not_true_eq_false, not_false_eq_true, if_true, if_false, decide_true, decide_false, Int.toNat_natCast, Int.natCast_nonneg, List.drop_zero, List.take_zero, List.take_succ_cons, List.drop_succ_cons, readC, allOne, Bool.and_self, Bool.and_true, Bool.true_and, fillL, beq_self_eq_true, Nat.one_mul, List.drop_nil, resE, tupled, List.map_nil, List.map_cons, Option.map_some, ↓reduceIte, Nat.reduceEqDiff, Int.reduceEq, Int.reduceLT, Int.reduceLE, Nat.reduceAdd, Nat.reduceMul, Nat.reduceLT, Nat.reduceLeDiff, reduceCtorEq, List.length_nil, List.length_cons, Nat.add_zero, Nat.sub_zero, List.nil_append, List.cons_append, List.getElem?_cons_zero, List.getElem?_cons_succ, List.set_cons_zero, List.set_cons_succ, h3', w1, w2, c1, c2, wR, hk, resW, sv, sm, num_px, oo, works_px, bv_seql ceq_rec, purify, unownT, AV.hf]
  · have sv : slvR 1 u64A [] = .sl 0 0 [] .z := rfl
    have sm := fun H => same_px [] [] [] [] 0 0 .z .z H (by simp) (by simp) (fun h => absurd rfl h) (fun h => absurd rfl h) rfl rfl
    simp only [List.append_nil, encs_nil, List.length_nil] at sm
    simp (disch := omega) only [wk1, wk2, wk3, wk4, wk5, wk6, avalE, aactE, evPE, boundE, asNat, Nat.zero_mul, Int.tdiv_eq_ediv_of_nonneg, Int.tmod_eq_emod_of_nonneg, List.length_append, Nat.mul_one, bv_seql cellsEq_ii, bv_sneqd cellsEq_ii, Bool.not_false, Bool.not_true, decide_eq_true_eq, Bool.not_eq_true, eq_self, ne_eq, and_true, true_and, and_self, not_true_eq_false, not_false_eq_true, if_true, if_false, decide_true, decide_false, Int.toNat_natCast, Int.natCast_nonneg, List.drop_zero, List.take_zero, List.take_succ_cons, List.drop_succ_cons, readC, allOne, Bool.and_self, Bool.and_true, Bool.true_and, fillL, beq_self_eq_true, Nat.one_mul, List.drop_nil, resE, tupled, List.map_nil, List.map_cons, Option.map_some, ↓reduceIte, Nat.reduceEqDiff, Int.reduceEq, Int.reduceLT, Int.reduceLE, Nat.reduceAdd, Nat.reduceMul, Nat.reduceLT, Nat.reduceLeDiff, reduceCtorEq, List.length_nil, List.length_cons, Nat.add_zero, Nat.sub_zero, List.nil_append, List.cons_append, List.getElem?_cons_zero, List.getElem?_cons_succ, List.set_cons_zero, List.set_cons_succ, h3', w1, w2, c1, c2, wR, hk, resW, sv, sm, num_px, works_px, purify, unownT, AV.hf]
end Go.Proofs.Ytncmflmjlocgiaa
