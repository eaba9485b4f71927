/- THE WALKS OF Lay. No condition but those stated. -/
import Derived.Test.YtncmflmjlocgiaaR3
set_option linter.unusedSimpArgs false
set_option linter.unusedVariables false
set_option linter.unusedSectionVars false
namespace Go.Proofs.Ytncmflmjlocgiaa
open Go Go.Am Go.Rec
set_option maxHeartbeats 2000000
set_option maxRecDepth 10000
theorem tdrop (q : List UInt8) (b : UInt8) (r : List UInt8) : List.drop (q.length * 1) (encs byA (q ++ b :: r)) = .int .u8 (b.toNat : Nat) :: encs byA r := by
  rw [drop_pre, encs_cons]; rfl
theorem word_px (l : List UInt8) (tk : Tk) (H : Heap) (hn : l.length ≤ 1000) : pcx (cbL tab) 85 [.sl 1 l.length (encs byA l) tk] H = some (.plain (.int .u64 (wordM (l.take 8)))) := by
  obtain ⟨u1, e1, f1⟩ := lend_sl 1 l.length (encs byA l) tk
  refine pcx_N rfl (pc_wp (fi := c85) rfl ?_ (by simp [c85]) (by decide) ?_)
  · simp only [pcOn, List.map_cons, List.map_nil, hfL, hf_lend_sl, hf_lend_int, hf_lend_bool, hf_lend_str, hfL_append, Bool.and_self, Bool.and_true, Bool.true_and, c85, hf_byA]
  unfold c85
  rw [List.map_cons, List.map_nil, e1]
  have hq : (l.take 8).length = min 8 l.length := List.length_take
  have e : (if (l.length : Int) < 8 then (l.length : Int) else 8) = ((l.take 8).length : Int) := by split <;> omega
  have ll : l = l.take 8 ++ l.drop 8 := (List.take_append_drop 8 l).symm
  have hw8 := wordM_u64 (l := l.take 8) (by omega)
  simp (disch := omega) only [wk1, wk2, wk3, wk4, wk5, wk6, avalE, aactE, evPE, boundE, asNat, Nat.zero_mul, Int.tdiv_eq_ediv_of_nonneg, Int.tmod_eq_emod_of_nonneg, List.length_append, Nat.mul_one, bv_seql cellsEq_ii, bv_sneqd cellsEq_ii, Bool.not_false, Bool.not_true, decide_eq_true_eq, Bool.not_eq_true, eq_self, ne_eq, and_true, true_and, and_self, not_true_eq_false, not_false_eq_true, if_true, if_false, decide_true, decide_false, Int.toNat_natCast, Int.natCast_nonneg, List.drop_zero, List.take_zero, List.take_succ_cons, List.drop_succ_cons, readC, allOne, Bool.and_self, Bool.and_true, Bool.true_and, fillL, beq_self_eq_true, Nat.one_mul, List.drop_nil, resE, tupled, List.map_nil, List.map_cons, Option.map_some, ↓reduceIte, Nat.reduceEqDiff, Int.reduceEq, Int.reduceLT, Int.reduceLE, Nat.reduceAdd, Nat.reduceMul, Nat.reduceLT, Nat.reduceLeDiff, reduceCtorEq, List.length_nil, List.length_cons, Nat.add_zero, Nat.sub_zero, List.nil_append, List.cons_append, List.getElem?_cons_zero, List.getElem?_cons_succ, List.set_cons_zero, List.set_cons_succ, e]
  refine loop_ind (fun (x : List UInt8 × List UInt8) E df H => l.take 8 = x.1 ++ x.2 ∧ E 0 = .sl 1 l.length (encs byA l) u1 ∧ E 3 = .int .u64 (wordM x.2) ∧ E 4 = .int .i64 ((x.1.length : Int) - 1) ∧ df = [] ∧ H = [])
    (fun x => x.1.length) (l.take 8, []) (by decide) (.inl rfl) ⟨by simp, rfl, rfl, rfl, rfl, rfl⟩ ?_
  intro ⟨pre, suf⟩ E df H ih hP
  obtain ⟨a1, E0, E3, E4, hdf, hH⟩ := hP
  dsimp only at a1 E3 E4
  subst hdf hH
  have hq2 := hq
  rw [a1, List.length_append] at hq2
  rcases List.eq_nil_or_concat pre with rfl | ⟨q, b, rfl⟩
  · have n0 : ¬ (0 : Int) ≤ ((([] : List UInt8).length : Nat) : Int) - 1 := by simp
    rw [List.nil_append] at a1
    rw [← a1] at E3
    simp (disch := omega) only [wk1, wk2, wk3, wk4, wk5, wk6, avalE, aactE, evPE, boundE, asNat, Nat.zero_mul, Int.tdiv_eq_ediv_of_nonneg, Int.tmod_eq_emod_of_nonneg, List.length_append, Nat.mul_one, bv_seql cellsEq_ii, bv_sneqd cellsEq_ii, Bool.not_false, Bool.not_true, decide_eq_true_eq, Bool.not_eq_true, eq_self, ne_eq, and_true, true_and, and_self, not_true_eq_false, not_false_eq_true, if_true, if_false, decide_true, decide_false, Int.toNat_natCast, Int.natCast_nonneg, List.drop_zero, List.take_zero, List.take_succ_cons, List.drop_succ_cons, readC, allOne, Bool.and_self, Bool.and_true, Bool.true_and, fillL, beq_self_eq_true, Nat.one_mul, List.drop_nil, resE, tupled, List.map_nil, List.map_cons, Option.map_some, ↓reduceIte, Nat.reduceEqDiff, Int.reduceEq, Int.reduceLT, Int.reduceLE, Nat.reduceAdd, Nat.reduceMul, Nat.reduceLT, Nat.reduceLeDiff, reduceCtorEq, List.length_nil, List.length_cons, Nat.add_zero, Nat.sub_zero, List.nil_append, List.cons_append, List.getElem?_cons_zero, List.getElem?_cons_succ, List.set_cons_zero, List.set_cons_succ, E0, E3, E4, n0, purify, unownT, AV.hf]
  · rw [List.concat_eq_append] at *
    simp only [List.length_append, List.length_singleton] at hq2 E4
    have i1 : ((q.length + 1 : Nat) : Int) - 1 = (q.length : Int) := by omega
    rw [i1] at E4
    have n0 : (0 : Int) ≤ (q.length : Int) := by omega
    have d : List.drop (q.length * 1) (encs byA l) = .int .u8 (b.toNat : Nat) :: encs byA (suf ++ l.drop 8) := by
      have : l = q ++ b :: (suf ++ l.drop 8) := by
        have := ll; rw [a1] at this; simpa using this
      conv => lhs; rw [this]
      exact tdrop _ _ _
    rw [Nat.mul_one] at d
    have hb := u8_lt b
    have hb0 : (0 : Int) ≤ (b.toNat : Int) := by omega
    have w0 := wordM_nonneg suf
    have w1 : (b.toNat : Int) + 256 * wordM suf < 18446744073709551616 := wordM_u64 (l := b :: suf) (by simp; omega)
    have ln : (q.length : Int) < (l.length : Int) := by omega
    simp (disch := omega) only [wk1, wk2, wk3, wk4, wk5, wk6, avalE, aactE, evPE, boundE, asNat, Nat.zero_mul, Int.tdiv_eq_ediv_of_nonneg, Int.tmod_eq_emod_of_nonneg, List.length_append, Nat.mul_one, bv_seql cellsEq_ii, bv_sneqd cellsEq_ii, Bool.not_false, Bool.not_true, decide_eq_true_eq, Bool.not_eq_true, eq_self, ne_eq, and_true, true_and, and_self, not_true_eq_false, not_false_eq_true, if_true, if_false, decide_true, decide_false, Int.toNat_natCast, Int.natCast_nonneg, List.drop_zero, List.take_zero, List.take_succ_cons, List.drop_succ_cons, readC, allOne, Bool.and_self, Bool.and_true, Bool.true_and, fillL, beq_self_eq_true, Nat.one_mul, List.drop_nil, resE, tupled, List.map_nil, List.map_cons, Option.map_some, ↓reduceIte, Nat.reduceEqDiff, Int.reduceEq, Int.reduceLT, Int.reduceLE, Nat.reduceAdd, Nat.reduceMul, Nat.reduceLT, Nat.reduceLeDiff, reduceCtorEq, List.length_nil, List.length_cons, Nat.add_zero, Nat.sub_zero, List.nil_append, List.cons_append, List.getElem?_cons_zero, List.getElem?_cons_succ, List.set_cons_zero, List.set_cons_succ, E0, E3, E4, n0, d, ln]
    refine ih (q, b :: suf) _ _ _ (by simp) ?_
    exact ⟨by simp [a1], by simp only [upd_app, updD_some, updD_none, ↓reduceIte, Nat.reduceEqDiff, if_true, if_false, List.length_append, List.length_cons, List.length_nil, Nat.zero_add, Nat.add_zero, cast_succ, argE_zero, argE_succ, E0], by simp only [upd_app, updD_some, updD_none, ↓reduceIte, Nat.reduceEqDiff, if_true, if_false, List.length_append, List.length_cons, List.length_nil, Nat.zero_add, Nat.add_zero, cast_succ, argE_zero, argE_succ, wordM, Int.add_comm], by simp only [upd_app, updD_some, updD_none, ↓reduceIte, Nat.reduceEqDiff, if_true, if_false, List.length_append, List.length_cons, List.length_nil, Nat.zero_add, Nat.add_zero, cast_succ, argE_zero, argE_succ], rfl, rfl⟩
theorem lay_step (l : List UInt8) (k : Nat) (h : 8 * k < l.length) : layM (l.take (8 * (k + 1))) = layM (l.take (8 * k)) ++ [wordM ((l.drop (8 * k)).take 8)] := by
  have e : 8 * (k + 1) = 8 * k + 8 := by omega
  rw [e, List.take_add, layM_append _ k _ (by rw [List.length_take]; omega)]
  have h0 : (l.drop (8 * k)).take 8 ≠ [] := by
    intro e
    have := congrArg List.length e
    rw [List.length_take, List.length_drop, List.length_nil] at this
    omega
  rw [layM_short h0 (by rw [List.length_take]; omega)]
theorem rlay_px (l : List UInt8) (s : Nat) (tk : Tk) (H : Heap) (hn : l.length ≤ 1000) (hs : s = 1) : pcx (cbL tab) 50 [.sl s l.length (encs byA l) tk] H = some (prRow 1 u64A (layM l)) := by
  subst hs
  obtain ⟨u1, e1, f1⟩ := lend_sl 1 l.length (encs byA l) tk
  refine pcx_N rfl (pc_wp (fi := c50) rfl ?_ (by simp [c50]) (by decide) ?_)
  · simp only [pcOn, List.map_cons, List.map_nil, hfL, hf_lend_sl, hf_lend_int, hf_lend_bool, hf_lend_str, hfL_append, Bool.and_self, Bool.and_true, Bool.true_and, c50, hf_byA]
  unfold c50
  rw [List.map_cons, List.map_nil, e1]
  simp (disch := omega) only [wk1, wk2, wk3, wk4, wk5, wk6, avalE, aactE, evPE, boundE, asNat, Nat.zero_mul, Int.tdiv_eq_ediv_of_nonneg, Int.tmod_eq_emod_of_nonneg, List.length_append, Nat.mul_one, bv_seql cellsEq_ii, bv_sneqd cellsEq_ii, Bool.not_false, Bool.not_true, decide_eq_true_eq, Bool.not_eq_true, eq_self, ne_eq, and_true, true_and, and_self, not_true_eq_false, not_false_eq_true, if_true, if_false, decide_true, decide_false, Int.toNat_natCast, Int.natCast_nonneg, List.drop_zero, List.take_zero, List.take_succ_cons, List.drop_succ_cons, readC, allOne, Bool.and_self, Bool.and_true, Bool.true_and, fillL, beq_self_eq_true, Nat.one_mul, List.drop_nil, resE, tupled, List.map_nil, List.map_cons, Option.map_some, ↓reduceIte, Nat.reduceEqDiff, Int.reduceEq, Int.reduceLT, Int.reduceLE, Nat.reduceAdd, Nat.reduceMul, Nat.reduceLT, Nat.reduceLeDiff, reduceCtorEq, List.length_nil, List.length_cons, Nat.add_zero, Nat.sub_zero, List.nil_append, List.cons_append, List.getElem?_cons_zero, List.getElem?_cons_succ, List.set_cons_zero, List.set_cons_succ]
  refine loop_ind (fun (k : Nat) E df H => E 4 = .int .i64 ((8 * k : Nat) : Int) ∧ E 0 = .sl 1 l.length (encs byA l) u1 ∧ Own H 1 (E 3) (layM (l.take (8 * k))).length (encs u64A (layM (l.take (8 * k)))) ∧ (∀ s n c, E 3 ≠ .sl s n c .e) ∧ 8 * k ≤ l.length + 7 ∧ df = [])
    (fun k => l.length + 8 - 8 * k) 0 (by decide) (.inl rfl) ⟨rfl, rfl, by rw [Nat.mul_zero, List.take_zero, layM_nil]; exact .inl ⟨.inl rfl, rfl, rfl⟩, (by intro s n c h; cases h), by omega, rfl⟩ ?_
  intro k E df H ih hP
  obtain ⟨E4, E0, ho, hne, hk, hdf⟩ := hP
  subst hdf
  by_cases hlt : 8 * k < l.length
  case neg =>
    rw [List.take_of_length_le (by omega)] at ho
    have n1 : ¬ ((8 * k : Nat) : Int) < (l.length : Int) := by omega
    simp (disch := omega) only [wk1, wk2, wk3, wk4, wk5, wk6, avalE, aactE, evPE, boundE, asNat, Nat.zero_mul, Int.tdiv_eq_ediv_of_nonneg, Int.tmod_eq_emod_of_nonneg, List.length_append, Nat.mul_one, bv_seql cellsEq_ii, bv_sneqd cellsEq_ii, Bool.not_false, Bool.not_true, decide_eq_true_eq, Bool.not_eq_true, eq_self, ne_eq, and_true, true_and, and_self, not_true_eq_false, not_false_eq_true, if_true, if_false, decide_true, decide_false, Int.toNat_natCast, Int.natCast_nonneg, List.drop_zero, List.take_zero, List.take_succ_cons, List.drop_succ_cons, readC, allOne, Bool.and_self, Bool.and_true, Bool.true_and, fillL, beq_self_eq_true, Nat.one_mul, List.drop_nil, resE, tupled, List.map_nil, List.map_cons, Option.map_some, ↓reduceIte, Nat.reduceEqDiff, Int.reduceEq, Int.reduceLT, Int.reduceLE, Nat.reduceAdd, Nat.reduceMul, Nat.reduceLT, Nat.reduceLeDiff, reduceCtorEq, List.length_nil, List.length_cons, Nat.add_zero, Nat.sub_zero, List.nil_append, List.cons_append, List.getElem?_cons_zero, List.getElem?_cons_succ, List.set_cons_zero, List.set_cons_succ, E0, E4, n1, purify_row (fun _ => rfl) ho (fun _ => hne)]
  case pos =>
    have w1 : ∀ tk H, pcx (cbL tab) 85 [.sl 1 (l.length - 8 * k) (encs byA (l.drop (8 * k))) tk] H = some (.plain (.int .u64 (wordM ((l.drop (8 * k)).take 8)))) := fun tk H => by
      have := word_px (l.drop (8 * k)) tk H (by rw [List.length_drop]; omega)
      rw [List.length_drop] at this
      exact this
    have hd : List.drop (8 * k) (encs byA l) = encs byA (l.drop (8 * k)) := by
      have := encs_drop (f := byA) l (8 * k)
      rw [Nat.mul_one] at this
      exact this
    have hsl : (if 8 * k = 0 then AV.sl 1 l.length (encs byA l) u1 else .sl 1 (l.length - 8 * k) (List.drop (8 * k) (encs byA l)) .ro) = .sl 1 (l.length - 8 * k) (encs byA (l.drop (8 * k))) (if 8 * k = 0 then u1 else .ro) := by
      split
      · rename_i h0; rw [h0]; rfl
      · rw [hd]
    have enl : (encs byA l).length = l.length := by rw [encs_length (k := 1), Nat.mul_one]
    have hle : 8 * k ≤ l.length := by omega
    have n1 : ((8 * k : Nat) : Int) < (l.length : Int) := by omega
    have ll : (layM (l.take (8 * k))).length ≤ 1000 := by rw [layM_len, List.length_take]; omega
    simp (disch := omega) only [wk1, wk2, wk3, wk4, wk5, wk6, avalE, aactE, evPE, boundE, asNat, Nat.zero_mul, Int.tdiv_eq_ediv_of_nonneg, Int.tmod_eq_emod_of_nonneg, List.length_append, Nat.mul_one, bv_seql cellsEq_ii, bv_sneqd cellsEq_ii, Bool.not_false, Bool.not_true, decide_eq_true_eq, Bool.not_eq_true, eq_self, ne_eq, and_true, true_and, and_self, not_true_eq_false, not_false_eq_true, if_true, if_false, decide_true, decide_false, Int.toNat_natCast, Int.natCast_nonneg, List.drop_zero, List.take_zero, List.take_succ_cons, List.drop_succ_cons, readC, allOne, Bool.and_self, Bool.and_true, Bool.true_and, fillL, beq_self_eq_true, Nat.one_mul, List.drop_nil, resE, tupled, List.map_nil, List.map_cons, Option.map_some, ↓reduceIte, Nat.reduceEqDiff, Int.reduceEq, Int.reduceLT, Int.reduceLE, Nat.reduceAdd, Nat.reduceMul, Nat.reduceLT, Nat.reduceLeDiff, reduceCtorEq, List.length_nil, List.length_cons, Nat.add_zero, Nat.sub_zero, List.nil_append, List.cons_append, List.getElem?_cons_zero, List.getElem?_cons_succ, List.set_cons_zero, List.set_cons_succ, E0, E4, n1, enl, hle, hsl, w1, Nat.le_refl, and_true]
    refine runX_app ho (by omega) (by omega) (by omega) (by omega) rfl rfl (fun H1 q1 q2 q3 => ?_)
    simp (disch := omega) only [wk1, wk2, wk3, wk4, wk5, wk6, avalE, aactE, evPE, boundE, asNat, Nat.zero_mul, Int.tdiv_eq_ediv_of_nonneg, Int.tmod_eq_emod_of_nonneg, List.length_append, Nat.mul_one, bv_seql cellsEq_ii, bv_sneqd cellsEq_ii, Bool.not_false, Bool.not_true, decide_eq_true_eq, Bool.not_eq_true, eq_self, ne_eq, and_true, true_and, and_self, not_true_eq_false, not_false_eq_true, if_true, if_false, decide_true, decide_false, Int.toNat_natCast, Int.natCast_nonneg, List.drop_zero, List.take_zero, List.take_succ_cons, List.drop_succ_cons, readC, allOne, Bool.and_self, Bool.and_true, Bool.true_and, fillL, beq_self_eq_true, Nat.one_mul, List.drop_nil, resE, tupled, List.map_nil, List.map_cons, Option.map_some, ↓reduceIte, Nat.reduceEqDiff, Int.reduceEq, Int.reduceLT, Int.reduceLE, Nat.reduceAdd, Nat.reduceMul, Nat.reduceLT, Nat.reduceLeDiff, reduceCtorEq, List.length_nil, List.length_cons, Nat.add_zero, Nat.sub_zero, List.nil_append, List.cons_append, List.getElem?_cons_zero, List.getElem?_cons_succ, List.set_cons_zero, List.set_cons_succ, E4]
    refine ih (k + 1) _ _ _ (by omega) ?_
    refine ⟨?_, by simp only [upd_app, updD_some, updD_none, ↓reduceIte, Nat.reduceEqDiff, if_true, if_false, List.length_append, List.length_cons, List.length_nil, Nat.zero_add, Nat.add_zero, cast_succ, argE_zero, argE_succ, E0], ?_, ?_, by omega, rfl⟩
    · have : ((8 * k : Nat) : Int) + 8 = ((8 * (k + 1) : Nat) : Int) := by omega
      simp only [upd_app, updD_some, updD_none, ↓reduceIte, Nat.reduceEqDiff, if_true, if_false, List.length_append, List.length_cons, List.length_nil, Nat.zero_add, Nat.add_zero, cast_succ, argE_zero, argE_succ, this]
    · have e : encs u64A (layM (l.take (8 * k))) ++ [.int .u64 (wordM ((l.drop (8 * k)).take 8))] = encs u64A (layM (l.take (8 * (k + 1)))) := by
        rw [lay_step l k hlt, encs_append]; rfl
      have e2 : (layM (l.take (8 * k))).length + 1 = (layM (l.take (8 * (k + 1)))).length := by
        rw [lay_step l k hlt, List.length_append]; rfl
      rw [e, e2] at q1
      simp only [upd_app, updD_some, updD_none, ↓reduceIte, Nat.reduceEqDiff, if_true, if_false, List.length_append, List.length_cons, List.length_nil, Nat.zero_add, Nat.add_zero, cast_succ, argE_zero, argE_succ]
      rw [e, e2]
      exact q1
    · simp only [upd_app, updD_some, updD_none, ↓reduceIte, Nat.reduceEqDiff, if_true, if_false, List.length_append, List.length_cons, List.length_nil, Nat.zero_add, Nat.add_zero, cast_succ, argE_zero, argE_succ]
      intro s n c h
      cases h
end Go.Proofs.Ytncmflmjlocgiaa
