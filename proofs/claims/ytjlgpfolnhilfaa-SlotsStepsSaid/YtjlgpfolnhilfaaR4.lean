/- THE WALKS OF THE REFERENCE'S Swap. No condition but those stated. -/
import Derived.Test.YtjlgpfolnhilfaaR3
set_option linter.unusedSimpArgs false
set_option linter.unusedVariables false
set_option linter.unusedSectionVars false
namespace Go.Proofs.Ytjlgpfolnhilfaa
open Go Go.Am Go.Slots
set_option maxHeartbeats 2000000
set_option maxRecDepth 10000
theorem refswap_no (left : Int) (n : Nat) (cs : List AV) (tk : Tk) (p : Int × Int) (H : Heap) (hn : (n : Int) ≤ 9223372036854775807) (hc : hfL cs = true) (hr : ¬ (right left n ∧ p.2 ≠ 0 ∧ p.2 ≠ left)) :
    pcx (cbL tab) 35 [.int .u64 left, .sl 1 n cs tk, .agg (pairA p)] H = some (.plain (resT ([], 2))) := by
  obtain ⟨u1, e1, f1⟩ := lend_sl 1 n cs tk
  have ep : lend (.agg (pairA p)) = .agg (pairA p) := rfl
  refine pcx_N rfl (pc_wp (fi := c35) rfl ?_ (by simp [c35]) (by decide) ?_)
  · simp only [pcOn, List.map_cons, List.map_nil, hfL, hf_lend_sl, hf_lend_int, hf_lend_bool, hf_lend_str, hfL_append, Bool.and_self, Bool.and_true, Bool.true_and, c35, hc, ep]; rfl
  unfold c35
  rw [List.map_cons, List.map_cons, List.map_cons, List.map_nil, e1, lend_int, ep]
  have r1 := fun H => pointer_no left n cs u1 p H hn hc hr
  simp only [pairA] at r1
  simp (disch := omega) only [wk1, wk2, wk3, wk4, wk5, wk6, avalE, aactE, evPE, boundE, asNat, Nat.zero_mul, Int.tdiv_eq_ediv_of_nonneg, Int.tmod_eq_emod_of_nonneg, List.length_append, Nat.mul_one, bv_seql cellsEq_ii, bv_sneqd cellsEq_ii, Bool.not_false, Bool.not_true, decide_eq_true_eq, Bool.not_eq_true, eq_self, ne_eq, and_true, true_and, and_self, not_true_eq_false, not_false_eq_true, if_true, if_false, decide_true, decide_false, Int.toNat_natCast, Int.natCast_nonneg, List.drop_zero, List.take_zero, List.take_succ_cons, List.drop_succ_cons, readC, allOne, Bool.and_self, Bool.and_true, Bool.true_and, fillL, beq_self_eq_true, Nat.one_mul, List.drop_nil, resE, tupled, List.map_nil, List.map_cons, Option.map_some, ↓reduceIte, Nat.reduceEqDiff, Int.reduceEq, Int.reduceLT, Int.reduceLE, Nat.reduceAdd, Nat.reduceMul, Nat.reduceLT, Nat.reduceLeDiff, reduceCtorEq, List.length_nil, List.length_cons, Nat.add_zero, Nat.sub_zero, List.nil_append, List.cons_append, List.getElem?_cons_zero, List.getElem?_cons_succ, List.set_cons_zero, List.set_cons_succ, pairA, r1, purify, unownT, unown, AV.hf, hfL, Tk.hf, resT_nil]
theorem refswap_yes (left : Int) (ps : List (Int × Int)) (rest : List AV) (tk : Tk) (p : Int × Int) (H : Heap) (hc : hfL rest = true) (hr : right left (2 * ps.length)) (hp : p.2 ≠ 0) (hp2 : p.2 ≠ left) :
    pcx (cbL tab) 35 [.int .u64 left, row ps rest tk, .agg (pairA p)] H = some (.plain (resT (swapM left ps p))) := by
  obtain ⟨u1, e1, f1⟩ := lend_sl 1 (2 * ps.length) (encs pairA ps ++ rest) tk
  have ep : lend (.agg (pairA p)) = .agg (pairA p) := rfl
  have hn := hr.2.2.2
  have hlen := rdL_le left ps
  refine pcx_N rfl (pc_wp (fi := c35) rfl ?_ (by simp [c35]) (by decide) ?_)
  · simp only [pcOn, List.map_cons, List.map_nil, hfL, hf_lend_sl, hf_lend_int, hf_lend_bool, hf_lend_str, hfL_append, Bool.and_self, Bool.and_true, Bool.true_and, c35, row, hc, hf_pairA, ep]; rfl
  unfold c35
  rw [List.map_cons, List.map_cons, List.map_cons, List.map_nil, row, e1, lend_int, ep]
  have r1 := fun H => pointer_yes left ps rest u1 p H hc hr hp hp2
  have r2 := fun H => refread_px left ps rest u1 H (by omega) hc
  obtain ⟨s, tk', es, hz, htk⟩ := slvR_form 2 pairA (rdL left ps)
  have r4 := fun H => pcx_N (H := H) rfl (find_pc (rdL left ps) p.1 s tk' (by omega) hz)
  rw [es] at r2
  rw [← pointerE] at r1
  simp only [pairA, row] at r1 r2 r4
  by_cases h1 : pointerE left ps p = 0
  case neg =>
    have hm : swapM left ps p = ([], pointerE left ps p) := by rw [swapM, if_pos h1]
    simp (disch := omega) only [wk1, wk2, wk3, wk4, wk5, wk6, avalE, aactE, evPE, boundE, asNat, Nat.zero_mul, Int.tdiv_eq_ediv_of_nonneg, Int.tmod_eq_emod_of_nonneg, List.length_append, Nat.mul_one, bv_seql cellsEq_ii, bv_sneqd cellsEq_ii, Bool.not_false, Bool.not_true, decide_eq_true_eq, Bool.not_eq_true, eq_self, ne_eq, and_true, true_and, and_self, not_true_eq_false, not_false_eq_true, if_true, if_false, decide_true, decide_false, Int.toNat_natCast, Int.natCast_nonneg, List.drop_zero, List.take_zero, List.take_succ_cons, List.drop_succ_cons, readC, allOne, Bool.and_self, Bool.and_true, Bool.true_and, fillL, beq_self_eq_true, Nat.one_mul, List.drop_nil, resE, tupled, List.map_nil, List.map_cons, Option.map_some, ↓reduceIte, Nat.reduceEqDiff, Int.reduceEq, Int.reduceLT, Int.reduceLE, Nat.reduceAdd, Nat.reduceMul, Nat.reduceLT, Nat.reduceLeDiff, reduceCtorEq, List.length_nil, List.length_cons, Nat.add_zero, Nat.sub_zero, List.nil_append, List.cons_append, List.getElem?_cons_zero, List.getElem?_cons_succ, List.set_cons_zero, List.set_cons_succ, pairA, r1, h1, purify, unownT, unown, AV.hf, hfL, Tk.hf, resT_nil, hm]
  have hfl := findL_le p.1 (rdL left ps)
  by_cases h2 : keyAtI (rdL left ps) (findL' p.1 (rdL left ps)) p.1
  case neg =>
    have hm : swapM left ps p = ([], 5) := by rw [swapM, if_neg (by simp [h1]), if_neg h2]
    simp (disch := omega) only [wk1, wk2, wk3, wk4, wk5, wk6, avalE, aactE, evPE, boundE, asNat, Nat.zero_mul, Int.tdiv_eq_ediv_of_nonneg, Int.tmod_eq_emod_of_nonneg, List.length_append, Nat.mul_one, bv_seql cellsEq_ii, bv_sneqd cellsEq_ii, Bool.not_false, Bool.not_true, decide_eq_true_eq, Bool.not_eq_true, eq_self, ne_eq, and_true, true_and, and_self, not_true_eq_false, not_false_eq_true, if_true, if_false, decide_true, decide_false, Int.toNat_natCast, Int.natCast_nonneg, List.drop_zero, List.take_zero, List.take_succ_cons, List.drop_succ_cons, readC, allOne, Bool.and_self, Bool.and_true, Bool.true_and, fillL, beq_self_eq_true, Nat.one_mul, List.drop_nil, resE, tupled, List.map_nil, List.map_cons, Option.map_some, ↓reduceIte, Nat.reduceEqDiff, Int.reduceEq, Int.reduceLT, Int.reduceLE, Nat.reduceAdd, Nat.reduceMul, Nat.reduceLT, Nat.reduceLeDiff, reduceCtorEq, List.length_nil, List.length_cons, Nat.add_zero, Nat.sub_zero, List.nil_append, List.cons_append, List.getElem?_cons_zero, List.getElem?_cons_succ, List.set_cons_zero, List.set_cons_succ, pairA, r1, r2, r4, h1, h2, purify, unownT, unown, AV.hf, hfL, Tk.hf, resT_nil, hm]
  · have hm : swapM left ps p = ([(2 * ((findL' p.1 (rdL left ps) : Nat) : Int) + 1, p.2)], 0) := by rw [swapM, if_neg (by simp [h1]), if_pos h2]
    simp (disch := omega) only [wk1, wk2, wk3, wk4, wk5, wk6, avalE, aactE, evPE, boundE, asNat, Nat.zero_mul, Int.tdiv_eq_ediv_of_nonneg, Int.tmod_eq_emod_of_nonneg, List.length_append, Nat.mul_one, bv_seql cellsEq_ii, bv_sneqd cellsEq_ii, Bool.not_false, Bool.not_true, decide_eq_true_eq, Bool.not_eq_true, eq_self, ne_eq, and_true, true_and, and_self, not_true_eq_false, not_false_eq_true, if_true, if_false, decide_true, decide_false, Int.toNat_natCast, Int.natCast_nonneg, List.drop_zero, List.take_zero, List.take_succ_cons, List.drop_succ_cons, readC, allOne, Bool.and_self, Bool.and_true, Bool.true_and, fillL, beq_self_eq_true, Nat.one_mul, List.drop_nil, resE, tupled, List.map_nil, List.map_cons, Option.map_some, ↓reduceIte, Nat.reduceEqDiff, Int.reduceEq, Int.reduceLT, Int.reduceLE, Nat.reduceAdd, Nat.reduceMul, Nat.reduceLT, Nat.reduceLeDiff, reduceCtorEq, List.length_nil, List.length_cons, Nat.add_zero, Nat.sub_zero, List.nil_append, List.cons_append, List.getElem?_cons_zero, List.getElem?_cons_succ, List.set_cons_zero, List.set_cons_succ, pairA, r1, r2, r4, h1, h2, purify, unownT, unown, AV.hf, hfL, Tk.hf, hm, List.append_nil, List.append_nil]
    rfl
end Go.Proofs.Ytjlgpfolnhilfaa
